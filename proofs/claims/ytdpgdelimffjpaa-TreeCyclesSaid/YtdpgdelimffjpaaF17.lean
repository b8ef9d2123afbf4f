-- Written by wip/drive.py (a prover's driver over the kit's print.py); hand-proved contracts stand among the printed ones. Lean checks it.
import Derived.Test.YtdpgdelimffjpaaFBase
import Derived.Test.YtdpgdelimffjpaaF31
import Derived.Test.YtdpgdelimffjpaaF51
import Derived.Test.YtdpgdelimffjpaaF56
import Derived.Test.YtdpgdelimffjpaaF57
import Derived.Test.YtdpgdelimffjpaaF59
import Derived.Test.YtdpgdelimffjpaaFA
import Derived.Test.YtdpgdelimffjpaaFB
namespace Go.Proofs.Ytdpgdelimffjpaa.P
open Go.RowKit Go.Proofs.YtdpgdelimffjpaaW.PrintWords Go.Proofs.YtdpgdelimffjpaaW.PrintLast Go.Proofs.YtdpgdelimffjpaaW.PrintMore
attribute [local go_sem] max2_int min2_int max_two min_two max_three min_three max_four min_four   -- for this text's walks alone
set_option linter.unusedVariables false
set_option linter.unusedSimpArgs false

/-! ### pylonlaw16_TreeCycles: function 17 -/
mutual
def pylonlaw16_TreeCycles.j0 : Nat → List Int → Bool → Int → List (S37) → Option (Bool)
  | 0, _, _, _, _ => none
  | k + 1, x1, x28, x983000, x983001 => if x28 = true then ((pylonlaw16_awake.f).bind fun t989 => (some t989)) else ((tree_Cycles.f k x983000 x983001 x1).bind fun bt990 => ((tree_Tree.f k x983000 x983001 x1).bind fun bt994 => ((net_In.f x983000 x983001 x1).bind fun bt998 => (if bt990.2 = 0 then (if bt994.2 = 0 then (pylonlaw16_TreeCycles.j1 k bt990.1 bt994.1 bt998.1 (bt998.2 != 0) x983000 x983001) else (pylonlaw16_TreeCycles.j1 k bt990.1 bt994.1 bt998.1 true x983000 x983001)) else (pylonlaw16_TreeCycles.j1 k bt990.1 bt994.1 bt998.1 true x983000 x983001)))))
def pylonlaw16_TreeCycles.j1 : Nat → List (List Int) → List Int → List Int → Bool → Int → List (S37) → Option (Bool)
  | 0, _, _, _, _, _, _ => none
  | k + 1, x5, x7, x9, x57, x983000, x983001 => if x57 = true then (some false) else (pylonlaw16_TreeCycles.l0 k x5 x7 x9 ([] : List Int) 0 x983000 x983001)
def pylonlaw16_TreeCycles.l0 : Nat → List (List Int) → List Int → List Int → List Int → Int → Int → List (S37) → Option (Bool)
  | 0, _, _, _, _, _, _, _ => none
  | k + 1, x5, x7, x9, x11, x12, x983000, x983001 => if x12 < (x9.length : Int) then (if 0 ≤ x12 then ((pylonlaw16_has.f k x7 (rd x9 x12)).bind fun t1003 => (if t1003 = true then (pylonlaw16_TreeCycles.l0 k x5 x7 x9 x11 (wrap64 (x12 + 1)) x983000 x983001) else (if x11.length < 17592186044416 then (pylonlaw16_TreeCycles.l0 k x5 x7 x9 (x11 ++ [rd x9 x12]) (wrap64 (x12 + 1)) x983000 x983001) else (none)))) else (none)) else (if (x11.length : Int) = (x5.length : Int) then (pylonlaw16_TreeCycles.l1 k x5 x11 0 x983000 x983001) else (some false))
def pylonlaw16_TreeCycles.l1 : Nat → List (List Int) → List Int → Int → Int → List (S37) → Option (Bool)
  | 0, _, _, _, _, _ => none
  | k + 1, x5, x11, x13, x983000, x983001 => if x13 < (x5.length : Int) then (pylonlaw16_TreeCycles.l2 k x5 x11 x13 0 x983000 x983001) else (some true)
def pylonlaw16_TreeCycles.l2 : Nat → List (List Int) → List Int → Int → Int → Int → List (S37) → Option (Bool)
  | 0, _, _, _, _, _, _ => none
  | k + 1, x5, x11, x13, x14, x983000, x983001 => if x14 < (x11.length : Int) then (if 0 ≤ x13 then (if x13 < (x5.length : Int) then (if ((rd_L1 x5 x13).length : Int) = (x983001.length : Int) then (if 0 ≤ x14 then (if (rd x11 x14) < 0 then (some false) else (if (rd x11 x14) ≥ ((rd_L1 x5 x13).length : Int) then (some false) else (if x13 = x14 then (if 0 ≤ (rd x11 x14) then (if (rd x11 x14) < ((rd_L1 x5 x13).length : Int) then (if (rd (rd_L1 x5 x13) (rd x11 x14)) = 1 then (pylonlaw16_TreeCycles.l2 k x5 x11 x13 (wrap64 (x14 + 1)) x983000 x983001) else (some false)) else (none)) else (none)) else (if 0 ≤ (rd x11 x14) then (if (rd x11 x14) < ((rd_L1 x5 x13).length : Int) then (if (rd (rd_L1 x5 x13) (rd x11 x14)) = 0 then (pylonlaw16_TreeCycles.l2 k x5 x11 x13 (wrap64 (x14 + 1)) x983000 x983001) else (some false)) else (none)) else (none))))) else (none)) else (some false)) else (none)) else (none)) else (pylonlaw16_TreeCycles.l1 k x5 x11 (wrap64 (x13 + 1)) x983000 x983001)
end
def pylonlaw16_TreeCycles.f (k : Nat) (a0_0 : Int) (l0_1 : List (S37)) (l1 : List Int) : Option (Bool) := (pylonlaw14_Long.f k a0_0 l0_1 (([l1] : List (List Int)))).bind fun t986 => (if t986 = true then (pylonlaw16_TreeCycles.j0 k l1 true a0_0 l0_1) else ((pylonlaw16_awake.f).bind fun t987 => (if t987 = true then ((net_Outs.f k a0_0 l0_1 l1).bind fun t988 => (pylonlaw16_TreeCycles.j0 k l1 (t988 != 0) a0_0 l0_1)) else (pylonlaw16_TreeCycles.j0 k l1 true a0_0 l0_1))))
theorem pylonlaw16_TreeCycles.mono_l : ∀ k, (∀ y0 y1 y2 y3, LeO (pylonlaw16_TreeCycles.j0 k y0 y1 y2 y3) (pylonlaw16_TreeCycles.j0 (k + 1) y0 y1 y2 y3)) ∧ (∀ y0 y1 y2 y3 y4 y5, LeO (pylonlaw16_TreeCycles.j1 k y0 y1 y2 y3 y4 y5) (pylonlaw16_TreeCycles.j1 (k + 1) y0 y1 y2 y3 y4 y5)) ∧ (∀ y0 y1 y2 y3 y4 y5 y6, LeO (pylonlaw16_TreeCycles.l0 k y0 y1 y2 y3 y4 y5 y6) (pylonlaw16_TreeCycles.l0 (k + 1) y0 y1 y2 y3 y4 y5 y6)) ∧ (∀ y0 y1 y2 y3 y4, LeO (pylonlaw16_TreeCycles.l1 k y0 y1 y2 y3 y4) (pylonlaw16_TreeCycles.l1 (k + 1) y0 y1 y2 y3 y4)) ∧ (∀ y0 y1 y2 y3 y4 y5, LeO (pylonlaw16_TreeCycles.l2 k y0 y1 y2 y3 y4 y5) (pylonlaw16_TreeCycles.l2 (k + 1) y0 y1 y2 y3 y4 y5))
  | 0 => ⟨fun _ _ _ _ r h => by simp [pylonlaw16_TreeCycles.j0] at h, fun _ _ _ _ _ _ r h => by simp [pylonlaw16_TreeCycles.j1] at h, fun _ _ _ _ _ _ _ r h => by simp [pylonlaw16_TreeCycles.l0] at h, fun _ _ _ _ _ r h => by simp [pylonlaw16_TreeCycles.l1] at h, fun _ _ _ _ _ _ r h => by simp [pylonlaw16_TreeCycles.l2] at h⟩
  | k + 1 => by
    obtain ⟨ih0, ih1, ih2, ih3, ih4⟩ := pylonlaw16_TreeCycles.mono_l k
    refine ⟨?_, ?_, ?_, ?_, ?_⟩
    · intro y0 y1 y2 y3
      unfold pylonlaw16_TreeCycles.j0
      repeat' first
      | (with_reducible exact ih0 _ _ _ _)
      | (with_reducible exact ih1 _ _ _ _ _ _)
      | (with_reducible exact ih2 _ _ _ _ _ _ _)
      | (with_reducible exact ih3 _ _ _ _ _)
      | (with_reducible exact ih4 _ _ _ _ _ _)
      | (with_reducible exact net_Outs.mono _ _ _ _)
      | (with_reducible exact pylonlaw14_Long.mono _ _ _ _)
      | (with_reducible exact pylonlaw16_has.mono _ _ _)
      | (with_reducible exact tree_Cycles.mono _ _ _ _)
      | (with_reducible exact tree_Tree.mono _ _ _ _)
      | (with_reducible exact LeO.refl _)
      | (with_reducible exact LeO.none _)
      | (with_reducible refine LeO.ite ?_ ?_)
      | (with_reducible refine LeO.bind ?_ (fun _ => ?_))
      | exact ih0 _ _ _ _
      | exact ih1 _ _ _ _ _ _
      | exact ih2 _ _ _ _ _ _ _
      | exact ih3 _ _ _ _ _
      | exact ih4 _ _ _ _ _ _
      | exact net_Outs.mono _ _ _ _
      | exact pylonlaw14_Long.mono _ _ _ _
      | exact pylonlaw16_has.mono _ _ _
      | exact tree_Cycles.mono _ _ _ _
      | exact tree_Tree.mono _ _ _ _
      | exact LeO.none _
      | refine LeO.ite ?_ ?_
      | refine LeO.bind ?_ (fun _ => ?_)
    · intro y0 y1 y2 y3 y4 y5
      unfold pylonlaw16_TreeCycles.j1
      repeat' first
      | (with_reducible exact ih0 _ _ _ _)
      | (with_reducible exact ih1 _ _ _ _ _ _)
      | (with_reducible exact ih2 _ _ _ _ _ _ _)
      | (with_reducible exact ih3 _ _ _ _ _)
      | (with_reducible exact ih4 _ _ _ _ _ _)
      | (with_reducible exact net_Outs.mono _ _ _ _)
      | (with_reducible exact pylonlaw14_Long.mono _ _ _ _)
      | (with_reducible exact pylonlaw16_has.mono _ _ _)
      | (with_reducible exact tree_Cycles.mono _ _ _ _)
      | (with_reducible exact tree_Tree.mono _ _ _ _)
      | (with_reducible exact LeO.refl _)
      | (with_reducible exact LeO.none _)
      | (with_reducible refine LeO.ite ?_ ?_)
      | (with_reducible refine LeO.bind ?_ (fun _ => ?_))
      | exact ih0 _ _ _ _
      | exact ih1 _ _ _ _ _ _
      | exact ih2 _ _ _ _ _ _ _
      | exact ih3 _ _ _ _ _
      | exact ih4 _ _ _ _ _ _
      | exact net_Outs.mono _ _ _ _
      | exact pylonlaw14_Long.mono _ _ _ _
      | exact pylonlaw16_has.mono _ _ _
      | exact tree_Cycles.mono _ _ _ _
      | exact tree_Tree.mono _ _ _ _
      | exact LeO.none _
      | refine LeO.ite ?_ ?_
      | refine LeO.bind ?_ (fun _ => ?_)
    · intro y0 y1 y2 y3 y4 y5 y6
      unfold pylonlaw16_TreeCycles.l0
      repeat' first
      | (with_reducible exact ih0 _ _ _ _)
      | (with_reducible exact ih1 _ _ _ _ _ _)
      | (with_reducible exact ih2 _ _ _ _ _ _ _)
      | (with_reducible exact ih3 _ _ _ _ _)
      | (with_reducible exact ih4 _ _ _ _ _ _)
      | (with_reducible exact net_Outs.mono _ _ _ _)
      | (with_reducible exact pylonlaw14_Long.mono _ _ _ _)
      | (with_reducible exact pylonlaw16_has.mono _ _ _)
      | (with_reducible exact tree_Cycles.mono _ _ _ _)
      | (with_reducible exact tree_Tree.mono _ _ _ _)
      | (with_reducible exact LeO.refl _)
      | (with_reducible exact LeO.none _)
      | (with_reducible refine LeO.ite ?_ ?_)
      | (with_reducible refine LeO.bind ?_ (fun _ => ?_))
      | exact ih0 _ _ _ _
      | exact ih1 _ _ _ _ _ _
      | exact ih2 _ _ _ _ _ _ _
      | exact ih3 _ _ _ _ _
      | exact ih4 _ _ _ _ _ _
      | exact net_Outs.mono _ _ _ _
      | exact pylonlaw14_Long.mono _ _ _ _
      | exact pylonlaw16_has.mono _ _ _
      | exact tree_Cycles.mono _ _ _ _
      | exact tree_Tree.mono _ _ _ _
      | exact LeO.none _
      | refine LeO.ite ?_ ?_
      | refine LeO.bind ?_ (fun _ => ?_)
    · intro y0 y1 y2 y3 y4
      unfold pylonlaw16_TreeCycles.l1
      repeat' first
      | (with_reducible exact ih0 _ _ _ _)
      | (with_reducible exact ih1 _ _ _ _ _ _)
      | (with_reducible exact ih2 _ _ _ _ _ _ _)
      | (with_reducible exact ih3 _ _ _ _ _)
      | (with_reducible exact ih4 _ _ _ _ _ _)
      | (with_reducible exact net_Outs.mono _ _ _ _)
      | (with_reducible exact pylonlaw14_Long.mono _ _ _ _)
      | (with_reducible exact pylonlaw16_has.mono _ _ _)
      | (with_reducible exact tree_Cycles.mono _ _ _ _)
      | (with_reducible exact tree_Tree.mono _ _ _ _)
      | (with_reducible exact LeO.refl _)
      | (with_reducible exact LeO.none _)
      | (with_reducible refine LeO.ite ?_ ?_)
      | (with_reducible refine LeO.bind ?_ (fun _ => ?_))
      | exact ih0 _ _ _ _
      | exact ih1 _ _ _ _ _ _
      | exact ih2 _ _ _ _ _ _ _
      | exact ih3 _ _ _ _ _
      | exact ih4 _ _ _ _ _ _
      | exact net_Outs.mono _ _ _ _
      | exact pylonlaw14_Long.mono _ _ _ _
      | exact pylonlaw16_has.mono _ _ _
      | exact tree_Cycles.mono _ _ _ _
      | exact tree_Tree.mono _ _ _ _
      | exact LeO.none _
      | refine LeO.ite ?_ ?_
      | refine LeO.bind ?_ (fun _ => ?_)
    · intro y0 y1 y2 y3 y4 y5
      unfold pylonlaw16_TreeCycles.l2
      repeat' first
      | (with_reducible exact ih0 _ _ _ _)
      | (with_reducible exact ih1 _ _ _ _ _ _)
      | (with_reducible exact ih2 _ _ _ _ _ _ _)
      | (with_reducible exact ih3 _ _ _ _ _)
      | (with_reducible exact ih4 _ _ _ _ _ _)
      | (with_reducible exact net_Outs.mono _ _ _ _)
      | (with_reducible exact pylonlaw14_Long.mono _ _ _ _)
      | (with_reducible exact pylonlaw16_has.mono _ _ _)
      | (with_reducible exact tree_Cycles.mono _ _ _ _)
      | (with_reducible exact tree_Tree.mono _ _ _ _)
      | (with_reducible exact LeO.refl _)
      | (with_reducible exact LeO.none _)
      | (with_reducible refine LeO.ite ?_ ?_)
      | (with_reducible refine LeO.bind ?_ (fun _ => ?_))
      | exact ih0 _ _ _ _
      | exact ih1 _ _ _ _ _ _
      | exact ih2 _ _ _ _ _ _ _
      | exact ih3 _ _ _ _ _
      | exact ih4 _ _ _ _ _ _
      | exact net_Outs.mono _ _ _ _
      | exact pylonlaw14_Long.mono _ _ _ _
      | exact pylonlaw16_has.mono _ _ _
      | exact tree_Cycles.mono _ _ _ _
      | exact tree_Tree.mono _ _ _ _
      | exact LeO.none _
      | refine LeO.ite ?_ ?_
      | refine LeO.bind ?_ (fun _ => ?_)
theorem pylonlaw16_TreeCycles.mono : ∀ a0 a1 a2 k, LeO (pylonlaw16_TreeCycles.f k a0 a1 a2) (pylonlaw16_TreeCycles.f (k + 1) a0 a1 a2) := by
  intro a0 a1 a2 k
  obtain ⟨ih0, ih1, ih2, ih3, ih4⟩ := pylonlaw16_TreeCycles.mono_l k
  unfold pylonlaw16_TreeCycles.f
  repeat' first
      | (with_reducible exact ih0 _ _ _ _)
      | (with_reducible exact ih1 _ _ _ _ _ _)
      | (with_reducible exact ih2 _ _ _ _ _ _ _)
      | (with_reducible exact ih3 _ _ _ _ _)
      | (with_reducible exact ih4 _ _ _ _ _ _)
      | (with_reducible exact net_Outs.mono _ _ _ _)
      | (with_reducible exact pylonlaw14_Long.mono _ _ _ _)
      | (with_reducible exact pylonlaw16_has.mono _ _ _)
      | (with_reducible exact tree_Cycles.mono _ _ _ _)
      | (with_reducible exact tree_Tree.mono _ _ _ _)
      | (with_reducible exact LeO.refl _)
      | (with_reducible exact LeO.none _)
      | (with_reducible refine LeO.ite ?_ ?_)
      | (with_reducible refine LeO.bind ?_ (fun _ => ?_))
      | exact ih0 _ _ _ _
      | exact ih1 _ _ _ _ _ _
      | exact ih2 _ _ _ _ _ _ _
      | exact ih3 _ _ _ _ _
      | exact ih4 _ _ _ _ _ _
      | exact net_Outs.mono _ _ _ _
      | exact pylonlaw14_Long.mono _ _ _ _
      | exact pylonlaw16_has.mono _ _ _
      | exact tree_Cycles.mono _ _ _ _
      | exact tree_Tree.mono _ _ _ _
      | exact LeO.none _
      | refine LeO.ite ?_ ?_
      | refine LeO.bind ?_ (fun _ => ?_)
set_option maxHeartbeats 8000000 in
set_option maxRecDepth 100000 in
theorem pylonlaw16_TreeCycles.calls (k : Nat) (a0_0 : Int) (A0_1 : Option Addr) (c0_1 : Nat) (l0_1 : List (S37)) (P1_ : Nat → Prop) (A1 : Option Addr) (c1 : Nat) (l1 : List Int) (r : Bool) (w : World) (hr0_1 : Kd.C k37 w A0_1 l0_1.length l0_1) (hc0_1 : l0_1.length ≤ c0_1) (hs1 : Kd.V (Kd.int .i64) 3 w w.heap.size (fun k_ => P1_ k_) (.slice A1 l1.length c1) l1) (h : pylonlaw16_TreeCycles.f k a0_0 l0_1 l1 = some r) :
    Calls Try.prog 17 #[.agg #[.int .i64 a0_0, .slice A0_1 l0_1.length c0_1], .slice A1 l1.length c1] w fun e w' => e = .returned (.bool r) ∧ Below w.heap.size w w' := by
  have hu24 := Try.underlying24
  have HR0_1 := Aside0.mk hr0_1
  have HC0_1 := Aside0.mk hc0_1
  clear hr0_1 hc0_1
  have HO1 := Aside0.mk (show Kd.V (Kd.int .i64) 3 w w.heap.size (fun k_ => (P1_ k_ ∨ w.heap.size ≤ k_)) (.slice A1 l1.length c1) l1 from Kd.V_mono hs1 (fun k_ hk => .inl hk))
  have HB := Aside0.mk (Below.refl w.heap.size w)
  have H : ((pylonlaw14_Long.f k a0_0 l0_1 (([l1] : List (List Int)))).bind fun t986 => (if t986 = true then (pylonlaw16_TreeCycles.j0 k l1 true a0_0 l0_1) else ((pylonlaw16_awake.f).bind fun t987 => (if t987 = true then ((net_Outs.f k a0_0 l0_1 l1).bind fun t988 => (pylonlaw16_TreeCycles.j0 k l1 (t988 != 0) a0_0 l0_1)) else (pylonlaw16_TreeCycles.j0 k l1 true a0_0 l0_1))))) = some r := h
  clear h
  have HC3 := Aside0.mk H
  clear H
  go_enter Try.func17, Try.ntmps17
  go_upto_region 1 with (first | ((with_reducible refine gate_dst (N := 2) rfl ?_); (try (refine gate_guard (by rfl) ?_; dsimp only)); refine box_event ?hg (N := 2) ?hd (cs := #[.int .i64 a0_0, .slice A0_1 l0_1.length c0_1]) (t := 24) ?hr ?_; (case hd => rfl); (case hg => rfl); (case hr => first | (go_simp; done) | (go_simp; rfl)); intro gb982 hg w4 hbox hb; have n0_ := Aside0.mk (Kd.V_below (Kd.V_elderB (by (with_reducible repeat (first | apply Kd.V_alloc | apply Kd.V_drewN | apply Kd.V_drew)); exact HO1.out) gb982 (Nat.le_of_eq hg.symm)) hb); have n1_ := Aside0.mk (below_step (by repeat (first | (with_reducible first | exact HB.out | apply below_alloc | apply pw_below_drewN | apply below_drew1) | exact HB.out)) hb); have n2_ := Aside0.mk (hbox); have n3_ := Aside0.mk ((by rw [hg]; exact (below_size (by repeat (first | (with_reducible first | exact HB.out | apply below_alloc | apply pw_below_drewN | apply below_drew1) | exact HB.out))) : w.heap.size ≤ gb982)); have n4_ := Aside0.mk ((by rw [hg]; exact (below_size (by repeat (first | (with_reducible first | exact HB.out | apply below_alloc | apply pw_below_drewN | apply below_drew1) | exact HB.out))) : w.heap.size ≤ gb982)); clear HO1; clear HB; have HO1 := n0_; have HB := n1_; have BK982 := n2_; have GW982 := n3_; have GE982 := n4_; clear n0_ n1_ n2_ n3_ n4_; clear hb hbox hg))
  repeat (go_quiet (first | ((with_reducible refine gate_dst (N := 2) rfl ?_); (try (refine gate_guard (by rfl) ?_; dsimp only)); refine box_event ?hg (N := 2) ?hd (cs := #[.int .i64 a0_0, .slice A0_1 l0_1.length c0_1]) (t := 24) ?hr ?_; (case hd => rfl); (case hg => rfl); (case hr => first | (go_simp; done) | (go_simp; rfl)); intro gb982 hg w4 hbox hb; have n0_ := Aside0.mk (Kd.V_below (Kd.V_elderB (by (with_reducible repeat (first | apply Kd.V_alloc | apply Kd.V_drewN | apply Kd.V_drew)); exact HO1.out) gb982 (Nat.le_of_eq hg.symm)) hb); have n1_ := Aside0.mk (below_step (by repeat (first | (with_reducible first | exact HB.out | apply below_alloc | apply pw_below_drewN | apply below_drew1) | exact HB.out)) hb); have n2_ := Aside0.mk (hbox); have n3_ := Aside0.mk ((by rw [hg]; exact (below_size (by repeat (first | (with_reducible first | exact HB.out | apply below_alloc | apply pw_below_drewN | apply below_drew1) | exact HB.out))) : w.heap.size ≤ gb982)); have n4_ := Aside0.mk ((by rw [hg]; exact (below_size (by repeat (first | (with_reducible first | exact HB.out | apply below_alloc | apply pw_below_drewN | apply below_drew1) | exact HB.out))) : w.heap.size ≤ gb982)); clear HO1; clear HB; have HO1 := n0_; have HB := n1_; have BK982 := n2_; have GW982 := n3_; have GE982 := n4_; clear n0_ n1_ n2_ n3_ n4_; clear hb hbox hg)); go_upto_region 1 with (first | ((with_reducible refine gate_dst (N := 2) rfl ?_); (try (refine gate_guard (by rfl) ?_; dsimp only)); refine box_event ?hg (N := 2) ?hd (cs := #[.int .i64 a0_0, .slice A0_1 l0_1.length c0_1]) (t := 24) ?hr ?_; (case hd => rfl); (case hg => rfl); (case hr => first | (go_simp; done) | (go_simp; rfl)); intro gb982 hg w4 hbox hb; have n0_ := Aside0.mk (Kd.V_below (Kd.V_elderB (by (with_reducible repeat (first | apply Kd.V_alloc | apply Kd.V_drewN | apply Kd.V_drew)); exact HO1.out) gb982 (Nat.le_of_eq hg.symm)) hb); have n1_ := Aside0.mk (below_step (by repeat (first | (with_reducible first | exact HB.out | apply below_alloc | apply pw_below_drewN | apply below_drew1) | exact HB.out)) hb); have n2_ := Aside0.mk (hbox); have n3_ := Aside0.mk ((by rw [hg]; exact (below_size (by repeat (first | (with_reducible first | exact HB.out | apply below_alloc | apply pw_below_drewN | apply below_drew1) | exact HB.out))) : w.heap.size ≤ gb982)); have n4_ := Aside0.mk ((by rw [hg]; exact (below_size (by repeat (first | (with_reducible first | exact HB.out | apply below_alloc | apply pw_below_drewN | apply below_drew1) | exact HB.out))) : w.heap.size ≤ gb982)); clear HO1; clear HB; have HO1 := n0_; have HB := n1_; have BK982 := n2_; have GW982 := n3_; have GE982 := n4_; clear n0_ n1_ n2_ n3_ n4_; clear hb hbox hg)))
  (try simp only [Act.put, List.setIfInBounds_toArray, List.set_cons_zero, List.set_cons_succ])
  go_cut [28] (fun v28 wc => ∃ (kq : Nat) (x28_2 : Bool), v28 = .bool x28_2 ∧ Aside0 (pylonlaw16_TreeCycles.j0 kq l1 x28_2 a0_0 l0_1 = some r) ∧ Aside0 (kq ≤ k) ∧ Aside0 (Kd.V (Kd.int .i64) 3 wc w.heap.size (fun k_ => (P1_ k_ ∨ w.heap.size ≤ k_) ∧ k_ ≠ gb982) (.slice A1 l1.length c1) l1) ∧ Aside0 (wc.heap[gb982]? = some (.cells #[.int .i64 a0_0, (.slice A0_1 l0_1.length c0_1)] 24 (0, 0))) ∧ Aside0 (Below w.heap.size w wc))
  case first =>
    have H := HC3.out
    clear HC3
    obtain ⟨y983, hy983⟩ : ∃ y_ : List (List Int), y_ = (([l1] : List (List Int))) := ⟨_, rfl⟩
    replace H : ((pylonlaw14_Long.f k a0_0 l0_1 y983).bind fun t986 => (if t986 = true then (pylonlaw16_TreeCycles.j0 k l1 true a0_0 l0_1) else ((pylonlaw16_awake.f).bind fun t987 => (if t987 = true then ((net_Outs.f k a0_0 l0_1 l1).bind fun t988 => (pylonlaw16_TreeCycles.j0 k l1 (t988 != 0) a0_0 l0_1)) else (pylonlaw16_TreeCycles.j0 k l1 true a0_0 l0_1))))) = some r := by first | (rw [hy983]; with_reducible exact H) | (have H2_ := (Option.bind_some _ _).symm.trans H; rw [hy983]; with_reducible exact H2_) | (have H2_ := (Option.bind_some _ _).symm.trans H; with_reducible exact H2_) | with_reducible exact H | (rw [hy983]; exact H) | exact H
    have Ny983 := Aside0.mk hy983
    clear hy983
    replace H := Option.bind_eq_some_iff.mp H
    obtain ⟨t986, A50, H⟩ := H
    replace H : (if t986 = true then (pylonlaw16_TreeCycles.j0 k l1 true a0_0 l0_1) else ((pylonlaw16_awake.f).bind fun t987 => (if t987 = true then ((net_Outs.f k a0_0 l0_1 l1).bind fun t988 => (pylonlaw16_TreeCycles.j0 k l1 (t988 != 0) a0_0 l0_1)) else (pylonlaw16_TreeCycles.j0 k l1 true a0_0 l0_1)))) = some r := H
    have A5 := Aside0.mk A50
    clear A50
    by_cases c6 : t986 = true
    · as_aux_lemma =>
      subst c6
      have H1 : (pylonlaw16_TreeCycles.j0 k l1 true a0_0 l0_1) = some r := by rw [if_pos rfl] at H; exact H
      clear H
      have H := H1
      clear H1
      have H' := Aside0.mk H
      clear H
      have hcz7_0 : w4.cell? ⟨gb982, 0, none⟩ = some (.int .i64 a0_0) := (blk_cell BK982.out 0).trans rfl
      have hcz7_1 : w4.cell? ⟨gb982, 1, none⟩ = some (.slice A0_1 l0_1.length c0_1) := (blk_cell BK982.out 1).trans rfl
      have hfz7_0 := blk_frozen BK982.out 0
      have hfz7_1 := blk_frozen BK982.out 1
      go_wp2_with (first | ((with_reducible refine gate_dst (N := 17) rfl ?_); (try (refine gate_guard (by rfl) ?_; dsimp only)); refine Kd.N_lit (Kd.slice 3 (Kd.int .i64)) _ 25 ?hg (N' := 17) ?hd (xs := ([l1] : List (List Int))) (inner := [.slice A1 l1.length c1]) (ok := (fun k_ => (P1_ k_ ∨ w.heap.size ≤ k_) ∧ k_ ≠ gb982)) (okp := (fun k_ => (P1_ k_ ∨ w.heap.size ≤ k_) ∧ k_ ≠ gb982)) ?hr ?hp (fun _ hk => hk) ((show ∀ k_, w4.heap.size ≤ k_ → (fun k_ => (P1_ k_ ∨ w.heap.size ≤ k_) ∧ k_ ≠ gb982) k_ from fun k_ hk => ⟨(.inr (Nat.le_trans (below_size (by repeat (first | (with_reducible first | exact HB.out | apply below_alloc | apply pw_below_drewN | apply below_drew1 | refine below_set ?_ GE982.out) | exact HB.out))) hk)), Kd.freshB (g := gb982) (o := .cells #[.int .i64 a0_0, .slice A0_1 l0_1.length c0_1] 24 (0, 0)) (by (with_reducible repeat (first | refine blk_drewN ?_ _ | refine blk_drew ?_ | refine blk_alloc ?_ _)); exact BK982.out) k_ hk⟩) _ (Nat.le_refl _)) (Below.refl _ _) (Nat.le_refl _) (by simp) ?_; (case hd => rfl); (case hg => rfl); (case hr => first | (go_simp; done) | (go_simp; rfl)); (case hp => exact (Reps.one (show Kd.FK (Kd.slice 3 (Kd.int .i64)) _ _ l1 [.slice A1 l1.length c1] from (Kd.FK_slice_mk (Kd.V_reads' (Kd.V_mono (ok' := (fun k_ => (P1_ k_ ∨ w.heap.size ≤ k_) ∧ k_ ≠ gb982)) (HO1.out) (fun k_ hk => ⟨hk.1, hk.2⟩))).2.1 (Kd.V_F (Kd.V_mono (ok' := (fun k_ => (P1_ k_ ∨ w.heap.size ≤ k_) ∧ k_ ≠ gb982)) (HO1.out) (fun k_ hk => ⟨hk.1, hk.2⟩))))) (Reps.none _ _))); intro v984 w8 ho9 hb hg_ hnew_; clear hg_ hnew_; (first | rw [← Ny983.out] at ho9 | (simp only [Int.reduceToNat] at ho9; rw [← Ny983.out] at ho9)); have n0_ := Aside0.mk (Kd.V_elder' (by (with_reducible repeat (first | apply Kd.V_alloc | apply Kd.V_drewN | apply Kd.V_drew)); exact HO1.out) (Kd.N_base ho9) hb); have n1_ := Aside0.mk (Kd.N_lower ho9 (below_size (by repeat (first | (with_reducible first | exact HB.out | apply below_alloc | apply pw_below_drewN | apply below_drew1 | refine below_set ?_ GE982.out) | exact HB.out)))); have n2_ := Aside0.mk (blk_below (g := gb982) (o := .cells #[.int .i64 a0_0, .slice A0_1 l0_1.length c0_1] 24 (0, 0)) (by (with_reducible repeat (first | refine blk_drewN ?_ _ | refine blk_drew ?_ | refine blk_alloc ?_ _)); exact BK982.out) hb); have n3_ := Aside0.mk (below_step (by repeat (first | (with_reducible first | exact HB.out | apply below_alloc | apply pw_below_drewN | apply below_drew1 | refine below_set ?_ GE982.out) | exact HB.out)) hb); clear HO1; clear BK982; clear HB; have HO1 := n0_; have HO985 := n1_; have BK982 := n2_; have HB := n3_; clear n0_ n1_ n2_ n3_; clear hb ho9; obtain ⟨Ao10, co10, eo10⟩ := Kd.N_slice HO985.out; subst eo10) | (go_at_call 28; (with_reducible refine (pylonlaw14_Long.calls k a0_0 _ _ l0_1 _ _ y983 true _ ?side1 ?side2 ?side3 ?side4 A5.out).mono ?_); (case side1 => repeat (first | exact (Kd.C_below HR0_1.out HB.out) | (with_reducible refine Kd.C_alloc ?_ _) | (with_reducible refine Kd.C_drewN ?_ _) | (with_reducible refine Kd.C_drew ?_))); (case side2 => exact HC0_1.out); (case side3 => repeat (first | exact (Kd.N_reads' HO985.out).2.2 | (with_reducible refine Kd.C_alloc ?_ _) | (with_reducible refine Kd.C_drewN ?_ _) | (with_reducible refine Kd.C_drew ?_))); (case side4 => exact (Kd.N_reads' HO985.out).2.1); rintro e w11 ⟨rfl, hb⟩; have n0_ := Aside0.mk (Kd.V_below (by (with_reducible repeat (first | apply Kd.V_alloc | apply Kd.V_drewN | apply Kd.V_drew)); exact HO1.out) hb); have n1_ := Aside0.mk (Kd.N_below (by (with_reducible repeat (first | apply Kd.N_alloc | apply Kd.N_drewN | apply Kd.N_drew)); exact HO985.out) hb); have n2_ := Aside0.mk (blk_below (g := gb982) (o := .cells #[.int .i64 a0_0, .slice A0_1 l0_1.length c0_1] 24 (0, 0)) (by (with_reducible repeat (first | refine blk_drewN ?_ _ | refine blk_drew ?_ | refine blk_alloc ?_ _)); exact BK982.out) hb); have n3_ := Aside0.mk (below_step (by repeat (first | (with_reducible first | exact HB.out | apply below_alloc | apply pw_below_drewN | apply below_drew1 | refine below_set ?_ GE982.out) | exact HB.out)) hb); clear HO1; clear HO985; clear BK982; clear HB; have HO1 := n0_; have HO985 := n1_; have BK982 := n2_; have HB := n3_; clear n0_ n1_ n2_ n3_; (try clear hb); (try clear hb2); (try clear hk); (try clear hi)))
      repeat (go_quiet (first | ((with_reducible refine gate_dst (N := 17) rfl ?_); (try (refine gate_guard (by rfl) ?_; dsimp only)); refine Kd.N_lit (Kd.slice 3 (Kd.int .i64)) _ 25 ?hg (N' := 17) ?hd (xs := ([l1] : List (List Int))) (inner := [.slice A1 l1.length c1]) (ok := (fun k_ => (P1_ k_ ∨ w.heap.size ≤ k_) ∧ k_ ≠ gb982)) (okp := (fun k_ => (P1_ k_ ∨ w.heap.size ≤ k_) ∧ k_ ≠ gb982)) ?hr ?hp (fun _ hk => hk) ((show ∀ k_, w4.heap.size ≤ k_ → (fun k_ => (P1_ k_ ∨ w.heap.size ≤ k_) ∧ k_ ≠ gb982) k_ from fun k_ hk => ⟨(.inr (Nat.le_trans (below_size (by repeat (first | (with_reducible first | exact HB.out | apply below_alloc | apply pw_below_drewN | apply below_drew1 | refine below_set ?_ GE982.out) | exact HB.out))) hk)), Kd.freshB (g := gb982) (o := .cells #[.int .i64 a0_0, .slice A0_1 l0_1.length c0_1] 24 (0, 0)) (by (with_reducible repeat (first | refine blk_drewN ?_ _ | refine blk_drew ?_ | refine blk_alloc ?_ _)); exact BK982.out) k_ hk⟩) _ (Nat.le_refl _)) (Below.refl _ _) (Nat.le_refl _) (by simp) ?_; (case hd => rfl); (case hg => rfl); (case hr => first | (go_simp; done) | (go_simp; rfl)); (case hp => exact (Reps.one (show Kd.FK (Kd.slice 3 (Kd.int .i64)) _ _ l1 [.slice A1 l1.length c1] from (Kd.FK_slice_mk (Kd.V_reads' (Kd.V_mono (ok' := (fun k_ => (P1_ k_ ∨ w.heap.size ≤ k_) ∧ k_ ≠ gb982)) (HO1.out) (fun k_ hk => ⟨hk.1, hk.2⟩))).2.1 (Kd.V_F (Kd.V_mono (ok' := (fun k_ => (P1_ k_ ∨ w.heap.size ≤ k_) ∧ k_ ≠ gb982)) (HO1.out) (fun k_ hk => ⟨hk.1, hk.2⟩))))) (Reps.none _ _))); intro v984 w8 ho9 hb hg_ hnew_; clear hg_ hnew_; (first | rw [← Ny983.out] at ho9 | (simp only [Int.reduceToNat] at ho9; rw [← Ny983.out] at ho9)); have n0_ := Aside0.mk (Kd.V_elder' (by (with_reducible repeat (first | apply Kd.V_alloc | apply Kd.V_drewN | apply Kd.V_drew)); exact HO1.out) (Kd.N_base ho9) hb); have n1_ := Aside0.mk (Kd.N_lower ho9 (below_size (by repeat (first | (with_reducible first | exact HB.out | apply below_alloc | apply pw_below_drewN | apply below_drew1 | refine below_set ?_ GE982.out) | exact HB.out)))); have n2_ := Aside0.mk (blk_below (g := gb982) (o := .cells #[.int .i64 a0_0, .slice A0_1 l0_1.length c0_1] 24 (0, 0)) (by (with_reducible repeat (first | refine blk_drewN ?_ _ | refine blk_drew ?_ | refine blk_alloc ?_ _)); exact BK982.out) hb); have n3_ := Aside0.mk (below_step (by repeat (first | (with_reducible first | exact HB.out | apply below_alloc | apply pw_below_drewN | apply below_drew1 | refine below_set ?_ GE982.out) | exact HB.out)) hb); clear HO1; clear BK982; clear HB; have HO1 := n0_; have HO985 := n1_; have BK982 := n2_; have HB := n3_; clear n0_ n1_ n2_ n3_; clear hb ho9; obtain ⟨Ao10, co10, eo10⟩ := Kd.N_slice HO985.out; subst eo10) | (go_at_call 28; (with_reducible refine (pylonlaw14_Long.calls k a0_0 _ _ l0_1 _ _ y983 true _ ?side1 ?side2 ?side3 ?side4 A5.out).mono ?_); (case side1 => repeat (first | exact (Kd.C_below HR0_1.out HB.out) | (with_reducible refine Kd.C_alloc ?_ _) | (with_reducible refine Kd.C_drewN ?_ _) | (with_reducible refine Kd.C_drew ?_))); (case side2 => exact HC0_1.out); (case side3 => repeat (first | exact (Kd.N_reads' HO985.out).2.2 | (with_reducible refine Kd.C_alloc ?_ _) | (with_reducible refine Kd.C_drewN ?_ _) | (with_reducible refine Kd.C_drew ?_))); (case side4 => exact (Kd.N_reads' HO985.out).2.1); rintro e w11 ⟨rfl, hb⟩; have n0_ := Aside0.mk (Kd.V_below (by (with_reducible repeat (first | apply Kd.V_alloc | apply Kd.V_drewN | apply Kd.V_drew)); exact HO1.out) hb); have n1_ := Aside0.mk (Kd.N_below (by (with_reducible repeat (first | apply Kd.N_alloc | apply Kd.N_drewN | apply Kd.N_drew)); exact HO985.out) hb); have n2_ := Aside0.mk (blk_below (g := gb982) (o := .cells #[.int .i64 a0_0, .slice A0_1 l0_1.length c0_1] 24 (0, 0)) (by (with_reducible repeat (first | refine blk_drewN ?_ _ | refine blk_drew ?_ | refine blk_alloc ?_ _)); exact BK982.out) hb); have n3_ := Aside0.mk (below_step (by repeat (first | (with_reducible first | exact HB.out | apply below_alloc | apply pw_below_drewN | apply below_drew1 | refine below_set ?_ GE982.out) | exact HB.out)) hb); clear HO1; clear HO985; clear BK982; clear HB; have HO1 := n0_; have HO985 := n1_; have BK982 := n2_; have HB := n3_; clear n0_ n1_ n2_ n3_; (try clear hb); (try clear hb2); (try clear hk); (try clear hi))); try go_wp2_with (first | ((with_reducible refine gate_dst (N := 17) rfl ?_); (try (refine gate_guard (by rfl) ?_; dsimp only)); refine Kd.N_lit (Kd.slice 3 (Kd.int .i64)) _ 25 ?hg (N' := 17) ?hd (xs := ([l1] : List (List Int))) (inner := [.slice A1 l1.length c1]) (ok := (fun k_ => (P1_ k_ ∨ w.heap.size ≤ k_) ∧ k_ ≠ gb982)) (okp := (fun k_ => (P1_ k_ ∨ w.heap.size ≤ k_) ∧ k_ ≠ gb982)) ?hr ?hp (fun _ hk => hk) ((show ∀ k_, w4.heap.size ≤ k_ → (fun k_ => (P1_ k_ ∨ w.heap.size ≤ k_) ∧ k_ ≠ gb982) k_ from fun k_ hk => ⟨(.inr (Nat.le_trans (below_size (by repeat (first | (with_reducible first | exact HB.out | apply below_alloc | apply pw_below_drewN | apply below_drew1 | refine below_set ?_ GE982.out) | exact HB.out))) hk)), Kd.freshB (g := gb982) (o := .cells #[.int .i64 a0_0, .slice A0_1 l0_1.length c0_1] 24 (0, 0)) (by (with_reducible repeat (first | refine blk_drewN ?_ _ | refine blk_drew ?_ | refine blk_alloc ?_ _)); exact BK982.out) k_ hk⟩) _ (Nat.le_refl _)) (Below.refl _ _) (Nat.le_refl _) (by simp) ?_; (case hd => rfl); (case hg => rfl); (case hr => first | (go_simp; done) | (go_simp; rfl)); (case hp => exact (Reps.one (show Kd.FK (Kd.slice 3 (Kd.int .i64)) _ _ l1 [.slice A1 l1.length c1] from (Kd.FK_slice_mk (Kd.V_reads' (Kd.V_mono (ok' := (fun k_ => (P1_ k_ ∨ w.heap.size ≤ k_) ∧ k_ ≠ gb982)) (HO1.out) (fun k_ hk => ⟨hk.1, hk.2⟩))).2.1 (Kd.V_F (Kd.V_mono (ok' := (fun k_ => (P1_ k_ ∨ w.heap.size ≤ k_) ∧ k_ ≠ gb982)) (HO1.out) (fun k_ hk => ⟨hk.1, hk.2⟩))))) (Reps.none _ _))); intro v984 w8 ho9 hb hg_ hnew_; clear hg_ hnew_; (first | rw [← Ny983.out] at ho9 | (simp only [Int.reduceToNat] at ho9; rw [← Ny983.out] at ho9)); have n0_ := Aside0.mk (Kd.V_elder' (by (with_reducible repeat (first | apply Kd.V_alloc | apply Kd.V_drewN | apply Kd.V_drew)); exact HO1.out) (Kd.N_base ho9) hb); have n1_ := Aside0.mk (Kd.N_lower ho9 (below_size (by repeat (first | (with_reducible first | exact HB.out | apply below_alloc | apply pw_below_drewN | apply below_drew1 | refine below_set ?_ GE982.out) | exact HB.out)))); have n2_ := Aside0.mk (blk_below (g := gb982) (o := .cells #[.int .i64 a0_0, .slice A0_1 l0_1.length c0_1] 24 (0, 0)) (by (with_reducible repeat (first | refine blk_drewN ?_ _ | refine blk_drew ?_ | refine blk_alloc ?_ _)); exact BK982.out) hb); have n3_ := Aside0.mk (below_step (by repeat (first | (with_reducible first | exact HB.out | apply below_alloc | apply pw_below_drewN | apply below_drew1 | refine below_set ?_ GE982.out) | exact HB.out)) hb); clear HO1; clear BK982; clear HB; have HO1 := n0_; have HO985 := n1_; have BK982 := n2_; have HB := n3_; clear n0_ n1_ n2_ n3_; clear hb ho9; obtain ⟨Ao10, co10, eo10⟩ := Kd.N_slice HO985.out; subst eo10) | (go_at_call 28; (with_reducible refine (pylonlaw14_Long.calls k a0_0 _ _ l0_1 _ _ y983 true _ ?side1 ?side2 ?side3 ?side4 A5.out).mono ?_); (case side1 => repeat (first | exact (Kd.C_below HR0_1.out HB.out) | (with_reducible refine Kd.C_alloc ?_ _) | (with_reducible refine Kd.C_drewN ?_ _) | (with_reducible refine Kd.C_drew ?_))); (case side2 => exact HC0_1.out); (case side3 => repeat (first | exact (Kd.N_reads' HO985.out).2.2 | (with_reducible refine Kd.C_alloc ?_ _) | (with_reducible refine Kd.C_drewN ?_ _) | (with_reducible refine Kd.C_drew ?_))); (case side4 => exact (Kd.N_reads' HO985.out).2.1); rintro e w11 ⟨rfl, hb⟩; have n0_ := Aside0.mk (Kd.V_below (by (with_reducible repeat (first | apply Kd.V_alloc | apply Kd.V_drewN | apply Kd.V_drew)); exact HO1.out) hb); have n1_ := Aside0.mk (Kd.N_below (by (with_reducible repeat (first | apply Kd.N_alloc | apply Kd.N_drewN | apply Kd.N_drew)); exact HO985.out) hb); have n2_ := Aside0.mk (blk_below (g := gb982) (o := .cells #[.int .i64 a0_0, .slice A0_1 l0_1.length c0_1] 24 (0, 0)) (by (with_reducible repeat (first | refine blk_drewN ?_ _ | refine blk_drew ?_ | refine blk_alloc ?_ _)); exact BK982.out) hb); have n3_ := Aside0.mk (below_step (by repeat (first | (with_reducible first | exact HB.out | apply below_alloc | apply pw_below_drewN | apply below_drew1 | refine below_set ?_ GE982.out) | exact HB.out)) hb); clear HO1; clear HO985; clear BK982; clear HB; have HO1 := n0_; have HO985 := n1_; have BK982 := n2_; have HB := n3_; clear n0_ n1_ n2_ n3_; (try clear hb); (try clear hb2); (try clear hk); (try clear hi))))
      go_meet
      case rel => exact ⟨_, (true), (by first | rfl | (simp; done) | (simp [*]; done)), H', ⟨by first | omega | exact Nat.le_refl _⟩, ⟨by (with_reducible repeat (first | apply Kd.V_alloc | apply Kd.V_drewN | apply Kd.V_drew)); exact Kd.V_mono HO1.out (fun _ hk => ⟨hk.1.1, hk.1.2⟩)⟩, ⟨by (with_reducible repeat (first | refine blk_drewN ?_ _ | refine blk_drew ?_ | refine blk_alloc ?_ _)); exact BK982.out⟩, ⟨by repeat (first | (with_reducible first | exact HB.out | apply below_alloc | apply pw_below_drewN | apply below_drew1 | refine below_set ?_ GE982.out) | exact HB.out)⟩⟩
    · as_aux_lemma =>
      replace c6 := Bool.eq_false_iff.mpr c6
      subst c6
      have H1 : ((pylonlaw16_awake.f).bind fun t987 => (if t987 = true then ((net_Outs.f k a0_0 l0_1 l1).bind fun t988 => (pylonlaw16_TreeCycles.j0 k l1 (t988 != 0) a0_0 l0_1)) else (pylonlaw16_TreeCycles.j0 k l1 true a0_0 l0_1))) = some r := by rw [if_neg (show ¬ (false = true) by decide)] at H; exact H
      clear H
      have H := H1
      clear H1
      replace H := Option.bind_eq_some_iff.mp H
      obtain ⟨t987, A120, H⟩ := H
      replace H : (if t987 = true then ((net_Outs.f k a0_0 l0_1 l1).bind fun t988 => (pylonlaw16_TreeCycles.j0 k l1 (t988 != 0) a0_0 l0_1)) else (pylonlaw16_TreeCycles.j0 k l1 true a0_0 l0_1)) = some r := H
      have A12 := Aside0.mk A120
      clear A120
      by_cases c13 : t987 = true
      · as_aux_lemma =>
        subst c13
        have H1 : ((net_Outs.f k a0_0 l0_1 l1).bind fun t988 => (pylonlaw16_TreeCycles.j0 k l1 (t988 != 0) a0_0 l0_1)) = some r := by rw [if_pos rfl] at H; exact H
        clear H
        have H := H1
        clear H1
        replace H := Option.bind_eq_some_iff.mp H
        obtain ⟨t988, A140, H⟩ := H
        replace H : (pylonlaw16_TreeCycles.j0 k l1 (t988 != 0) a0_0 l0_1) = some r := H
        have A14 := Aside0.mk A140
        clear A140
        have H' := Aside0.mk H
        clear H
        have hcz15_0 : w4.cell? ⟨gb982, 0, none⟩ = some (.int .i64 a0_0) := (blk_cell BK982.out 0).trans rfl
        have hcz15_1 : w4.cell? ⟨gb982, 1, none⟩ = some (.slice A0_1 l0_1.length c0_1) := (blk_cell BK982.out 1).trans rfl
        have hfz15_0 := blk_frozen BK982.out 0
        have hfz15_1 := blk_frozen BK982.out 1
        go_wp2_with (first | ((with_reducible refine gate_dst (N := 17) rfl ?_); (try (refine gate_guard (by rfl) ?_; dsimp only)); refine Kd.N_lit (Kd.slice 3 (Kd.int .i64)) _ 25 ?hg (N' := 17) ?hd (xs := ([l1] : List (List Int))) (inner := [.slice A1 l1.length c1]) (ok := (fun k_ => (P1_ k_ ∨ w.heap.size ≤ k_) ∧ k_ ≠ gb982)) (okp := (fun k_ => (P1_ k_ ∨ w.heap.size ≤ k_) ∧ k_ ≠ gb982)) ?hr ?hp (fun _ hk => hk) ((show ∀ k_, w4.heap.size ≤ k_ → (fun k_ => (P1_ k_ ∨ w.heap.size ≤ k_) ∧ k_ ≠ gb982) k_ from fun k_ hk => ⟨(.inr (Nat.le_trans (below_size (by repeat (first | (with_reducible first | exact HB.out | apply below_alloc | apply pw_below_drewN | apply below_drew1 | refine below_set ?_ GE982.out) | exact HB.out))) hk)), Kd.freshB (g := gb982) (o := .cells #[.int .i64 a0_0, .slice A0_1 l0_1.length c0_1] 24 (0, 0)) (by (with_reducible repeat (first | refine blk_drewN ?_ _ | refine blk_drew ?_ | refine blk_alloc ?_ _)); exact BK982.out) k_ hk⟩) _ (Nat.le_refl _)) (Below.refl _ _) (Nat.le_refl _) (by simp) ?_; (case hd => rfl); (case hg => rfl); (case hr => first | (go_simp; done) | (go_simp; rfl)); (case hp => exact (Reps.one (show Kd.FK (Kd.slice 3 (Kd.int .i64)) _ _ l1 [.slice A1 l1.length c1] from (Kd.FK_slice_mk (Kd.V_reads' (Kd.V_mono (ok' := (fun k_ => (P1_ k_ ∨ w.heap.size ≤ k_) ∧ k_ ≠ gb982)) (HO1.out) (fun k_ hk => ⟨hk.1, hk.2⟩))).2.1 (Kd.V_F (Kd.V_mono (ok' := (fun k_ => (P1_ k_ ∨ w.heap.size ≤ k_) ∧ k_ ≠ gb982)) (HO1.out) (fun k_ hk => ⟨hk.1, hk.2⟩))))) (Reps.none _ _))); intro v984 w16 ho17 hb hg_ hnew_; clear hg_ hnew_; (first | rw [← Ny983.out] at ho17 | (simp only [Int.reduceToNat] at ho17; rw [← Ny983.out] at ho17)); have n0_ := Aside0.mk (Kd.V_elder' (by (with_reducible repeat (first | apply Kd.V_alloc | apply Kd.V_drewN | apply Kd.V_drew)); exact HO1.out) (Kd.N_base ho17) hb); have n1_ := Aside0.mk (Kd.N_lower ho17 (below_size (by repeat (first | (with_reducible first | exact HB.out | apply below_alloc | apply pw_below_drewN | apply below_drew1 | refine below_set ?_ GE982.out) | exact HB.out)))); have n2_ := Aside0.mk (blk_below (g := gb982) (o := .cells #[.int .i64 a0_0, .slice A0_1 l0_1.length c0_1] 24 (0, 0)) (by (with_reducible repeat (first | refine blk_drewN ?_ _ | refine blk_drew ?_ | refine blk_alloc ?_ _)); exact BK982.out) hb); have n3_ := Aside0.mk (below_step (by repeat (first | (with_reducible first | exact HB.out | apply below_alloc | apply pw_below_drewN | apply below_drew1 | refine below_set ?_ GE982.out) | exact HB.out)) hb); clear HO1; clear BK982; clear HB; have HO1 := n0_; have HO985 := n1_; have BK982 := n2_; have HB := n3_; clear n0_ n1_ n2_ n3_; clear hb ho17; obtain ⟨Ao18, co18, eo18⟩ := Kd.N_slice HO985.out; subst eo18) | (go_at_call 28; (with_reducible refine (pylonlaw14_Long.calls k a0_0 _ _ l0_1 _ _ y983 false _ ?side1 ?side2 ?side3 ?side4 A5.out).mono ?_); (case side1 => repeat (first | exact (Kd.C_below HR0_1.out HB.out) | (with_reducible refine Kd.C_alloc ?_ _) | (with_reducible refine Kd.C_drewN ?_ _) | (with_reducible refine Kd.C_drew ?_))); (case side2 => exact HC0_1.out); (case side3 => repeat (first | exact (Kd.N_reads' HO985.out).2.2 | (with_reducible refine Kd.C_alloc ?_ _) | (with_reducible refine Kd.C_drewN ?_ _) | (with_reducible refine Kd.C_drew ?_))); (case side4 => exact (Kd.N_reads' HO985.out).2.1); rintro e w19 ⟨rfl, hb⟩; have n0_ := Aside0.mk (Kd.V_below (by (with_reducible repeat (first | apply Kd.V_alloc | apply Kd.V_drewN | apply Kd.V_drew)); exact HO1.out) hb); have n1_ := Aside0.mk (Kd.N_below (by (with_reducible repeat (first | apply Kd.N_alloc | apply Kd.N_drewN | apply Kd.N_drew)); exact HO985.out) hb); have n2_ := Aside0.mk (blk_below (g := gb982) (o := .cells #[.int .i64 a0_0, .slice A0_1 l0_1.length c0_1] 24 (0, 0)) (by (with_reducible repeat (first | refine blk_drewN ?_ _ | refine blk_drew ?_ | refine blk_alloc ?_ _)); exact BK982.out) hb); have n3_ := Aside0.mk (below_step (by repeat (first | (with_reducible first | exact HB.out | apply below_alloc | apply pw_below_drewN | apply below_drew1 | refine below_set ?_ GE982.out) | exact HB.out)) hb); clear HO1; clear HO985; clear BK982; clear HB; have HO1 := n0_; have HO985 := n1_; have BK982 := n2_; have HB := n3_; clear n0_ n1_ n2_ n3_; (try clear hb); (try clear hb2); (try clear hk); (try clear hi)) | (go_at_call 51; (with_reducible refine (pylonlaw16_awake.calls  true _ A12.out).mono ?_); rintro e w20 ⟨rfl, hb⟩; have n0_ := Aside0.mk (Kd.V_below (by (with_reducible repeat (first | apply Kd.V_alloc | apply Kd.V_drewN | apply Kd.V_drew)); exact HO1.out) hb); have n1_ := Aside0.mk (Kd.N_below (by (with_reducible repeat (first | apply Kd.N_alloc | apply Kd.N_drewN | apply Kd.N_drew)); exact HO985.out) hb); have n2_ := Aside0.mk (blk_below (g := gb982) (o := .cells #[.int .i64 a0_0, .slice A0_1 l0_1.length c0_1] 24 (0, 0)) (by (with_reducible repeat (first | refine blk_drewN ?_ _ | refine blk_drew ?_ | refine blk_alloc ?_ _)); exact BK982.out) hb); have n3_ := Aside0.mk (below_step (by repeat (first | (with_reducible first | exact HB.out | apply below_alloc | apply pw_below_drewN | apply below_drew1 | refine below_set ?_ GE982.out) | exact HB.out)) hb); clear HO1; clear HO985; clear BK982; clear HB; have HO1 := n0_; have HO985 := n1_; have BK982 := n2_; have HB := n3_; clear n0_ n1_ n2_ n3_; (try clear hb); (try clear hb2); (try clear hk); (try clear hi); have hcz21_0 : w20.cell? ⟨gb982, 0, none⟩ = some (.int .i64 a0_0) := (blk_cell BK982.out 0).trans rfl; have hcz21_1 : w20.cell? ⟨gb982, 1, none⟩ = some (.slice A0_1 l0_1.length c0_1) := (blk_cell BK982.out 1).trans rfl; have hfz21_0 := blk_frozen BK982.out 0; have hfz21_1 := blk_frozen BK982.out 1) | (go_at_call 31; (with_reducible refine (net_Outs.calls k a0_0 _ _ l0_1 _ _ l1 t988 _ ?side1 ?side2 ?side3 ?side4 A14.out).mono ?_); (case side1 => repeat (first | exact (Kd.C_below HR0_1.out HB.out) | (with_reducible refine Kd.C_alloc ?_ _) | (with_reducible refine Kd.C_drewN ?_ _) | (with_reducible refine Kd.C_drew ?_))); (case side2 => exact HC0_1.out); (case side3 => repeat (first | exact (Kd.V_reads' HO1.out).2.2 | (with_reducible refine Kd.C_alloc ?_ _) | (with_reducible refine Kd.C_drewN ?_ _) | (with_reducible refine Kd.C_drew ?_))); (case side4 => exact (Kd.V_reads' HO1.out).2.1); rintro e w22 ⟨rfl, hb⟩; have n0_ := Aside0.mk (Kd.V_below (by (with_reducible repeat (first | apply Kd.V_alloc | apply Kd.V_drewN | apply Kd.V_drew)); exact HO1.out) hb); have n1_ := Aside0.mk (Kd.N_below (by (with_reducible repeat (first | apply Kd.N_alloc | apply Kd.N_drewN | apply Kd.N_drew)); exact HO985.out) hb); have n2_ := Aside0.mk (blk_below (g := gb982) (o := .cells #[.int .i64 a0_0, .slice A0_1 l0_1.length c0_1] 24 (0, 0)) (by (with_reducible repeat (first | refine blk_drewN ?_ _ | refine blk_drew ?_ | refine blk_alloc ?_ _)); exact BK982.out) hb); have n3_ := Aside0.mk (below_step (by repeat (first | (with_reducible first | exact HB.out | apply below_alloc | apply pw_below_drewN | apply below_drew1 | refine below_set ?_ GE982.out) | exact HB.out)) hb); clear HO1; clear HO985; clear BK982; clear HB; have HO1 := n0_; have HO985 := n1_; have BK982 := n2_; have HB := n3_; clear n0_ n1_ n2_ n3_; (try clear hb); (try clear hb2); (try clear hk); (try clear hi)))
        repeat (go_quiet (first | ((with_reducible refine gate_dst (N := 17) rfl ?_); (try (refine gate_guard (by rfl) ?_; dsimp only)); refine Kd.N_lit (Kd.slice 3 (Kd.int .i64)) _ 25 ?hg (N' := 17) ?hd (xs := ([l1] : List (List Int))) (inner := [.slice A1 l1.length c1]) (ok := (fun k_ => (P1_ k_ ∨ w.heap.size ≤ k_) ∧ k_ ≠ gb982)) (okp := (fun k_ => (P1_ k_ ∨ w.heap.size ≤ k_) ∧ k_ ≠ gb982)) ?hr ?hp (fun _ hk => hk) ((show ∀ k_, w4.heap.size ≤ k_ → (fun k_ => (P1_ k_ ∨ w.heap.size ≤ k_) ∧ k_ ≠ gb982) k_ from fun k_ hk => ⟨(.inr (Nat.le_trans (below_size (by repeat (first | (with_reducible first | exact HB.out | apply below_alloc | apply pw_below_drewN | apply below_drew1 | refine below_set ?_ GE982.out) | exact HB.out))) hk)), Kd.freshB (g := gb982) (o := .cells #[.int .i64 a0_0, .slice A0_1 l0_1.length c0_1] 24 (0, 0)) (by (with_reducible repeat (first | refine blk_drewN ?_ _ | refine blk_drew ?_ | refine blk_alloc ?_ _)); exact BK982.out) k_ hk⟩) _ (Nat.le_refl _)) (Below.refl _ _) (Nat.le_refl _) (by simp) ?_; (case hd => rfl); (case hg => rfl); (case hr => first | (go_simp; done) | (go_simp; rfl)); (case hp => exact (Reps.one (show Kd.FK (Kd.slice 3 (Kd.int .i64)) _ _ l1 [.slice A1 l1.length c1] from (Kd.FK_slice_mk (Kd.V_reads' (Kd.V_mono (ok' := (fun k_ => (P1_ k_ ∨ w.heap.size ≤ k_) ∧ k_ ≠ gb982)) (HO1.out) (fun k_ hk => ⟨hk.1, hk.2⟩))).2.1 (Kd.V_F (Kd.V_mono (ok' := (fun k_ => (P1_ k_ ∨ w.heap.size ≤ k_) ∧ k_ ≠ gb982)) (HO1.out) (fun k_ hk => ⟨hk.1, hk.2⟩))))) (Reps.none _ _))); intro v984 w16 ho17 hb hg_ hnew_; clear hg_ hnew_; (first | rw [← Ny983.out] at ho17 | (simp only [Int.reduceToNat] at ho17; rw [← Ny983.out] at ho17)); have n0_ := Aside0.mk (Kd.V_elder' (by (with_reducible repeat (first | apply Kd.V_alloc | apply Kd.V_drewN | apply Kd.V_drew)); exact HO1.out) (Kd.N_base ho17) hb); have n1_ := Aside0.mk (Kd.N_lower ho17 (below_size (by repeat (first | (with_reducible first | exact HB.out | apply below_alloc | apply pw_below_drewN | apply below_drew1 | refine below_set ?_ GE982.out) | exact HB.out)))); have n2_ := Aside0.mk (blk_below (g := gb982) (o := .cells #[.int .i64 a0_0, .slice A0_1 l0_1.length c0_1] 24 (0, 0)) (by (with_reducible repeat (first | refine blk_drewN ?_ _ | refine blk_drew ?_ | refine blk_alloc ?_ _)); exact BK982.out) hb); have n3_ := Aside0.mk (below_step (by repeat (first | (with_reducible first | exact HB.out | apply below_alloc | apply pw_below_drewN | apply below_drew1 | refine below_set ?_ GE982.out) | exact HB.out)) hb); clear HO1; clear BK982; clear HB; have HO1 := n0_; have HO985 := n1_; have BK982 := n2_; have HB := n3_; clear n0_ n1_ n2_ n3_; clear hb ho17; obtain ⟨Ao18, co18, eo18⟩ := Kd.N_slice HO985.out; subst eo18) | (go_at_call 28; (with_reducible refine (pylonlaw14_Long.calls k a0_0 _ _ l0_1 _ _ y983 false _ ?side1 ?side2 ?side3 ?side4 A5.out).mono ?_); (case side1 => repeat (first | exact (Kd.C_below HR0_1.out HB.out) | (with_reducible refine Kd.C_alloc ?_ _) | (with_reducible refine Kd.C_drewN ?_ _) | (with_reducible refine Kd.C_drew ?_))); (case side2 => exact HC0_1.out); (case side3 => repeat (first | exact (Kd.N_reads' HO985.out).2.2 | (with_reducible refine Kd.C_alloc ?_ _) | (with_reducible refine Kd.C_drewN ?_ _) | (with_reducible refine Kd.C_drew ?_))); (case side4 => exact (Kd.N_reads' HO985.out).2.1); rintro e w19 ⟨rfl, hb⟩; have n0_ := Aside0.mk (Kd.V_below (by (with_reducible repeat (first | apply Kd.V_alloc | apply Kd.V_drewN | apply Kd.V_drew)); exact HO1.out) hb); have n1_ := Aside0.mk (Kd.N_below (by (with_reducible repeat (first | apply Kd.N_alloc | apply Kd.N_drewN | apply Kd.N_drew)); exact HO985.out) hb); have n2_ := Aside0.mk (blk_below (g := gb982) (o := .cells #[.int .i64 a0_0, .slice A0_1 l0_1.length c0_1] 24 (0, 0)) (by (with_reducible repeat (first | refine blk_drewN ?_ _ | refine blk_drew ?_ | refine blk_alloc ?_ _)); exact BK982.out) hb); have n3_ := Aside0.mk (below_step (by repeat (first | (with_reducible first | exact HB.out | apply below_alloc | apply pw_below_drewN | apply below_drew1 | refine below_set ?_ GE982.out) | exact HB.out)) hb); clear HO1; clear HO985; clear BK982; clear HB; have HO1 := n0_; have HO985 := n1_; have BK982 := n2_; have HB := n3_; clear n0_ n1_ n2_ n3_; (try clear hb); (try clear hb2); (try clear hk); (try clear hi)) | (go_at_call 51; (with_reducible refine (pylonlaw16_awake.calls  true _ A12.out).mono ?_); rintro e w20 ⟨rfl, hb⟩; have n0_ := Aside0.mk (Kd.V_below (by (with_reducible repeat (first | apply Kd.V_alloc | apply Kd.V_drewN | apply Kd.V_drew)); exact HO1.out) hb); have n1_ := Aside0.mk (Kd.N_below (by (with_reducible repeat (first | apply Kd.N_alloc | apply Kd.N_drewN | apply Kd.N_drew)); exact HO985.out) hb); have n2_ := Aside0.mk (blk_below (g := gb982) (o := .cells #[.int .i64 a0_0, .slice A0_1 l0_1.length c0_1] 24 (0, 0)) (by (with_reducible repeat (first | refine blk_drewN ?_ _ | refine blk_drew ?_ | refine blk_alloc ?_ _)); exact BK982.out) hb); have n3_ := Aside0.mk (below_step (by repeat (first | (with_reducible first | exact HB.out | apply below_alloc | apply pw_below_drewN | apply below_drew1 | refine below_set ?_ GE982.out) | exact HB.out)) hb); clear HO1; clear HO985; clear BK982; clear HB; have HO1 := n0_; have HO985 := n1_; have BK982 := n2_; have HB := n3_; clear n0_ n1_ n2_ n3_; (try clear hb); (try clear hb2); (try clear hk); (try clear hi); have hcz21_0 : w20.cell? ⟨gb982, 0, none⟩ = some (.int .i64 a0_0) := (blk_cell BK982.out 0).trans rfl; have hcz21_1 : w20.cell? ⟨gb982, 1, none⟩ = some (.slice A0_1 l0_1.length c0_1) := (blk_cell BK982.out 1).trans rfl; have hfz21_0 := blk_frozen BK982.out 0; have hfz21_1 := blk_frozen BK982.out 1) | (go_at_call 31; (with_reducible refine (net_Outs.calls k a0_0 _ _ l0_1 _ _ l1 t988 _ ?side1 ?side2 ?side3 ?side4 A14.out).mono ?_); (case side1 => repeat (first | exact (Kd.C_below HR0_1.out HB.out) | (with_reducible refine Kd.C_alloc ?_ _) | (with_reducible refine Kd.C_drewN ?_ _) | (with_reducible refine Kd.C_drew ?_))); (case side2 => exact HC0_1.out); (case side3 => repeat (first | exact (Kd.V_reads' HO1.out).2.2 | (with_reducible refine Kd.C_alloc ?_ _) | (with_reducible refine Kd.C_drewN ?_ _) | (with_reducible refine Kd.C_drew ?_))); (case side4 => exact (Kd.V_reads' HO1.out).2.1); rintro e w22 ⟨rfl, hb⟩; have n0_ := Aside0.mk (Kd.V_below (by (with_reducible repeat (first | apply Kd.V_alloc | apply Kd.V_drewN | apply Kd.V_drew)); exact HO1.out) hb); have n1_ := Aside0.mk (Kd.N_below (by (with_reducible repeat (first | apply Kd.N_alloc | apply Kd.N_drewN | apply Kd.N_drew)); exact HO985.out) hb); have n2_ := Aside0.mk (blk_below (g := gb982) (o := .cells #[.int .i64 a0_0, .slice A0_1 l0_1.length c0_1] 24 (0, 0)) (by (with_reducible repeat (first | refine blk_drewN ?_ _ | refine blk_drew ?_ | refine blk_alloc ?_ _)); exact BK982.out) hb); have n3_ := Aside0.mk (below_step (by repeat (first | (with_reducible first | exact HB.out | apply below_alloc | apply pw_below_drewN | apply below_drew1 | refine below_set ?_ GE982.out) | exact HB.out)) hb); clear HO1; clear HO985; clear BK982; clear HB; have HO1 := n0_; have HO985 := n1_; have BK982 := n2_; have HB := n3_; clear n0_ n1_ n2_ n3_; (try clear hb); (try clear hb2); (try clear hk); (try clear hi))); try go_wp2_with (first | ((with_reducible refine gate_dst (N := 17) rfl ?_); (try (refine gate_guard (by rfl) ?_; dsimp only)); refine Kd.N_lit (Kd.slice 3 (Kd.int .i64)) _ 25 ?hg (N' := 17) ?hd (xs := ([l1] : List (List Int))) (inner := [.slice A1 l1.length c1]) (ok := (fun k_ => (P1_ k_ ∨ w.heap.size ≤ k_) ∧ k_ ≠ gb982)) (okp := (fun k_ => (P1_ k_ ∨ w.heap.size ≤ k_) ∧ k_ ≠ gb982)) ?hr ?hp (fun _ hk => hk) ((show ∀ k_, w4.heap.size ≤ k_ → (fun k_ => (P1_ k_ ∨ w.heap.size ≤ k_) ∧ k_ ≠ gb982) k_ from fun k_ hk => ⟨(.inr (Nat.le_trans (below_size (by repeat (first | (with_reducible first | exact HB.out | apply below_alloc | apply pw_below_drewN | apply below_drew1 | refine below_set ?_ GE982.out) | exact HB.out))) hk)), Kd.freshB (g := gb982) (o := .cells #[.int .i64 a0_0, .slice A0_1 l0_1.length c0_1] 24 (0, 0)) (by (with_reducible repeat (first | refine blk_drewN ?_ _ | refine blk_drew ?_ | refine blk_alloc ?_ _)); exact BK982.out) k_ hk⟩) _ (Nat.le_refl _)) (Below.refl _ _) (Nat.le_refl _) (by simp) ?_; (case hd => rfl); (case hg => rfl); (case hr => first | (go_simp; done) | (go_simp; rfl)); (case hp => exact (Reps.one (show Kd.FK (Kd.slice 3 (Kd.int .i64)) _ _ l1 [.slice A1 l1.length c1] from (Kd.FK_slice_mk (Kd.V_reads' (Kd.V_mono (ok' := (fun k_ => (P1_ k_ ∨ w.heap.size ≤ k_) ∧ k_ ≠ gb982)) (HO1.out) (fun k_ hk => ⟨hk.1, hk.2⟩))).2.1 (Kd.V_F (Kd.V_mono (ok' := (fun k_ => (P1_ k_ ∨ w.heap.size ≤ k_) ∧ k_ ≠ gb982)) (HO1.out) (fun k_ hk => ⟨hk.1, hk.2⟩))))) (Reps.none _ _))); intro v984 w16 ho17 hb hg_ hnew_; clear hg_ hnew_; (first | rw [← Ny983.out] at ho17 | (simp only [Int.reduceToNat] at ho17; rw [← Ny983.out] at ho17)); have n0_ := Aside0.mk (Kd.V_elder' (by (with_reducible repeat (first | apply Kd.V_alloc | apply Kd.V_drewN | apply Kd.V_drew)); exact HO1.out) (Kd.N_base ho17) hb); have n1_ := Aside0.mk (Kd.N_lower ho17 (below_size (by repeat (first | (with_reducible first | exact HB.out | apply below_alloc | apply pw_below_drewN | apply below_drew1 | refine below_set ?_ GE982.out) | exact HB.out)))); have n2_ := Aside0.mk (blk_below (g := gb982) (o := .cells #[.int .i64 a0_0, .slice A0_1 l0_1.length c0_1] 24 (0, 0)) (by (with_reducible repeat (first | refine blk_drewN ?_ _ | refine blk_drew ?_ | refine blk_alloc ?_ _)); exact BK982.out) hb); have n3_ := Aside0.mk (below_step (by repeat (first | (with_reducible first | exact HB.out | apply below_alloc | apply pw_below_drewN | apply below_drew1 | refine below_set ?_ GE982.out) | exact HB.out)) hb); clear HO1; clear BK982; clear HB; have HO1 := n0_; have HO985 := n1_; have BK982 := n2_; have HB := n3_; clear n0_ n1_ n2_ n3_; clear hb ho17; obtain ⟨Ao18, co18, eo18⟩ := Kd.N_slice HO985.out; subst eo18) | (go_at_call 28; (with_reducible refine (pylonlaw14_Long.calls k a0_0 _ _ l0_1 _ _ y983 false _ ?side1 ?side2 ?side3 ?side4 A5.out).mono ?_); (case side1 => repeat (first | exact (Kd.C_below HR0_1.out HB.out) | (with_reducible refine Kd.C_alloc ?_ _) | (with_reducible refine Kd.C_drewN ?_ _) | (with_reducible refine Kd.C_drew ?_))); (case side2 => exact HC0_1.out); (case side3 => repeat (first | exact (Kd.N_reads' HO985.out).2.2 | (with_reducible refine Kd.C_alloc ?_ _) | (with_reducible refine Kd.C_drewN ?_ _) | (with_reducible refine Kd.C_drew ?_))); (case side4 => exact (Kd.N_reads' HO985.out).2.1); rintro e w19 ⟨rfl, hb⟩; have n0_ := Aside0.mk (Kd.V_below (by (with_reducible repeat (first | apply Kd.V_alloc | apply Kd.V_drewN | apply Kd.V_drew)); exact HO1.out) hb); have n1_ := Aside0.mk (Kd.N_below (by (with_reducible repeat (first | apply Kd.N_alloc | apply Kd.N_drewN | apply Kd.N_drew)); exact HO985.out) hb); have n2_ := Aside0.mk (blk_below (g := gb982) (o := .cells #[.int .i64 a0_0, .slice A0_1 l0_1.length c0_1] 24 (0, 0)) (by (with_reducible repeat (first | refine blk_drewN ?_ _ | refine blk_drew ?_ | refine blk_alloc ?_ _)); exact BK982.out) hb); have n3_ := Aside0.mk (below_step (by repeat (first | (with_reducible first | exact HB.out | apply below_alloc | apply pw_below_drewN | apply below_drew1 | refine below_set ?_ GE982.out) | exact HB.out)) hb); clear HO1; clear HO985; clear BK982; clear HB; have HO1 := n0_; have HO985 := n1_; have BK982 := n2_; have HB := n3_; clear n0_ n1_ n2_ n3_; (try clear hb); (try clear hb2); (try clear hk); (try clear hi)) | (go_at_call 51; (with_reducible refine (pylonlaw16_awake.calls  true _ A12.out).mono ?_); rintro e w20 ⟨rfl, hb⟩; have n0_ := Aside0.mk (Kd.V_below (by (with_reducible repeat (first | apply Kd.V_alloc | apply Kd.V_drewN | apply Kd.V_drew)); exact HO1.out) hb); have n1_ := Aside0.mk (Kd.N_below (by (with_reducible repeat (first | apply Kd.N_alloc | apply Kd.N_drewN | apply Kd.N_drew)); exact HO985.out) hb); have n2_ := Aside0.mk (blk_below (g := gb982) (o := .cells #[.int .i64 a0_0, .slice A0_1 l0_1.length c0_1] 24 (0, 0)) (by (with_reducible repeat (first | refine blk_drewN ?_ _ | refine blk_drew ?_ | refine blk_alloc ?_ _)); exact BK982.out) hb); have n3_ := Aside0.mk (below_step (by repeat (first | (with_reducible first | exact HB.out | apply below_alloc | apply pw_below_drewN | apply below_drew1 | refine below_set ?_ GE982.out) | exact HB.out)) hb); clear HO1; clear HO985; clear BK982; clear HB; have HO1 := n0_; have HO985 := n1_; have BK982 := n2_; have HB := n3_; clear n0_ n1_ n2_ n3_; (try clear hb); (try clear hb2); (try clear hk); (try clear hi); have hcz21_0 : w20.cell? ⟨gb982, 0, none⟩ = some (.int .i64 a0_0) := (blk_cell BK982.out 0).trans rfl; have hcz21_1 : w20.cell? ⟨gb982, 1, none⟩ = some (.slice A0_1 l0_1.length c0_1) := (blk_cell BK982.out 1).trans rfl; have hfz21_0 := blk_frozen BK982.out 0; have hfz21_1 := blk_frozen BK982.out 1) | (go_at_call 31; (with_reducible refine (net_Outs.calls k a0_0 _ _ l0_1 _ _ l1 t988 _ ?side1 ?side2 ?side3 ?side4 A14.out).mono ?_); (case side1 => repeat (first | exact (Kd.C_below HR0_1.out HB.out) | (with_reducible refine Kd.C_alloc ?_ _) | (with_reducible refine Kd.C_drewN ?_ _) | (with_reducible refine Kd.C_drew ?_))); (case side2 => exact HC0_1.out); (case side3 => repeat (first | exact (Kd.V_reads' HO1.out).2.2 | (with_reducible refine Kd.C_alloc ?_ _) | (with_reducible refine Kd.C_drewN ?_ _) | (with_reducible refine Kd.C_drew ?_))); (case side4 => exact (Kd.V_reads' HO1.out).2.1); rintro e w22 ⟨rfl, hb⟩; have n0_ := Aside0.mk (Kd.V_below (by (with_reducible repeat (first | apply Kd.V_alloc | apply Kd.V_drewN | apply Kd.V_drew)); exact HO1.out) hb); have n1_ := Aside0.mk (Kd.N_below (by (with_reducible repeat (first | apply Kd.N_alloc | apply Kd.N_drewN | apply Kd.N_drew)); exact HO985.out) hb); have n2_ := Aside0.mk (blk_below (g := gb982) (o := .cells #[.int .i64 a0_0, .slice A0_1 l0_1.length c0_1] 24 (0, 0)) (by (with_reducible repeat (first | refine blk_drewN ?_ _ | refine blk_drew ?_ | refine blk_alloc ?_ _)); exact BK982.out) hb); have n3_ := Aside0.mk (below_step (by repeat (first | (with_reducible first | exact HB.out | apply below_alloc | apply pw_below_drewN | apply below_drew1 | refine below_set ?_ GE982.out) | exact HB.out)) hb); clear HO1; clear HO985; clear BK982; clear HB; have HO1 := n0_; have HO985 := n1_; have BK982 := n2_; have HB := n3_; clear n0_ n1_ n2_ n3_; (try clear hb); (try clear hb2); (try clear hk); (try clear hi))))
        go_meet
        case rel => exact ⟨_, ((t988 != 0)), (by first | rfl | (simp; done) | (simp [*]; done)), H', ⟨by first | omega | exact Nat.le_refl _⟩, ⟨by (with_reducible repeat (first | apply Kd.V_alloc | apply Kd.V_drewN | apply Kd.V_drew)); exact Kd.V_mono HO1.out (fun _ hk => ⟨hk.1.1, hk.1.2⟩)⟩, ⟨by (with_reducible repeat (first | refine blk_drewN ?_ _ | refine blk_drew ?_ | refine blk_alloc ?_ _)); exact BK982.out⟩, ⟨by repeat (first | (with_reducible first | exact HB.out | apply below_alloc | apply pw_below_drewN | apply below_drew1 | refine below_set ?_ GE982.out) | exact HB.out)⟩⟩
      · as_aux_lemma =>
        replace c13 := Bool.eq_false_iff.mpr c13
        subst c13
        have H1 : (pylonlaw16_TreeCycles.j0 k l1 true a0_0 l0_1) = some r := by rw [if_neg (show ¬ (false = true) by decide)] at H; exact H
        clear H
        have H := H1
        clear H1
        have H' := Aside0.mk H
        clear H
        have hcz23_0 : w4.cell? ⟨gb982, 0, none⟩ = some (.int .i64 a0_0) := (blk_cell BK982.out 0).trans rfl
        have hcz23_1 : w4.cell? ⟨gb982, 1, none⟩ = some (.slice A0_1 l0_1.length c0_1) := (blk_cell BK982.out 1).trans rfl
        have hfz23_0 := blk_frozen BK982.out 0
        have hfz23_1 := blk_frozen BK982.out 1
        go_wp2_with (first | ((with_reducible refine gate_dst (N := 17) rfl ?_); (try (refine gate_guard (by rfl) ?_; dsimp only)); refine Kd.N_lit (Kd.slice 3 (Kd.int .i64)) _ 25 ?hg (N' := 17) ?hd (xs := ([l1] : List (List Int))) (inner := [.slice A1 l1.length c1]) (ok := (fun k_ => (P1_ k_ ∨ w.heap.size ≤ k_) ∧ k_ ≠ gb982)) (okp := (fun k_ => (P1_ k_ ∨ w.heap.size ≤ k_) ∧ k_ ≠ gb982)) ?hr ?hp (fun _ hk => hk) ((show ∀ k_, w4.heap.size ≤ k_ → (fun k_ => (P1_ k_ ∨ w.heap.size ≤ k_) ∧ k_ ≠ gb982) k_ from fun k_ hk => ⟨(.inr (Nat.le_trans (below_size (by repeat (first | (with_reducible first | exact HB.out | apply below_alloc | apply pw_below_drewN | apply below_drew1 | refine below_set ?_ GE982.out) | exact HB.out))) hk)), Kd.freshB (g := gb982) (o := .cells #[.int .i64 a0_0, .slice A0_1 l0_1.length c0_1] 24 (0, 0)) (by (with_reducible repeat (first | refine blk_drewN ?_ _ | refine blk_drew ?_ | refine blk_alloc ?_ _)); exact BK982.out) k_ hk⟩) _ (Nat.le_refl _)) (Below.refl _ _) (Nat.le_refl _) (by simp) ?_; (case hd => rfl); (case hg => rfl); (case hr => first | (go_simp; done) | (go_simp; rfl)); (case hp => exact (Reps.one (show Kd.FK (Kd.slice 3 (Kd.int .i64)) _ _ l1 [.slice A1 l1.length c1] from (Kd.FK_slice_mk (Kd.V_reads' (Kd.V_mono (ok' := (fun k_ => (P1_ k_ ∨ w.heap.size ≤ k_) ∧ k_ ≠ gb982)) (HO1.out) (fun k_ hk => ⟨hk.1, hk.2⟩))).2.1 (Kd.V_F (Kd.V_mono (ok' := (fun k_ => (P1_ k_ ∨ w.heap.size ≤ k_) ∧ k_ ≠ gb982)) (HO1.out) (fun k_ hk => ⟨hk.1, hk.2⟩))))) (Reps.none _ _))); intro v984 w24 ho25 hb hg_ hnew_; clear hg_ hnew_; (first | rw [← Ny983.out] at ho25 | (simp only [Int.reduceToNat] at ho25; rw [← Ny983.out] at ho25)); have n0_ := Aside0.mk (Kd.V_elder' (by (with_reducible repeat (first | apply Kd.V_alloc | apply Kd.V_drewN | apply Kd.V_drew)); exact HO1.out) (Kd.N_base ho25) hb); have n1_ := Aside0.mk (Kd.N_lower ho25 (below_size (by repeat (first | (with_reducible first | exact HB.out | apply below_alloc | apply pw_below_drewN | apply below_drew1 | refine below_set ?_ GE982.out) | exact HB.out)))); have n2_ := Aside0.mk (blk_below (g := gb982) (o := .cells #[.int .i64 a0_0, .slice A0_1 l0_1.length c0_1] 24 (0, 0)) (by (with_reducible repeat (first | refine blk_drewN ?_ _ | refine blk_drew ?_ | refine blk_alloc ?_ _)); exact BK982.out) hb); have n3_ := Aside0.mk (below_step (by repeat (first | (with_reducible first | exact HB.out | apply below_alloc | apply pw_below_drewN | apply below_drew1 | refine below_set ?_ GE982.out) | exact HB.out)) hb); clear HO1; clear BK982; clear HB; have HO1 := n0_; have HO985 := n1_; have BK982 := n2_; have HB := n3_; clear n0_ n1_ n2_ n3_; clear hb ho25; obtain ⟨Ao26, co26, eo26⟩ := Kd.N_slice HO985.out; subst eo26) | (go_at_call 28; (with_reducible refine (pylonlaw14_Long.calls k a0_0 _ _ l0_1 _ _ y983 false _ ?side1 ?side2 ?side3 ?side4 A5.out).mono ?_); (case side1 => repeat (first | exact (Kd.C_below HR0_1.out HB.out) | (with_reducible refine Kd.C_alloc ?_ _) | (with_reducible refine Kd.C_drewN ?_ _) | (with_reducible refine Kd.C_drew ?_))); (case side2 => exact HC0_1.out); (case side3 => repeat (first | exact (Kd.N_reads' HO985.out).2.2 | (with_reducible refine Kd.C_alloc ?_ _) | (with_reducible refine Kd.C_drewN ?_ _) | (with_reducible refine Kd.C_drew ?_))); (case side4 => exact (Kd.N_reads' HO985.out).2.1); rintro e w27 ⟨rfl, hb⟩; have n0_ := Aside0.mk (Kd.V_below (by (with_reducible repeat (first | apply Kd.V_alloc | apply Kd.V_drewN | apply Kd.V_drew)); exact HO1.out) hb); have n1_ := Aside0.mk (Kd.N_below (by (with_reducible repeat (first | apply Kd.N_alloc | apply Kd.N_drewN | apply Kd.N_drew)); exact HO985.out) hb); have n2_ := Aside0.mk (blk_below (g := gb982) (o := .cells #[.int .i64 a0_0, .slice A0_1 l0_1.length c0_1] 24 (0, 0)) (by (with_reducible repeat (first | refine blk_drewN ?_ _ | refine blk_drew ?_ | refine blk_alloc ?_ _)); exact BK982.out) hb); have n3_ := Aside0.mk (below_step (by repeat (first | (with_reducible first | exact HB.out | apply below_alloc | apply pw_below_drewN | apply below_drew1 | refine below_set ?_ GE982.out) | exact HB.out)) hb); clear HO1; clear HO985; clear BK982; clear HB; have HO1 := n0_; have HO985 := n1_; have BK982 := n2_; have HB := n3_; clear n0_ n1_ n2_ n3_; (try clear hb); (try clear hb2); (try clear hk); (try clear hi)) | (go_at_call 51; (with_reducible refine (pylonlaw16_awake.calls  false _ A12.out).mono ?_); rintro e w28 ⟨rfl, hb⟩; have n0_ := Aside0.mk (Kd.V_below (by (with_reducible repeat (first | apply Kd.V_alloc | apply Kd.V_drewN | apply Kd.V_drew)); exact HO1.out) hb); have n1_ := Aside0.mk (Kd.N_below (by (with_reducible repeat (first | apply Kd.N_alloc | apply Kd.N_drewN | apply Kd.N_drew)); exact HO985.out) hb); have n2_ := Aside0.mk (blk_below (g := gb982) (o := .cells #[.int .i64 a0_0, .slice A0_1 l0_1.length c0_1] 24 (0, 0)) (by (with_reducible repeat (first | refine blk_drewN ?_ _ | refine blk_drew ?_ | refine blk_alloc ?_ _)); exact BK982.out) hb); have n3_ := Aside0.mk (below_step (by repeat (first | (with_reducible first | exact HB.out | apply below_alloc | apply pw_below_drewN | apply below_drew1 | refine below_set ?_ GE982.out) | exact HB.out)) hb); clear HO1; clear HO985; clear BK982; clear HB; have HO1 := n0_; have HO985 := n1_; have BK982 := n2_; have HB := n3_; clear n0_ n1_ n2_ n3_; (try clear hb); (try clear hb2); (try clear hk); (try clear hi)))
        repeat (go_quiet (first | ((with_reducible refine gate_dst (N := 17) rfl ?_); (try (refine gate_guard (by rfl) ?_; dsimp only)); refine Kd.N_lit (Kd.slice 3 (Kd.int .i64)) _ 25 ?hg (N' := 17) ?hd (xs := ([l1] : List (List Int))) (inner := [.slice A1 l1.length c1]) (ok := (fun k_ => (P1_ k_ ∨ w.heap.size ≤ k_) ∧ k_ ≠ gb982)) (okp := (fun k_ => (P1_ k_ ∨ w.heap.size ≤ k_) ∧ k_ ≠ gb982)) ?hr ?hp (fun _ hk => hk) ((show ∀ k_, w4.heap.size ≤ k_ → (fun k_ => (P1_ k_ ∨ w.heap.size ≤ k_) ∧ k_ ≠ gb982) k_ from fun k_ hk => ⟨(.inr (Nat.le_trans (below_size (by repeat (first | (with_reducible first | exact HB.out | apply below_alloc | apply pw_below_drewN | apply below_drew1 | refine below_set ?_ GE982.out) | exact HB.out))) hk)), Kd.freshB (g := gb982) (o := .cells #[.int .i64 a0_0, .slice A0_1 l0_1.length c0_1] 24 (0, 0)) (by (with_reducible repeat (first | refine blk_drewN ?_ _ | refine blk_drew ?_ | refine blk_alloc ?_ _)); exact BK982.out) k_ hk⟩) _ (Nat.le_refl _)) (Below.refl _ _) (Nat.le_refl _) (by simp) ?_; (case hd => rfl); (case hg => rfl); (case hr => first | (go_simp; done) | (go_simp; rfl)); (case hp => exact (Reps.one (show Kd.FK (Kd.slice 3 (Kd.int .i64)) _ _ l1 [.slice A1 l1.length c1] from (Kd.FK_slice_mk (Kd.V_reads' (Kd.V_mono (ok' := (fun k_ => (P1_ k_ ∨ w.heap.size ≤ k_) ∧ k_ ≠ gb982)) (HO1.out) (fun k_ hk => ⟨hk.1, hk.2⟩))).2.1 (Kd.V_F (Kd.V_mono (ok' := (fun k_ => (P1_ k_ ∨ w.heap.size ≤ k_) ∧ k_ ≠ gb982)) (HO1.out) (fun k_ hk => ⟨hk.1, hk.2⟩))))) (Reps.none _ _))); intro v984 w24 ho25 hb hg_ hnew_; clear hg_ hnew_; (first | rw [← Ny983.out] at ho25 | (simp only [Int.reduceToNat] at ho25; rw [← Ny983.out] at ho25)); have n0_ := Aside0.mk (Kd.V_elder' (by (with_reducible repeat (first | apply Kd.V_alloc | apply Kd.V_drewN | apply Kd.V_drew)); exact HO1.out) (Kd.N_base ho25) hb); have n1_ := Aside0.mk (Kd.N_lower ho25 (below_size (by repeat (first | (with_reducible first | exact HB.out | apply below_alloc | apply pw_below_drewN | apply below_drew1 | refine below_set ?_ GE982.out) | exact HB.out)))); have n2_ := Aside0.mk (blk_below (g := gb982) (o := .cells #[.int .i64 a0_0, .slice A0_1 l0_1.length c0_1] 24 (0, 0)) (by (with_reducible repeat (first | refine blk_drewN ?_ _ | refine blk_drew ?_ | refine blk_alloc ?_ _)); exact BK982.out) hb); have n3_ := Aside0.mk (below_step (by repeat (first | (with_reducible first | exact HB.out | apply below_alloc | apply pw_below_drewN | apply below_drew1 | refine below_set ?_ GE982.out) | exact HB.out)) hb); clear HO1; clear BK982; clear HB; have HO1 := n0_; have HO985 := n1_; have BK982 := n2_; have HB := n3_; clear n0_ n1_ n2_ n3_; clear hb ho25; obtain ⟨Ao26, co26, eo26⟩ := Kd.N_slice HO985.out; subst eo26) | (go_at_call 28; (with_reducible refine (pylonlaw14_Long.calls k a0_0 _ _ l0_1 _ _ y983 false _ ?side1 ?side2 ?side3 ?side4 A5.out).mono ?_); (case side1 => repeat (first | exact (Kd.C_below HR0_1.out HB.out) | (with_reducible refine Kd.C_alloc ?_ _) | (with_reducible refine Kd.C_drewN ?_ _) | (with_reducible refine Kd.C_drew ?_))); (case side2 => exact HC0_1.out); (case side3 => repeat (first | exact (Kd.N_reads' HO985.out).2.2 | (with_reducible refine Kd.C_alloc ?_ _) | (with_reducible refine Kd.C_drewN ?_ _) | (with_reducible refine Kd.C_drew ?_))); (case side4 => exact (Kd.N_reads' HO985.out).2.1); rintro e w27 ⟨rfl, hb⟩; have n0_ := Aside0.mk (Kd.V_below (by (with_reducible repeat (first | apply Kd.V_alloc | apply Kd.V_drewN | apply Kd.V_drew)); exact HO1.out) hb); have n1_ := Aside0.mk (Kd.N_below (by (with_reducible repeat (first | apply Kd.N_alloc | apply Kd.N_drewN | apply Kd.N_drew)); exact HO985.out) hb); have n2_ := Aside0.mk (blk_below (g := gb982) (o := .cells #[.int .i64 a0_0, .slice A0_1 l0_1.length c0_1] 24 (0, 0)) (by (with_reducible repeat (first | refine blk_drewN ?_ _ | refine blk_drew ?_ | refine blk_alloc ?_ _)); exact BK982.out) hb); have n3_ := Aside0.mk (below_step (by repeat (first | (with_reducible first | exact HB.out | apply below_alloc | apply pw_below_drewN | apply below_drew1 | refine below_set ?_ GE982.out) | exact HB.out)) hb); clear HO1; clear HO985; clear BK982; clear HB; have HO1 := n0_; have HO985 := n1_; have BK982 := n2_; have HB := n3_; clear n0_ n1_ n2_ n3_; (try clear hb); (try clear hb2); (try clear hk); (try clear hi)) | (go_at_call 51; (with_reducible refine (pylonlaw16_awake.calls  false _ A12.out).mono ?_); rintro e w28 ⟨rfl, hb⟩; have n0_ := Aside0.mk (Kd.V_below (by (with_reducible repeat (first | apply Kd.V_alloc | apply Kd.V_drewN | apply Kd.V_drew)); exact HO1.out) hb); have n1_ := Aside0.mk (Kd.N_below (by (with_reducible repeat (first | apply Kd.N_alloc | apply Kd.N_drewN | apply Kd.N_drew)); exact HO985.out) hb); have n2_ := Aside0.mk (blk_below (g := gb982) (o := .cells #[.int .i64 a0_0, .slice A0_1 l0_1.length c0_1] 24 (0, 0)) (by (with_reducible repeat (first | refine blk_drewN ?_ _ | refine blk_drew ?_ | refine blk_alloc ?_ _)); exact BK982.out) hb); have n3_ := Aside0.mk (below_step (by repeat (first | (with_reducible first | exact HB.out | apply below_alloc | apply pw_below_drewN | apply below_drew1 | refine below_set ?_ GE982.out) | exact HB.out)) hb); clear HO1; clear HO985; clear BK982; clear HB; have HO1 := n0_; have HO985 := n1_; have BK982 := n2_; have HB := n3_; clear n0_ n1_ n2_ n3_; (try clear hb); (try clear hb2); (try clear hk); (try clear hi))); try go_wp2_with (first | ((with_reducible refine gate_dst (N := 17) rfl ?_); (try (refine gate_guard (by rfl) ?_; dsimp only)); refine Kd.N_lit (Kd.slice 3 (Kd.int .i64)) _ 25 ?hg (N' := 17) ?hd (xs := ([l1] : List (List Int))) (inner := [.slice A1 l1.length c1]) (ok := (fun k_ => (P1_ k_ ∨ w.heap.size ≤ k_) ∧ k_ ≠ gb982)) (okp := (fun k_ => (P1_ k_ ∨ w.heap.size ≤ k_) ∧ k_ ≠ gb982)) ?hr ?hp (fun _ hk => hk) ((show ∀ k_, w4.heap.size ≤ k_ → (fun k_ => (P1_ k_ ∨ w.heap.size ≤ k_) ∧ k_ ≠ gb982) k_ from fun k_ hk => ⟨(.inr (Nat.le_trans (below_size (by repeat (first | (with_reducible first | exact HB.out | apply below_alloc | apply pw_below_drewN | apply below_drew1 | refine below_set ?_ GE982.out) | exact HB.out))) hk)), Kd.freshB (g := gb982) (o := .cells #[.int .i64 a0_0, .slice A0_1 l0_1.length c0_1] 24 (0, 0)) (by (with_reducible repeat (first | refine blk_drewN ?_ _ | refine blk_drew ?_ | refine blk_alloc ?_ _)); exact BK982.out) k_ hk⟩) _ (Nat.le_refl _)) (Below.refl _ _) (Nat.le_refl _) (by simp) ?_; (case hd => rfl); (case hg => rfl); (case hr => first | (go_simp; done) | (go_simp; rfl)); (case hp => exact (Reps.one (show Kd.FK (Kd.slice 3 (Kd.int .i64)) _ _ l1 [.slice A1 l1.length c1] from (Kd.FK_slice_mk (Kd.V_reads' (Kd.V_mono (ok' := (fun k_ => (P1_ k_ ∨ w.heap.size ≤ k_) ∧ k_ ≠ gb982)) (HO1.out) (fun k_ hk => ⟨hk.1, hk.2⟩))).2.1 (Kd.V_F (Kd.V_mono (ok' := (fun k_ => (P1_ k_ ∨ w.heap.size ≤ k_) ∧ k_ ≠ gb982)) (HO1.out) (fun k_ hk => ⟨hk.1, hk.2⟩))))) (Reps.none _ _))); intro v984 w24 ho25 hb hg_ hnew_; clear hg_ hnew_; (first | rw [← Ny983.out] at ho25 | (simp only [Int.reduceToNat] at ho25; rw [← Ny983.out] at ho25)); have n0_ := Aside0.mk (Kd.V_elder' (by (with_reducible repeat (first | apply Kd.V_alloc | apply Kd.V_drewN | apply Kd.V_drew)); exact HO1.out) (Kd.N_base ho25) hb); have n1_ := Aside0.mk (Kd.N_lower ho25 (below_size (by repeat (first | (with_reducible first | exact HB.out | apply below_alloc | apply pw_below_drewN | apply below_drew1 | refine below_set ?_ GE982.out) | exact HB.out)))); have n2_ := Aside0.mk (blk_below (g := gb982) (o := .cells #[.int .i64 a0_0, .slice A0_1 l0_1.length c0_1] 24 (0, 0)) (by (with_reducible repeat (first | refine blk_drewN ?_ _ | refine blk_drew ?_ | refine blk_alloc ?_ _)); exact BK982.out) hb); have n3_ := Aside0.mk (below_step (by repeat (first | (with_reducible first | exact HB.out | apply below_alloc | apply pw_below_drewN | apply below_drew1 | refine below_set ?_ GE982.out) | exact HB.out)) hb); clear HO1; clear BK982; clear HB; have HO1 := n0_; have HO985 := n1_; have BK982 := n2_; have HB := n3_; clear n0_ n1_ n2_ n3_; clear hb ho25; obtain ⟨Ao26, co26, eo26⟩ := Kd.N_slice HO985.out; subst eo26) | (go_at_call 28; (with_reducible refine (pylonlaw14_Long.calls k a0_0 _ _ l0_1 _ _ y983 false _ ?side1 ?side2 ?side3 ?side4 A5.out).mono ?_); (case side1 => repeat (first | exact (Kd.C_below HR0_1.out HB.out) | (with_reducible refine Kd.C_alloc ?_ _) | (with_reducible refine Kd.C_drewN ?_ _) | (with_reducible refine Kd.C_drew ?_))); (case side2 => exact HC0_1.out); (case side3 => repeat (first | exact (Kd.N_reads' HO985.out).2.2 | (with_reducible refine Kd.C_alloc ?_ _) | (with_reducible refine Kd.C_drewN ?_ _) | (with_reducible refine Kd.C_drew ?_))); (case side4 => exact (Kd.N_reads' HO985.out).2.1); rintro e w27 ⟨rfl, hb⟩; have n0_ := Aside0.mk (Kd.V_below (by (with_reducible repeat (first | apply Kd.V_alloc | apply Kd.V_drewN | apply Kd.V_drew)); exact HO1.out) hb); have n1_ := Aside0.mk (Kd.N_below (by (with_reducible repeat (first | apply Kd.N_alloc | apply Kd.N_drewN | apply Kd.N_drew)); exact HO985.out) hb); have n2_ := Aside0.mk (blk_below (g := gb982) (o := .cells #[.int .i64 a0_0, .slice A0_1 l0_1.length c0_1] 24 (0, 0)) (by (with_reducible repeat (first | refine blk_drewN ?_ _ | refine blk_drew ?_ | refine blk_alloc ?_ _)); exact BK982.out) hb); have n3_ := Aside0.mk (below_step (by repeat (first | (with_reducible first | exact HB.out | apply below_alloc | apply pw_below_drewN | apply below_drew1 | refine below_set ?_ GE982.out) | exact HB.out)) hb); clear HO1; clear HO985; clear BK982; clear HB; have HO1 := n0_; have HO985 := n1_; have BK982 := n2_; have HB := n3_; clear n0_ n1_ n2_ n3_; (try clear hb); (try clear hb2); (try clear hk); (try clear hi)) | (go_at_call 51; (with_reducible refine (pylonlaw16_awake.calls  false _ A12.out).mono ?_); rintro e w28 ⟨rfl, hb⟩; have n0_ := Aside0.mk (Kd.V_below (by (with_reducible repeat (first | apply Kd.V_alloc | apply Kd.V_drewN | apply Kd.V_drew)); exact HO1.out) hb); have n1_ := Aside0.mk (Kd.N_below (by (with_reducible repeat (first | apply Kd.N_alloc | apply Kd.N_drewN | apply Kd.N_drew)); exact HO985.out) hb); have n2_ := Aside0.mk (blk_below (g := gb982) (o := .cells #[.int .i64 a0_0, .slice A0_1 l0_1.length c0_1] 24 (0, 0)) (by (with_reducible repeat (first | refine blk_drewN ?_ _ | refine blk_drew ?_ | refine blk_alloc ?_ _)); exact BK982.out) hb); have n3_ := Aside0.mk (below_step (by repeat (first | (with_reducible first | exact HB.out | apply below_alloc | apply pw_below_drewN | apply below_drew1 | refine below_set ?_ GE982.out) | exact HB.out)) hb); clear HO1; clear HO985; clear BK982; clear HB; have HO1 := n0_; have HO985 := n1_; have BK982 := n2_; have HB := n3_; clear n0_ n1_ n2_ n3_; (try clear hb); (try clear hb2); (try clear hk); (try clear hi))))
        go_meet
        case rel => exact ⟨_, (true), (by first | rfl | (simp; done) | (simp [*]; done)), H', ⟨by first | omega | exact Nat.le_refl _⟩, ⟨by (with_reducible repeat (first | apply Kd.V_alloc | apply Kd.V_drewN | apply Kd.V_drew)); exact Kd.V_mono HO1.out (fun _ hk => ⟨hk.1.1, hk.1.2⟩)⟩, ⟨by (with_reducible repeat (first | refine blk_drewN ?_ _ | refine blk_drew ?_ | refine blk_alloc ?_ _)); exact BK982.out⟩, ⟨by repeat (first | (with_reducible first | exact HB.out | apply below_alloc | apply pw_below_drewN | apply below_drew1 | refine below_set ?_ GE982.out) | exact HB.out)⟩⟩
  case rest =>
    clear HC3
    try clear c1
    try clear p2
    try clear c6
    try clear c13
    try clear c17
    try clear hcz15_0
    try clear hcz15_1
    try clear hcz21_0
    try clear hcz21_1
    try clear hcz23_0
    try clear hcz23_1
    try clear hcz7_0
    try clear hcz7_1
    try clear hfz15_0
    try clear hfz15_1
    try clear hfz21_0
    try clear hfz21_1
    try clear hfz23_0
    try clear hfz23_1
    try clear hfz7_0
    try clear hfz7_1
    obtain ⟨kq, x28_2, rfl, HA, HJ2, HO_1, BK982, HB⟩ := hcut
    cases kq with
    | zero => exact absurd HA.out (by simp [pylonlaw16_TreeCycles.j0])
    | succ kj2 =>
      have H := HA.out
      clear HA
      simp only [pylonlaw16_TreeCycles.j0] at H
      by_cases c29 : x28_2 = true
      · as_aux_lemma =>
        subst c29
        have H1 : ((pylonlaw16_awake.f).bind fun t989 => (some t989)) = some r := by rw [if_pos rfl] at H; exact H
        clear H
        have H := H1
        clear H1
        replace H := Option.bind_eq_some_iff.mp H
        obtain ⟨t989, A300, H⟩ := H
        replace H : (some t989) = some r := H
        have A30 := Aside0.mk A300
        clear A300
        obtain rfl := Option.some.inj H
        go_wp2_with (first | (go_at_call 51; (with_reducible refine (pylonlaw16_awake.calls  t989 _ A30.out).mono ?_); rintro e w31 ⟨rfl, hb⟩; have n0_ := Aside0.mk (Kd.V_below (by (with_reducible repeat (first | apply Kd.V_alloc | apply Kd.V_drewN | apply Kd.V_drew)); exact HO_1.out) hb); have n1_ := Aside0.mk (blk_below (g := gb982) (o := .cells #[.int .i64 a0_0, .slice A0_1 l0_1.length c0_1] 24 (0, 0)) (by (with_reducible repeat (first | refine blk_drewN ?_ _ | refine blk_drew ?_ | refine blk_alloc ?_ _)); exact BK982.out) hb); have n2_ := Aside0.mk (below_step (by repeat (first | (with_reducible first | exact HB.out | apply below_alloc | apply pw_below_drewN | apply below_drew1 | refine below_set ?_ GE982.out) | exact HB.out)) hb); clear HO_1; clear BK982; clear HB; have HO_1 := n0_; have BK982 := n1_; have HB := n2_; clear n0_ n1_ n2_; (try clear hb); (try clear hb2); (try clear hk); (try clear hi)))
        repeat (go_quiet (first | (go_at_call 51; (with_reducible refine (pylonlaw16_awake.calls  t989 _ A30.out).mono ?_); rintro e w31 ⟨rfl, hb⟩; have n0_ := Aside0.mk (Kd.V_below (by (with_reducible repeat (first | apply Kd.V_alloc | apply Kd.V_drewN | apply Kd.V_drew)); exact HO_1.out) hb); have n1_ := Aside0.mk (blk_below (g := gb982) (o := .cells #[.int .i64 a0_0, .slice A0_1 l0_1.length c0_1] 24 (0, 0)) (by (with_reducible repeat (first | refine blk_drewN ?_ _ | refine blk_drew ?_ | refine blk_alloc ?_ _)); exact BK982.out) hb); have n2_ := Aside0.mk (below_step (by repeat (first | (with_reducible first | exact HB.out | apply below_alloc | apply pw_below_drewN | apply below_drew1 | refine below_set ?_ GE982.out) | exact HB.out)) hb); clear HO_1; clear BK982; clear HB; have HO_1 := n0_; have BK982 := n1_; have HB := n2_; clear n0_ n1_ n2_; (try clear hb); (try clear hb2); (try clear hk); (try clear hi))); try go_wp2_with (first | (go_at_call 51; (with_reducible refine (pylonlaw16_awake.calls  t989 _ A30.out).mono ?_); rintro e w31 ⟨rfl, hb⟩; have n0_ := Aside0.mk (Kd.V_below (by (with_reducible repeat (first | apply Kd.V_alloc | apply Kd.V_drewN | apply Kd.V_drew)); exact HO_1.out) hb); have n1_ := Aside0.mk (blk_below (g := gb982) (o := .cells #[.int .i64 a0_0, .slice A0_1 l0_1.length c0_1] 24 (0, 0)) (by (with_reducible repeat (first | refine blk_drewN ?_ _ | refine blk_drew ?_ | refine blk_alloc ?_ _)); exact BK982.out) hb); have n2_ := Aside0.mk (below_step (by repeat (first | (with_reducible first | exact HB.out | apply below_alloc | apply pw_below_drewN | apply below_drew1 | refine below_set ?_ GE982.out) | exact HB.out)) hb); clear HO_1; clear BK982; clear HB; have HO_1 := n0_; have BK982 := n1_; have HB := n2_; clear n0_ n1_ n2_; (try clear hb); (try clear hb2); (try clear hk); (try clear hi))))
        go_ret
        exact ⟨by first | rfl | (simp [errW_none, errW_some] <;> rfl) | (simp [*, errW_none, errW_some] <;> rfl), by repeat (first | (with_reducible first | exact HB.out | apply below_alloc | apply pw_below_drewN | apply below_drew1 | refine below_set ?_ GE982.out) | exact HB.out)⟩
      · as_aux_lemma =>
        replace c29 := Bool.eq_false_iff.mpr c29
        subst c29
        have H1 : ((tree_Cycles.f kj2 a0_0 l0_1 l1).bind fun bt990 => ((tree_Tree.f kj2 a0_0 l0_1 l1).bind fun bt994 => ((net_In.f a0_0 l0_1 l1).bind fun bt998 => (if bt990.2 = 0 then (if bt994.2 = 0 then (pylonlaw16_TreeCycles.j1 kj2 bt990.1 bt994.1 bt998.1 (bt998.2 != 0) a0_0 l0_1) else (pylonlaw16_TreeCycles.j1 kj2 bt990.1 bt994.1 bt998.1 true a0_0 l0_1)) else (pylonlaw16_TreeCycles.j1 kj2 bt990.1 bt994.1 bt998.1 true a0_0 l0_1))))) = some r := by rw [if_neg (show ¬ (false = true) by decide)] at H; exact H
        clear H
        have H := H1
        clear H1
        replace H := Option.bind_eq_some_iff.mp H
        obtain ⟨⟨t990, t993⟩, A320, H⟩ := H
        replace H : ((tree_Tree.f kj2 a0_0 l0_1 l1).bind fun bt994 => ((net_In.f a0_0 l0_1 l1).bind fun bt998 => (if t993 = 0 then (if bt994.2 = 0 then (pylonlaw16_TreeCycles.j1 kj2 t990 bt994.1 bt998.1 (bt998.2 != 0) a0_0 l0_1) else (pylonlaw16_TreeCycles.j1 kj2 t990 bt994.1 bt998.1 true a0_0 l0_1)) else (pylonlaw16_TreeCycles.j1 kj2 t990 bt994.1 bt998.1 true a0_0 l0_1)))) = some r := H
        have A32 := Aside0.mk A320
        clear A320
        replace H := Option.bind_eq_some_iff.mp H
        obtain ⟨⟨t994, t997⟩, A330, H⟩ := H
        replace H : ((net_In.f a0_0 l0_1 l1).bind fun bt998 => (if t993 = 0 then (if t997 = 0 then (pylonlaw16_TreeCycles.j1 kj2 t990 t994 bt998.1 (bt998.2 != 0) a0_0 l0_1) else (pylonlaw16_TreeCycles.j1 kj2 t990 t994 bt998.1 true a0_0 l0_1)) else (pylonlaw16_TreeCycles.j1 kj2 t990 t994 bt998.1 true a0_0 l0_1))) = some r := H
        have A33 := Aside0.mk A330
        clear A330
        replace H := Option.bind_eq_some_iff.mp H
        obtain ⟨⟨t998, t1001⟩, A340, H⟩ := H
        replace H : (if t993 = 0 then (if t997 = 0 then (pylonlaw16_TreeCycles.j1 kj2 t990 t994 t998 (t1001 != 0) a0_0 l0_1) else (pylonlaw16_TreeCycles.j1 kj2 t990 t994 t998 true a0_0 l0_1)) else (pylonlaw16_TreeCycles.j1 kj2 t990 t994 t998 true a0_0 l0_1)) = some r := H
        have A34 := Aside0.mk A340
        clear A340
        have HC35 := Aside0.mk H
        clear H
        have hcz36_0 : wc.cell? ⟨gb982, 0, none⟩ = some (.int .i64 a0_0) := (blk_cell BK982.out 0).trans rfl
        have hcz36_1 : wc.cell? ⟨gb982, 1, none⟩ = some (.slice A0_1 l0_1.length c0_1) := (blk_cell BK982.out 1).trans rfl
        have hfz36_0 := blk_frozen BK982.out 0
        have hfz36_1 := blk_frozen BK982.out 1
        go_upto_region 6 with (first | (go_at_call 57; (with_reducible refine (tree_Cycles.calls kj2 a0_0 _ _ l0_1 _ _ l1 t990 t993 _ ?side1 ?side2 ?side3 ?side4 A32.out).mono ?_); (case side1 => repeat (first | exact (Kd.C_below HR0_1.out HB.out) | (with_reducible refine Kd.C_alloc ?_ _) | (with_reducible refine Kd.C_drewN ?_ _) | (with_reducible refine Kd.C_drew ?_))); (case side2 => exact HC0_1.out); (case side3 => repeat (first | exact (Kd.V_reads' HO_1.out).2.2 | (with_reducible refine Kd.C_alloc ?_ _) | (with_reducible refine Kd.C_drewN ?_ _) | (with_reducible refine Kd.C_drew ?_))); (case side4 => exact (Kd.V_reads' HO_1.out).2.1); rintro e w37 ⟨v991, rfl, ho0, hb⟩; have n0_ := Aside0.mk (Kd.V_elder' (by (with_reducible repeat (first | apply Kd.V_alloc | apply Kd.V_drewN | apply Kd.V_drew)); exact HO_1.out) (Kd.N_base (Kd.S_N ho0)) hb); have n1_ := Aside0.mk (Kd.N_lower (Kd.N_mono (ok' := fun k_ => (P1_ k_ ∨ w.heap.size ≤ k_) ∧ k_ ≠ gb982) (Kd.S_N (Kd.S_bound ho0)) (fun k_ hk_ => ⟨(.inr (Nat.le_trans (below_size (by repeat (first | (with_reducible first | exact HB.out | apply below_alloc | apply pw_below_drewN | apply below_drew1 | refine below_set ?_ GE982.out) | exact HB.out))) hk_.2.1)), (Kd.freshB (g := gb982) (o := .cells #[.int .i64 a0_0, .slice A0_1 l0_1.length c0_1] 24 (0, 0)) (by (with_reducible repeat (first | refine blk_drewN ?_ _ | refine blk_drew ?_ | refine blk_alloc ?_ _)); exact BK982.out) k_ hk_.2.1)⟩)) (below_size (by repeat (first | (with_reducible first | exact HB.out | apply below_alloc | apply pw_below_drewN | apply below_drew1 | refine below_set ?_ GE982.out) | exact HB.out)))); have n2_ := Aside0.mk (blk_below (g := gb982) (o := .cells #[.int .i64 a0_0, .slice A0_1 l0_1.length c0_1] 24 (0, 0)) (by (with_reducible repeat (first | refine blk_drewN ?_ _ | refine blk_drew ?_ | refine blk_alloc ?_ _)); exact BK982.out) hb); have n3_ := Aside0.mk (below_step (by repeat (first | (with_reducible first | exact HB.out | apply below_alloc | apply pw_below_drewN | apply below_drew1 | refine below_set ?_ GE982.out) | exact HB.out)) hb); clear HO_1; clear BK982; clear HB; have HO_1 := n0_; have HO992 := n1_; have BK982 := n2_; have HB := n3_; clear n0_ n1_ n2_ n3_; (try clear hb); (try clear hb2); (try clear hk); (try clear hi); (try clear ho0); have hcz38_0 : w37.cell? ⟨gb982, 0, none⟩ = some (.int .i64 a0_0) := (blk_cell BK982.out 0).trans rfl; have hcz38_1 : w37.cell? ⟨gb982, 1, none⟩ = some (.slice A0_1 l0_1.length c0_1) := (blk_cell BK982.out 1).trans rfl; have hfz38_0 := blk_frozen BK982.out 0; have hfz38_1 := blk_frozen BK982.out 1) | (go_at_call 56; (with_reducible refine (tree_Tree.calls kj2 a0_0 _ _ l0_1 _ _ l1 t994 t997 _ ?side1 ?side2 ?side3 ?side4 A33.out).mono ?_); (case side1 => repeat (first | exact (Kd.C_below HR0_1.out HB.out) | (with_reducible refine Kd.C_alloc ?_ _) | (with_reducible refine Kd.C_drewN ?_ _) | (with_reducible refine Kd.C_drew ?_))); (case side2 => exact HC0_1.out); (case side3 => repeat (first | exact (Kd.V_reads' HO_1.out).2.2 | (with_reducible refine Kd.C_alloc ?_ _) | (with_reducible refine Kd.C_drewN ?_ _) | (with_reducible refine Kd.C_drew ?_))); (case side4 => exact (Kd.V_reads' HO_1.out).2.1); rintro e w39 ⟨v995, rfl, ho0, hb⟩; have n0_ := Aside0.mk (Kd.V_elder' (by (with_reducible repeat (first | apply Kd.V_alloc | apply Kd.V_drewN | apply Kd.V_drew)); exact HO_1.out) (Kd.R_base ho0) hb); have n1_ := Aside0.mk (Kd.N_elder' (by (with_reducible repeat (first | apply Kd.N_alloc | apply Kd.N_drewN | apply Kd.N_drew)); exact HO992.out) (Kd.R_base ho0) hb); have n2_ := Aside0.mk (Kd.R_lower (Kd.R_newM (M := fun k_ => (w.heap.size ≤ k_)) ho0 (below_size (by repeat (first | (with_reducible first | exact HB.out | apply below_alloc | apply pw_below_drewN | apply below_drew1 | refine below_set ?_ GE982.out) | exact HB.out))) (fun k_ h_ => h_)) (below_size (by repeat (first | (with_reducible first | exact HB.out | apply below_alloc | apply pw_below_drewN | apply below_drew1 | refine below_set ?_ GE982.out) | exact HB.out)))); have n3_ := Aside0.mk (blk_below (g := gb982) (o := .cells #[.int .i64 a0_0, .slice A0_1 l0_1.length c0_1] 24 (0, 0)) (by (with_reducible repeat (first | refine blk_drewN ?_ _ | refine blk_drew ?_ | refine blk_alloc ?_ _)); exact BK982.out) hb); have n4_ := Aside0.mk (below_step (by repeat (first | (with_reducible first | exact HB.out | apply below_alloc | apply pw_below_drewN | apply below_drew1 | refine below_set ?_ GE982.out) | exact HB.out)) hb); clear HO_1; clear HO992; clear BK982; clear HB; have HO_1 := n0_; have HO992 := n1_; have HO996 := n2_; have BK982 := n3_; have HB := n4_; clear n0_ n1_ n2_ n3_ n4_; (try clear hb); (try clear hb2); (try clear hk); (try clear hi); (try clear ho0); have hcz40_0 : w39.cell? ⟨gb982, 0, none⟩ = some (.int .i64 a0_0) := (blk_cell BK982.out 0).trans rfl; have hcz40_1 : w39.cell? ⟨gb982, 1, none⟩ = some (.slice A0_1 l0_1.length c0_1) := (blk_cell BK982.out 1).trans rfl; have hfz40_0 := blk_frozen BK982.out 0; have hfz40_1 := blk_frozen BK982.out 1) | (go_at_call 59; (with_reducible refine (net_In.calls a0_0 _ _ l0_1 _ _ l1 t998 t1001 _ ?side1 ?side2 ?side3 ?side4 A34.out).mono ?_); (case side1 => repeat (first | exact (Kd.C_below HR0_1.out HB.out) | (with_reducible refine Kd.C_alloc ?_ _) | (with_reducible refine Kd.C_drewN ?_ _) | (with_reducible refine Kd.C_drew ?_))); (case side2 => exact HC0_1.out); (case side3 => repeat (first | exact (Kd.V_reads' HO_1.out).2.2 | (with_reducible refine Kd.C_alloc ?_ _) | (with_reducible refine Kd.C_drewN ?_ _) | (with_reducible refine Kd.C_drew ?_))); (case side4 => exact (Kd.V_reads' HO_1.out).2.1); rintro e w41 ⟨v999, rfl, ho0, hb⟩; have n0_ := Aside0.mk (Kd.V_elder' (by (with_reducible repeat (first | apply Kd.V_alloc | apply Kd.V_drewN | apply Kd.V_drew)); exact HO_1.out) (Kd.R_base ho0) hb); have n1_ := Aside0.mk (Kd.N_elder' (by (with_reducible repeat (first | apply Kd.N_alloc | apply Kd.N_drewN | apply Kd.N_drew)); exact HO992.out) (Kd.R_base ho0) hb); have n2_ := Aside0.mk (Kd.R_elder' (by (with_reducible repeat (first | apply Kd.R_alloc | apply Kd.R_drewN | apply Kd.R_drew)); exact HO996.out) (Kd.R_base ho0) hb); have n3_ := Aside0.mk (Kd.R_lower (Kd.R_new' (Kd.R_newM (M := fun k_ => (w.heap.size ≤ k_)) ho0 (below_size (by repeat (first | (with_reducible first | exact HB.out | apply below_alloc | apply pw_below_drewN | apply below_drew1 | refine below_set ?_ GE982.out) | exact HB.out))) (fun k_ h_ => h_)) (Kd.R_lt (by (with_reducible repeat (first | apply Kd.R_alloc | apply Kd.R_drewN | apply Kd.R_drew)); exact HO996.out))) (below_size (by repeat (first | (with_reducible first | exact HB.out | apply below_alloc | apply pw_below_drewN | apply below_drew1 | refine below_set ?_ GE982.out) | exact HB.out)))); have n4_ := Aside0.mk (blk_below (g := gb982) (o := .cells #[.int .i64 a0_0, .slice A0_1 l0_1.length c0_1] 24 (0, 0)) (by (with_reducible repeat (first | refine blk_drewN ?_ _ | refine blk_drew ?_ | refine blk_alloc ?_ _)); exact BK982.out) hb); have n5_ := Aside0.mk (below_step (by repeat (first | (with_reducible first | exact HB.out | apply below_alloc | apply pw_below_drewN | apply below_drew1 | refine below_set ?_ GE982.out) | exact HB.out)) hb); clear HO_1; clear HO992; clear HO996; clear BK982; clear HB; have HO_1 := n0_; have HO992 := n1_; have HO996 := n2_; have HO1000 := n3_; have BK982 := n4_; have HB := n5_; clear n0_ n1_ n2_ n3_ n4_ n5_; (try clear hb); (try clear hb2); (try clear hk); (try clear hi); (try clear ho0)))
        repeat (go_quiet (first | (go_at_call 57; (with_reducible refine (tree_Cycles.calls kj2 a0_0 _ _ l0_1 _ _ l1 t990 t993 _ ?side1 ?side2 ?side3 ?side4 A32.out).mono ?_); (case side1 => repeat (first | exact (Kd.C_below HR0_1.out HB.out) | (with_reducible refine Kd.C_alloc ?_ _) | (with_reducible refine Kd.C_drewN ?_ _) | (with_reducible refine Kd.C_drew ?_))); (case side2 => exact HC0_1.out); (case side3 => repeat (first | exact (Kd.V_reads' HO_1.out).2.2 | (with_reducible refine Kd.C_alloc ?_ _) | (with_reducible refine Kd.C_drewN ?_ _) | (with_reducible refine Kd.C_drew ?_))); (case side4 => exact (Kd.V_reads' HO_1.out).2.1); rintro e w37 ⟨v991, rfl, ho0, hb⟩; have n0_ := Aside0.mk (Kd.V_elder' (by (with_reducible repeat (first | apply Kd.V_alloc | apply Kd.V_drewN | apply Kd.V_drew)); exact HO_1.out) (Kd.N_base (Kd.S_N ho0)) hb); have n1_ := Aside0.mk (Kd.N_lower (Kd.N_mono (ok' := fun k_ => (P1_ k_ ∨ w.heap.size ≤ k_) ∧ k_ ≠ gb982) (Kd.S_N (Kd.S_bound ho0)) (fun k_ hk_ => ⟨(.inr (Nat.le_trans (below_size (by repeat (first | (with_reducible first | exact HB.out | apply below_alloc | apply pw_below_drewN | apply below_drew1 | refine below_set ?_ GE982.out) | exact HB.out))) hk_.2.1)), (Kd.freshB (g := gb982) (o := .cells #[.int .i64 a0_0, .slice A0_1 l0_1.length c0_1] 24 (0, 0)) (by (with_reducible repeat (first | refine blk_drewN ?_ _ | refine blk_drew ?_ | refine blk_alloc ?_ _)); exact BK982.out) k_ hk_.2.1)⟩)) (below_size (by repeat (first | (with_reducible first | exact HB.out | apply below_alloc | apply pw_below_drewN | apply below_drew1 | refine below_set ?_ GE982.out) | exact HB.out)))); have n2_ := Aside0.mk (blk_below (g := gb982) (o := .cells #[.int .i64 a0_0, .slice A0_1 l0_1.length c0_1] 24 (0, 0)) (by (with_reducible repeat (first | refine blk_drewN ?_ _ | refine blk_drew ?_ | refine blk_alloc ?_ _)); exact BK982.out) hb); have n3_ := Aside0.mk (below_step (by repeat (first | (with_reducible first | exact HB.out | apply below_alloc | apply pw_below_drewN | apply below_drew1 | refine below_set ?_ GE982.out) | exact HB.out)) hb); clear HO_1; clear BK982; clear HB; have HO_1 := n0_; have HO992 := n1_; have BK982 := n2_; have HB := n3_; clear n0_ n1_ n2_ n3_; (try clear hb); (try clear hb2); (try clear hk); (try clear hi); (try clear ho0); have hcz38_0 : w37.cell? ⟨gb982, 0, none⟩ = some (.int .i64 a0_0) := (blk_cell BK982.out 0).trans rfl; have hcz38_1 : w37.cell? ⟨gb982, 1, none⟩ = some (.slice A0_1 l0_1.length c0_1) := (blk_cell BK982.out 1).trans rfl; have hfz38_0 := blk_frozen BK982.out 0; have hfz38_1 := blk_frozen BK982.out 1) | (go_at_call 56; (with_reducible refine (tree_Tree.calls kj2 a0_0 _ _ l0_1 _ _ l1 t994 t997 _ ?side1 ?side2 ?side3 ?side4 A33.out).mono ?_); (case side1 => repeat (first | exact (Kd.C_below HR0_1.out HB.out) | (with_reducible refine Kd.C_alloc ?_ _) | (with_reducible refine Kd.C_drewN ?_ _) | (with_reducible refine Kd.C_drew ?_))); (case side2 => exact HC0_1.out); (case side3 => repeat (first | exact (Kd.V_reads' HO_1.out).2.2 | (with_reducible refine Kd.C_alloc ?_ _) | (with_reducible refine Kd.C_drewN ?_ _) | (with_reducible refine Kd.C_drew ?_))); (case side4 => exact (Kd.V_reads' HO_1.out).2.1); rintro e w39 ⟨v995, rfl, ho0, hb⟩; have n0_ := Aside0.mk (Kd.V_elder' (by (with_reducible repeat (first | apply Kd.V_alloc | apply Kd.V_drewN | apply Kd.V_drew)); exact HO_1.out) (Kd.R_base ho0) hb); have n1_ := Aside0.mk (Kd.N_elder' (by (with_reducible repeat (first | apply Kd.N_alloc | apply Kd.N_drewN | apply Kd.N_drew)); exact HO992.out) (Kd.R_base ho0) hb); have n2_ := Aside0.mk (Kd.R_lower (Kd.R_newM (M := fun k_ => (w.heap.size ≤ k_)) ho0 (below_size (by repeat (first | (with_reducible first | exact HB.out | apply below_alloc | apply pw_below_drewN | apply below_drew1 | refine below_set ?_ GE982.out) | exact HB.out))) (fun k_ h_ => h_)) (below_size (by repeat (first | (with_reducible first | exact HB.out | apply below_alloc | apply pw_below_drewN | apply below_drew1 | refine below_set ?_ GE982.out) | exact HB.out)))); have n3_ := Aside0.mk (blk_below (g := gb982) (o := .cells #[.int .i64 a0_0, .slice A0_1 l0_1.length c0_1] 24 (0, 0)) (by (with_reducible repeat (first | refine blk_drewN ?_ _ | refine blk_drew ?_ | refine blk_alloc ?_ _)); exact BK982.out) hb); have n4_ := Aside0.mk (below_step (by repeat (first | (with_reducible first | exact HB.out | apply below_alloc | apply pw_below_drewN | apply below_drew1 | refine below_set ?_ GE982.out) | exact HB.out)) hb); clear HO_1; clear HO992; clear BK982; clear HB; have HO_1 := n0_; have HO992 := n1_; have HO996 := n2_; have BK982 := n3_; have HB := n4_; clear n0_ n1_ n2_ n3_ n4_; (try clear hb); (try clear hb2); (try clear hk); (try clear hi); (try clear ho0); have hcz40_0 : w39.cell? ⟨gb982, 0, none⟩ = some (.int .i64 a0_0) := (blk_cell BK982.out 0).trans rfl; have hcz40_1 : w39.cell? ⟨gb982, 1, none⟩ = some (.slice A0_1 l0_1.length c0_1) := (blk_cell BK982.out 1).trans rfl; have hfz40_0 := blk_frozen BK982.out 0; have hfz40_1 := blk_frozen BK982.out 1) | (go_at_call 59; (with_reducible refine (net_In.calls a0_0 _ _ l0_1 _ _ l1 t998 t1001 _ ?side1 ?side2 ?side3 ?side4 A34.out).mono ?_); (case side1 => repeat (first | exact (Kd.C_below HR0_1.out HB.out) | (with_reducible refine Kd.C_alloc ?_ _) | (with_reducible refine Kd.C_drewN ?_ _) | (with_reducible refine Kd.C_drew ?_))); (case side2 => exact HC0_1.out); (case side3 => repeat (first | exact (Kd.V_reads' HO_1.out).2.2 | (with_reducible refine Kd.C_alloc ?_ _) | (with_reducible refine Kd.C_drewN ?_ _) | (with_reducible refine Kd.C_drew ?_))); (case side4 => exact (Kd.V_reads' HO_1.out).2.1); rintro e w41 ⟨v999, rfl, ho0, hb⟩; have n0_ := Aside0.mk (Kd.V_elder' (by (with_reducible repeat (first | apply Kd.V_alloc | apply Kd.V_drewN | apply Kd.V_drew)); exact HO_1.out) (Kd.R_base ho0) hb); have n1_ := Aside0.mk (Kd.N_elder' (by (with_reducible repeat (first | apply Kd.N_alloc | apply Kd.N_drewN | apply Kd.N_drew)); exact HO992.out) (Kd.R_base ho0) hb); have n2_ := Aside0.mk (Kd.R_elder' (by (with_reducible repeat (first | apply Kd.R_alloc | apply Kd.R_drewN | apply Kd.R_drew)); exact HO996.out) (Kd.R_base ho0) hb); have n3_ := Aside0.mk (Kd.R_lower (Kd.R_new' (Kd.R_newM (M := fun k_ => (w.heap.size ≤ k_)) ho0 (below_size (by repeat (first | (with_reducible first | exact HB.out | apply below_alloc | apply pw_below_drewN | apply below_drew1 | refine below_set ?_ GE982.out) | exact HB.out))) (fun k_ h_ => h_)) (Kd.R_lt (by (with_reducible repeat (first | apply Kd.R_alloc | apply Kd.R_drewN | apply Kd.R_drew)); exact HO996.out))) (below_size (by repeat (first | (with_reducible first | exact HB.out | apply below_alloc | apply pw_below_drewN | apply below_drew1 | refine below_set ?_ GE982.out) | exact HB.out)))); have n4_ := Aside0.mk (blk_below (g := gb982) (o := .cells #[.int .i64 a0_0, .slice A0_1 l0_1.length c0_1] 24 (0, 0)) (by (with_reducible repeat (first | refine blk_drewN ?_ _ | refine blk_drew ?_ | refine blk_alloc ?_ _)); exact BK982.out) hb); have n5_ := Aside0.mk (below_step (by repeat (first | (with_reducible first | exact HB.out | apply below_alloc | apply pw_below_drewN | apply below_drew1 | refine below_set ?_ GE982.out) | exact HB.out)) hb); clear HO_1; clear HO992; clear HO996; clear BK982; clear HB; have HO_1 := n0_; have HO992 := n1_; have HO996 := n2_; have HO1000 := n3_; have BK982 := n4_; have HB := n5_; clear n0_ n1_ n2_ n3_ n4_ n5_; (try clear hb); (try clear hb2); (try clear hk); (try clear hi); (try clear ho0))); go_upto_region 6 with (first | (go_at_call 57; (with_reducible refine (tree_Cycles.calls kj2 a0_0 _ _ l0_1 _ _ l1 t990 t993 _ ?side1 ?side2 ?side3 ?side4 A32.out).mono ?_); (case side1 => repeat (first | exact (Kd.C_below HR0_1.out HB.out) | (with_reducible refine Kd.C_alloc ?_ _) | (with_reducible refine Kd.C_drewN ?_ _) | (with_reducible refine Kd.C_drew ?_))); (case side2 => exact HC0_1.out); (case side3 => repeat (first | exact (Kd.V_reads' HO_1.out).2.2 | (with_reducible refine Kd.C_alloc ?_ _) | (with_reducible refine Kd.C_drewN ?_ _) | (with_reducible refine Kd.C_drew ?_))); (case side4 => exact (Kd.V_reads' HO_1.out).2.1); rintro e w37 ⟨v991, rfl, ho0, hb⟩; have n0_ := Aside0.mk (Kd.V_elder' (by (with_reducible repeat (first | apply Kd.V_alloc | apply Kd.V_drewN | apply Kd.V_drew)); exact HO_1.out) (Kd.N_base (Kd.S_N ho0)) hb); have n1_ := Aside0.mk (Kd.N_lower (Kd.N_mono (ok' := fun k_ => (P1_ k_ ∨ w.heap.size ≤ k_) ∧ k_ ≠ gb982) (Kd.S_N (Kd.S_bound ho0)) (fun k_ hk_ => ⟨(.inr (Nat.le_trans (below_size (by repeat (first | (with_reducible first | exact HB.out | apply below_alloc | apply pw_below_drewN | apply below_drew1 | refine below_set ?_ GE982.out) | exact HB.out))) hk_.2.1)), (Kd.freshB (g := gb982) (o := .cells #[.int .i64 a0_0, .slice A0_1 l0_1.length c0_1] 24 (0, 0)) (by (with_reducible repeat (first | refine blk_drewN ?_ _ | refine blk_drew ?_ | refine blk_alloc ?_ _)); exact BK982.out) k_ hk_.2.1)⟩)) (below_size (by repeat (first | (with_reducible first | exact HB.out | apply below_alloc | apply pw_below_drewN | apply below_drew1 | refine below_set ?_ GE982.out) | exact HB.out)))); have n2_ := Aside0.mk (blk_below (g := gb982) (o := .cells #[.int .i64 a0_0, .slice A0_1 l0_1.length c0_1] 24 (0, 0)) (by (with_reducible repeat (first | refine blk_drewN ?_ _ | refine blk_drew ?_ | refine blk_alloc ?_ _)); exact BK982.out) hb); have n3_ := Aside0.mk (below_step (by repeat (first | (with_reducible first | exact HB.out | apply below_alloc | apply pw_below_drewN | apply below_drew1 | refine below_set ?_ GE982.out) | exact HB.out)) hb); clear HO_1; clear BK982; clear HB; have HO_1 := n0_; have HO992 := n1_; have BK982 := n2_; have HB := n3_; clear n0_ n1_ n2_ n3_; (try clear hb); (try clear hb2); (try clear hk); (try clear hi); (try clear ho0); have hcz38_0 : w37.cell? ⟨gb982, 0, none⟩ = some (.int .i64 a0_0) := (blk_cell BK982.out 0).trans rfl; have hcz38_1 : w37.cell? ⟨gb982, 1, none⟩ = some (.slice A0_1 l0_1.length c0_1) := (blk_cell BK982.out 1).trans rfl; have hfz38_0 := blk_frozen BK982.out 0; have hfz38_1 := blk_frozen BK982.out 1) | (go_at_call 56; (with_reducible refine (tree_Tree.calls kj2 a0_0 _ _ l0_1 _ _ l1 t994 t997 _ ?side1 ?side2 ?side3 ?side4 A33.out).mono ?_); (case side1 => repeat (first | exact (Kd.C_below HR0_1.out HB.out) | (with_reducible refine Kd.C_alloc ?_ _) | (with_reducible refine Kd.C_drewN ?_ _) | (with_reducible refine Kd.C_drew ?_))); (case side2 => exact HC0_1.out); (case side3 => repeat (first | exact (Kd.V_reads' HO_1.out).2.2 | (with_reducible refine Kd.C_alloc ?_ _) | (with_reducible refine Kd.C_drewN ?_ _) | (with_reducible refine Kd.C_drew ?_))); (case side4 => exact (Kd.V_reads' HO_1.out).2.1); rintro e w39 ⟨v995, rfl, ho0, hb⟩; have n0_ := Aside0.mk (Kd.V_elder' (by (with_reducible repeat (first | apply Kd.V_alloc | apply Kd.V_drewN | apply Kd.V_drew)); exact HO_1.out) (Kd.R_base ho0) hb); have n1_ := Aside0.mk (Kd.N_elder' (by (with_reducible repeat (first | apply Kd.N_alloc | apply Kd.N_drewN | apply Kd.N_drew)); exact HO992.out) (Kd.R_base ho0) hb); have n2_ := Aside0.mk (Kd.R_lower (Kd.R_newM (M := fun k_ => (w.heap.size ≤ k_)) ho0 (below_size (by repeat (first | (with_reducible first | exact HB.out | apply below_alloc | apply pw_below_drewN | apply below_drew1 | refine below_set ?_ GE982.out) | exact HB.out))) (fun k_ h_ => h_)) (below_size (by repeat (first | (with_reducible first | exact HB.out | apply below_alloc | apply pw_below_drewN | apply below_drew1 | refine below_set ?_ GE982.out) | exact HB.out)))); have n3_ := Aside0.mk (blk_below (g := gb982) (o := .cells #[.int .i64 a0_0, .slice A0_1 l0_1.length c0_1] 24 (0, 0)) (by (with_reducible repeat (first | refine blk_drewN ?_ _ | refine blk_drew ?_ | refine blk_alloc ?_ _)); exact BK982.out) hb); have n4_ := Aside0.mk (below_step (by repeat (first | (with_reducible first | exact HB.out | apply below_alloc | apply pw_below_drewN | apply below_drew1 | refine below_set ?_ GE982.out) | exact HB.out)) hb); clear HO_1; clear HO992; clear BK982; clear HB; have HO_1 := n0_; have HO992 := n1_; have HO996 := n2_; have BK982 := n3_; have HB := n4_; clear n0_ n1_ n2_ n3_ n4_; (try clear hb); (try clear hb2); (try clear hk); (try clear hi); (try clear ho0); have hcz40_0 : w39.cell? ⟨gb982, 0, none⟩ = some (.int .i64 a0_0) := (blk_cell BK982.out 0).trans rfl; have hcz40_1 : w39.cell? ⟨gb982, 1, none⟩ = some (.slice A0_1 l0_1.length c0_1) := (blk_cell BK982.out 1).trans rfl; have hfz40_0 := blk_frozen BK982.out 0; have hfz40_1 := blk_frozen BK982.out 1) | (go_at_call 59; (with_reducible refine (net_In.calls a0_0 _ _ l0_1 _ _ l1 t998 t1001 _ ?side1 ?side2 ?side3 ?side4 A34.out).mono ?_); (case side1 => repeat (first | exact (Kd.C_below HR0_1.out HB.out) | (with_reducible refine Kd.C_alloc ?_ _) | (with_reducible refine Kd.C_drewN ?_ _) | (with_reducible refine Kd.C_drew ?_))); (case side2 => exact HC0_1.out); (case side3 => repeat (first | exact (Kd.V_reads' HO_1.out).2.2 | (with_reducible refine Kd.C_alloc ?_ _) | (with_reducible refine Kd.C_drewN ?_ _) | (with_reducible refine Kd.C_drew ?_))); (case side4 => exact (Kd.V_reads' HO_1.out).2.1); rintro e w41 ⟨v999, rfl, ho0, hb⟩; have n0_ := Aside0.mk (Kd.V_elder' (by (with_reducible repeat (first | apply Kd.V_alloc | apply Kd.V_drewN | apply Kd.V_drew)); exact HO_1.out) (Kd.R_base ho0) hb); have n1_ := Aside0.mk (Kd.N_elder' (by (with_reducible repeat (first | apply Kd.N_alloc | apply Kd.N_drewN | apply Kd.N_drew)); exact HO992.out) (Kd.R_base ho0) hb); have n2_ := Aside0.mk (Kd.R_elder' (by (with_reducible repeat (first | apply Kd.R_alloc | apply Kd.R_drewN | apply Kd.R_drew)); exact HO996.out) (Kd.R_base ho0) hb); have n3_ := Aside0.mk (Kd.R_lower (Kd.R_new' (Kd.R_newM (M := fun k_ => (w.heap.size ≤ k_)) ho0 (below_size (by repeat (first | (with_reducible first | exact HB.out | apply below_alloc | apply pw_below_drewN | apply below_drew1 | refine below_set ?_ GE982.out) | exact HB.out))) (fun k_ h_ => h_)) (Kd.R_lt (by (with_reducible repeat (first | apply Kd.R_alloc | apply Kd.R_drewN | apply Kd.R_drew)); exact HO996.out))) (below_size (by repeat (first | (with_reducible first | exact HB.out | apply below_alloc | apply pw_below_drewN | apply below_drew1 | refine below_set ?_ GE982.out) | exact HB.out)))); have n4_ := Aside0.mk (blk_below (g := gb982) (o := .cells #[.int .i64 a0_0, .slice A0_1 l0_1.length c0_1] 24 (0, 0)) (by (with_reducible repeat (first | refine blk_drewN ?_ _ | refine blk_drew ?_ | refine blk_alloc ?_ _)); exact BK982.out) hb); have n5_ := Aside0.mk (below_step (by repeat (first | (with_reducible first | exact HB.out | apply below_alloc | apply pw_below_drewN | apply below_drew1 | refine below_set ?_ GE982.out) | exact HB.out)) hb); clear HO_1; clear HO992; clear HO996; clear BK982; clear HB; have HO_1 := n0_; have HO992 := n1_; have HO996 := n2_; have HO1000 := n3_; have BK982 := n4_; have HB := n5_; clear n0_ n1_ n2_ n3_ n4_ n5_; (try clear hb); (try clear hb2); (try clear hk); (try clear hi); (try clear ho0))))
        (try simp only [Act.put, List.setIfInBounds_toArray, List.set_cons_zero, List.set_cons_succ])
        go_cut [57] (fun v57 wc => ∃ (kq : Nat) (x57_34 : Bool), v57 = .bool x57_34 ∧ Aside0 (pylonlaw16_TreeCycles.j1 kq t990 t994 t998 x57_34 a0_0 l0_1 = some r) ∧ Aside0 (kq ≤ kj2) ∧ Aside0 (Kd.N (Kd.slice 3 (Kd.int .i64)) 25 wc w.heap.size (fun k_ => (P1_ k_ ∨ w.heap.size ≤ k_) ∧ some k_ ≠ (v995 : Value).ownBlock ∧ some k_ ≠ (v999 : Value).ownBlock ∧ k_ ≠ gb982) v991 t990) ∧ Aside0 (Kd.R (Kd.int .i64) 3 wc w.heap.size (fun k_ => (w.heap.size ≤ k_) ∧ some k_ ≠ (v999 : Value).ownBlock) v995 t994) ∧ Aside0 (Kd.R (Kd.int .i64) 3 wc w.heap.size (fun k_ => (w.heap.size ≤ k_) ∧ some k_ ≠ (v995 : Value).ownBlock) v999 t998) ∧ Aside0 (wc.heap[gb982]? = some (.cells #[.int .i64 a0_0, (.slice A0_1 l0_1.length c0_1)] 24 (0, 0))) ∧ Aside0 (Below w.heap.size w wc))
        case first =>
          have H := HC35.out
          clear HC35
          by_cases c42 : t993 = 0
          · rw [if_pos c42] at H
            have c42b0 : (t993 == 0) = true := beq_iff_eq.mpr c42
            have c42b1 : (t993 != 0) = false := bne_eq_false_iff_eq.mpr c42
            clear c42
            (first | rw [c42b0] | (simp only [i64_w, i32_w]; rw [c42b0]) | skip)
            by_cases c43 : t997 = 0
            · rw [if_pos c43] at H
              have c43b0 : (t997 == 0) = true := beq_iff_eq.mpr c43
              have c43b1 : (t997 != 0) = false := bne_eq_false_iff_eq.mpr c43
              clear c43
              have H' := Aside0.mk H
              clear H
              go_wp2
              repeat (go_quiet (fail); try go_wp2)
              go_meet
              case rel => exact ⟨_, ((t1001 != 0)), (by first | rfl | (simp; done) | (simp [*]; done)), H', ⟨by have := HJ2.out; first | omega | exact Nat.le_refl _⟩, ⟨by (with_reducible repeat (first | apply Kd.N_alloc | apply Kd.N_drewN | apply Kd.N_drew)); exact Kd.N_mono HO992.out (fun _ hk => ⟨hk.1.1.1, ⟨hk.1.2, ⟨hk.2, hk.1.1.2⟩⟩⟩)⟩, ⟨by (with_reducible repeat (first | apply Kd.R_alloc | apply Kd.R_drewN | apply Kd.R_drew)); exact Kd.R_mono HO996.out (fun _ hk => ⟨hk.1.1, hk.2⟩)⟩, ⟨by (with_reducible repeat (first | apply Kd.R_alloc | apply Kd.R_drewN | apply Kd.R_drew)); exact Kd.R_mono HO1000.out (fun _ hk => ⟨hk.1.1, hk.2⟩)⟩, ⟨by (with_reducible repeat (first | refine blk_drewN ?_ _ | refine blk_drew ?_ | refine blk_alloc ?_ _)); exact BK982.out⟩, ⟨by repeat (first | (with_reducible first | exact HB.out | apply below_alloc | apply pw_below_drewN | apply below_drew1 | refine below_set ?_ GE982.out) | exact HB.out)⟩⟩
            · rw [if_neg c43] at H
              have c43b0 : (t997 == 0) = false := beq_eq_false_iff_ne.mpr c43
              have c43b1 : (t997 != 0) = true := bne_iff_ne.mpr c43
              have H' := Aside0.mk H
              clear H
              go_wp2
              repeat (go_quiet (fail); try go_wp2)
              go_meet
              case rel => exact ⟨_, (true), (by first | rfl | (simp; done) | (simp [*]; done)), H', ⟨by have := HJ2.out; first | omega | exact Nat.le_refl _⟩, ⟨by (with_reducible repeat (first | apply Kd.N_alloc | apply Kd.N_drewN | apply Kd.N_drew)); exact Kd.N_mono HO992.out (fun _ hk => ⟨hk.1.1.1, ⟨hk.1.2, ⟨hk.2, hk.1.1.2⟩⟩⟩)⟩, ⟨by (with_reducible repeat (first | apply Kd.R_alloc | apply Kd.R_drewN | apply Kd.R_drew)); exact Kd.R_mono HO996.out (fun _ hk => ⟨hk.1.1, hk.2⟩)⟩, ⟨by (with_reducible repeat (first | apply Kd.R_alloc | apply Kd.R_drewN | apply Kd.R_drew)); exact Kd.R_mono HO1000.out (fun _ hk => ⟨hk.1.1, hk.2⟩)⟩, ⟨by (with_reducible repeat (first | refine blk_drewN ?_ _ | refine blk_drew ?_ | refine blk_alloc ?_ _)); exact BK982.out⟩, ⟨by repeat (first | (with_reducible first | exact HB.out | apply below_alloc | apply pw_below_drewN | apply below_drew1 | refine below_set ?_ GE982.out) | exact HB.out)⟩⟩
          · rw [if_neg c42] at H
            have c42b0 : (t993 == 0) = false := beq_eq_false_iff_ne.mpr c42
            have c42b1 : (t993 != 0) = true := bne_iff_ne.mpr c42
            (first | rw [c42b0] | (simp only [i64_w, i32_w]; rw [c42b0]) | skip)
            have H' := Aside0.mk H
            clear H
            go_wp2
            repeat (go_quiet (fail); try go_wp2)
            go_meet
            case rel => exact ⟨_, (true), (by first | rfl | (simp; done) | (simp [*]; done)), H', ⟨by have := HJ2.out; first | omega | exact Nat.le_refl _⟩, ⟨by (with_reducible repeat (first | apply Kd.N_alloc | apply Kd.N_drewN | apply Kd.N_drew)); exact Kd.N_mono HO992.out (fun _ hk => ⟨hk.1.1.1, ⟨hk.1.2, ⟨hk.2, hk.1.1.2⟩⟩⟩)⟩, ⟨by (with_reducible repeat (first | apply Kd.R_alloc | apply Kd.R_drewN | apply Kd.R_drew)); exact Kd.R_mono HO996.out (fun _ hk => ⟨hk.1.1, hk.2⟩)⟩, ⟨by (with_reducible repeat (first | apply Kd.R_alloc | apply Kd.R_drewN | apply Kd.R_drew)); exact Kd.R_mono HO1000.out (fun _ hk => ⟨hk.1.1, hk.2⟩)⟩, ⟨by (with_reducible repeat (first | refine blk_drewN ?_ _ | refine blk_drew ?_ | refine blk_alloc ?_ _)); exact BK982.out⟩, ⟨by repeat (first | (with_reducible first | exact HB.out | apply below_alloc | apply pw_below_drewN | apply below_drew1 | refine below_set ?_ GE982.out) | exact HB.out)⟩⟩
        case rest =>
          clear HC35
          try clear c1
          try clear c2
          try clear p2
          try clear c4
          try clear c6
          try clear c13
          try clear c17
          try clear c29
          try clear c42
          try clear c42b0
          try clear c42b1
          try clear c43
          try clear c43b0
          try clear c43b1
          try clear hcz15_0
          try clear hcz15_1
          try clear hcz21_0
          try clear hcz21_1
          try clear hcz23_0
          try clear hcz23_1
          try clear hcz36_0
          try clear hcz36_1
          try clear hcz38_0
          try clear hcz38_1
          try clear hcz40_0
          try clear hcz40_1
          try clear hcz7_0
          try clear hcz7_1
          try clear hfz15_0
          try clear hfz15_1
          try clear hfz21_0
          try clear hfz21_1
          try clear hfz23_0
          try clear hfz23_1
          try clear hfz36_0
          try clear hfz36_1
          try clear hfz38_0
          try clear hfz38_1
          try clear hfz40_0
          try clear hfz40_1
          try clear hfz7_0
          try clear hfz7_1
          try clear p2
          obtain ⟨kq, x57_34, rfl, HA, HJ34, HO_5, HO_7, HO_9, BK982, HB⟩ := hcut
          cases kq with
          | zero => exact absurd HA.out (by simp [pylonlaw16_TreeCycles.j1])
          | succ kj34 =>
            have H := HA.out
            clear HA
            simp only [pylonlaw16_TreeCycles.j1] at H
            by_cases c44 : x57_34 = true
            · as_aux_lemma =>
              subst c44
              have H1 : (some false) = some r := by rw [if_pos rfl] at H; exact H
              clear H
              have H := H1
              clear H1
              obtain rfl := Option.some.inj H
              go_wp2
              repeat (go_quiet (fail); try go_wp2)
              go_ret
              exact ⟨by first | rfl | (simp [errW_none, errW_some] <;> rfl) | (simp [*, errW_none, errW_some] <;> rfl), by repeat (first | (with_reducible first | exact HB.out | apply below_alloc | apply pw_below_drewN | apply below_drew1 | refine below_set ?_ GE982.out) | exact HB.out)⟩
            · as_aux_lemma =>
              replace c44 := Bool.eq_false_iff.mpr c44
              subst c44
              have H1 : (pylonlaw16_TreeCycles.l0 kj34 t990 t994 t998 ([] : List Int) 0 a0_0 l0_1) = some r := by rw [if_neg (show ¬ (false = true) by decide)] at H; exact H
              clear H
              have H := H1
              clear H1
              have H' := Aside0.mk H
              clear H
              go_wp2
              repeat (go_quiet (fail); try go_wp2)
              go_loopg [11, 12] kj34 (fun kq v11 v12 w' => ∃ (x11_3 : List Int) (x12_3 : Int), v12 = .int .i64 x12_3 ∧ Aside0 (pylonlaw16_TreeCycles.l0 kq t990 t994 t998 x11_3 x12_3 a0_0 l0_1 = some r) ∧ Aside0 (kq ≤ kj34) ∧ Aside0 (Kd.N (Kd.slice 3 (Kd.int .i64)) 25 w' w.heap.size (fun k_ => (P1_ k_ ∨ w.heap.size ≤ k_) ∧ some k_ ≠ (v995 : Value).ownBlock ∧ some k_ ≠ (v999 : Value).ownBlock ∧ some k_ ≠ (v11 : Value).ownBlock ∧ k_ ≠ gb982) v991 t990) ∧ Aside0 (Kd.R (Kd.int .i64) 3 w' w.heap.size (fun k_ => (w.heap.size ≤ k_) ∧ some k_ ≠ (v999 : Value).ownBlock ∧ some k_ ≠ (v11 : Value).ownBlock) v995 t994) ∧ Aside0 (Kd.R (Kd.int .i64) 3 w' w.heap.size (fun k_ => (w.heap.size ≤ k_) ∧ some k_ ≠ (v995 : Value).ownBlock ∧ some k_ ≠ (v11 : Value).ownBlock) v999 t998) ∧ Aside0 (Kd.R (Kd.int .i64) 3 w' w.heap.size (fun k_ => (w.heap.size ≤ k_) ∧ some k_ ≠ (v995 : Value).ownBlock ∧ some k_ ≠ (v999 : Value).ownBlock) v11 x11_3) ∧ Aside0 (w'.heap[gb982]? = some (.cells #[.int .i64 a0_0, (.slice A0_1 l0_1.length c0_1)] 24 (0, 0))) ∧ Aside0 (Below w.heap.size w w'))
              case atStart => exact ⟨(([] : List Int)), (0), (by first | rfl | (simp; done) | (simp [*]; done)), H', ⟨Nat.le_refl _⟩, ⟨by (with_reducible repeat (first | apply Kd.N_alloc | apply Kd.N_drewN | apply Kd.N_drew)); exact Kd.N_mono HO_5.out (fun _ hk => ⟨hk.1, ⟨hk.2.1, ⟨hk.2.2.1, ⟨(by simp [Value.ownBlock]), hk.2.2.2⟩⟩⟩⟩)⟩, ⟨by (with_reducible repeat (first | apply Kd.R_alloc | apply Kd.R_drewN | apply Kd.R_drew)); exact Kd.R_mono HO_7.out (fun _ hk => ⟨hk.1, ⟨hk.2, (by simp [Value.ownBlock])⟩⟩)⟩, ⟨by (with_reducible repeat (first | apply Kd.R_alloc | apply Kd.R_drewN | apply Kd.R_drew)); exact Kd.R_mono HO_9.out (fun _ hk => ⟨hk.1, ⟨hk.2, (by simp [Value.ownBlock])⟩⟩)⟩, ⟨by first | exact Kd.R_nil _ _ _ _ _ | exact Kd.N_nil _ _ _ _ _ | exact Kd.V_nil _ _ _ _ _ | exact Kd.Q_nil _ _ _ _ _ | exact Kd.S_nil _ _ _ _ _⟩, ⟨by (with_reducible repeat (first | refine blk_drewN ?_ _ | refine blk_drew ?_ | refine blk_alloc ?_ _)); exact BK982.out⟩, ⟨by repeat (first | (with_reducible first | exact HB.out | apply below_alloc | apply pw_below_drewN | apply below_drew1 | refine below_set ?_ GE982.out) | exact HB.out)⟩⟩
              case round => as_aux_lemma =>
                clear H'
                try clear c1
                try clear c2
                try clear p2
                try clear c4
                try clear c6
                try clear c13
                try clear c17
                try clear c29
                try clear c42
                try clear c42b0
                try clear c42b1
                try clear c43
                try clear c43b0
                try clear c43b1
                try clear c44
                try clear hcz15_0
                try clear hcz15_1
                try clear hcz21_0
                try clear hcz21_1
                try clear hcz23_0
                try clear hcz23_1
                try clear hcz36_0
                try clear hcz36_1
                try clear hcz38_0
                try clear hcz38_1
                try clear hcz40_0
                try clear hcz40_1
                try clear hcz7_0
                try clear hcz7_1
                try clear hfz15_0
                try clear hfz15_1
                try clear hfz21_0
                try clear hfz21_1
                try clear hfz23_0
                try clear hfz23_1
                try clear hfz36_0
                try clear hfz36_1
                try clear hfz38_0
                try clear hfz38_1
                try clear hfz40_0
                try clear hfz40_1
                try clear hfz7_0
                try clear hfz7_1
                try clear p2
                obtain ⟨x11_3, x12_3, rfl, HA, HK3, HO_5, HO_7, HO_9, HO_11, BK982, HB⟩ := hrel
                cases gk with
                | zero => exact absurd HA.out (by simp [pylonlaw16_TreeCycles.l0])
                | succ k3 =>
                  have H := HA.out
                  clear HA
                  simp only [pylonlaw16_TreeCycles.l0] at H
                  by_cases c45 : x12_3 < (t998.length : Int)
                  · rw [if_pos c45] at H
                    have c45b0 : decide (x12_3 < (t998.length : Int)) = true := decide_eq_true c45
                    clear c45
                    by_cases c46 : 0 ≤ x12_3
                    · rw [if_pos c46] at H
                      have c46b0 : decide (0 ≤ x12_3) = true := decide_eq_true c46
                      clear c46
                      replace H := Option.bind_eq_some_iff.mp H
                      obtain ⟨t1003, A470, H⟩ := H
                      replace H : (if t1003 = true then (pylonlaw16_TreeCycles.l0 k3 t990 t994 t998 x11_3 (wrap64 (x12_3 + 1)) a0_0 l0_1) else (if x11_3.length < 17592186044416 then (pylonlaw16_TreeCycles.l0 k3 t990 t994 t998 (x11_3 ++ [rd t998 x12_3]) (wrap64 (x12_3 + 1)) a0_0 l0_1) else (none))) = some r := H
                      have A47 := Aside0.mk A470
                      clear A470
                      by_cases c48 : t1003 = true
                      · as_aux_lemma =>
                        subst c48
                        have H1 : (pylonlaw16_TreeCycles.l0 k3 t990 t994 t998 x11_3 (wrap64 (x12_3 + 1)) a0_0 l0_1) = some r := by rw [if_pos rfl] at H; exact H
                        clear H
                        have H := H1
                        clear H1
                        have H' := Aside0.mk H
                        clear H
                        obtain ⟨Ao49, co49, eo49⟩ := Kd.R_slice HO_9.out
                        subst eo49
                        have p1002 : 0 ≤ (x12_3 : Int) := of_decide_eq_true (by first | (with_reducible assumption) | assumption)
                        have q1002 : x12_3 < (t998.length : Int) := of_decide_eq_true (by first | (with_reducible assumption) | assumption)
                        obtain ⟨ad1002, e1002, hx1002_0⟩ := Kd.at_int (Kd.R_reads' HO_9.out).2.2 x12_3 p1002 q1002
                        cases e1002
                        replace p1002 := eq_true p1002
                        replace q1002 := eq_true q1002
                        obtain ⟨Ao50, co50, eo50⟩ := Kd.R_slice HO_7.out
                        subst eo50
                        go_wp2_with (first | (go_at_call 60; (with_reducible refine (pylonlaw16_has.calls k3 _ _ t994 (rd t998 x12_3) true _ ?side1 ?side2 A47.out).mono ?_); (case side1 => repeat (first | exact (Kd.R_reads' HO_7.out).2.2 | (with_reducible refine Kd.C_alloc ?_ _) | (with_reducible refine Kd.C_drewN ?_ _) | (with_reducible refine Kd.C_drew ?_))); (case side2 => exact (Kd.R_reads' HO_7.out).2.1); rintro e w' ⟨rfl, ⟨nd, rfl⟩⟩; (try first | exact ⟨rfl, _, World.drewN_drewN _ _ _⟩ | exact ⟨rfl, _, Eq.trans (World.drewN_drewN _ _ _) (congrArg (World.drewN _) (Nat.add_assoc _ _ _))⟩)))
                        repeat (go_quiet (first | (go_at_call 60; (with_reducible refine (pylonlaw16_has.calls k3 _ _ t994 (rd t998 x12_3) true _ ?side1 ?side2 A47.out).mono ?_); (case side1 => repeat (first | exact (Kd.R_reads' HO_7.out).2.2 | (with_reducible refine Kd.C_alloc ?_ _) | (with_reducible refine Kd.C_drewN ?_ _) | (with_reducible refine Kd.C_drew ?_))); (case side2 => exact (Kd.R_reads' HO_7.out).2.1); rintro e w' ⟨rfl, ⟨nd, rfl⟩⟩; (try first | exact ⟨rfl, _, World.drewN_drewN _ _ _⟩ | exact ⟨rfl, _, Eq.trans (World.drewN_drewN _ _ _) (congrArg (World.drewN _) (Nat.add_assoc _ _ _))⟩))); try go_wp2_with (first | (go_at_call 60; (with_reducible refine (pylonlaw16_has.calls k3 _ _ t994 (rd t998 x12_3) true _ ?side1 ?side2 A47.out).mono ?_); (case side1 => repeat (first | exact (Kd.R_reads' HO_7.out).2.2 | (with_reducible refine Kd.C_alloc ?_ _) | (with_reducible refine Kd.C_drewN ?_ _) | (with_reducible refine Kd.C_drew ?_))); (case side2 => exact (Kd.R_reads' HO_7.out).2.1); rintro e w' ⟨rfl, ⟨nd, rfl⟩⟩; (try first | exact ⟨rfl, _, World.drewN_drewN _ _ _⟩ | exact ⟨rfl, _, Eq.trans (World.drewN_drewN _ _ _) (congrArg (World.drewN _) (Nat.add_assoc _ _ _))⟩))))
                        go_roundg k3
                        case measure => have := HJ2.out; have := HJ34.out; have := HK3.out; omega
                        case rel => exact ⟨(x11_3), (wrap64 (x12_3 + 1)), (by first | rfl | (simp; done) | (simp [*]; done)), H', ⟨by have := HJ2.out; have := HJ34.out; have := HK3.out; omega⟩, ⟨by (with_reducible repeat (first | apply Kd.N_alloc | apply Kd.N_drewN | apply Kd.N_drew)); exact HO_5.out⟩, ⟨by (with_reducible repeat (first | apply Kd.R_alloc | apply Kd.R_drewN | apply Kd.R_drew)); exact HO_7.out⟩, ⟨by (with_reducible repeat (first | apply Kd.R_alloc | apply Kd.R_drewN | apply Kd.R_drew)); exact HO_9.out⟩, ⟨by (with_reducible repeat (first | apply Kd.R_alloc | apply Kd.R_drewN | apply Kd.R_drew)); exact HO_11.out⟩, ⟨by (with_reducible repeat (first | refine blk_drewN ?_ _ | refine blk_drew ?_ | refine blk_alloc ?_ _)); exact BK982.out⟩, ⟨by repeat (first | (with_reducible first | exact HB.out | apply below_alloc | apply pw_below_drewN | apply below_drew1 | refine below_set ?_ GE982.out) | exact HB.out)⟩⟩
                      · as_aux_lemma =>
                        replace c48 := Bool.eq_false_iff.mpr c48
                        subst c48
                        have H1 : (if x11_3.length < 17592186044416 then (pylonlaw16_TreeCycles.l0 k3 t990 t994 t998 (x11_3 ++ [rd t998 x12_3]) (wrap64 (x12_3 + 1)) a0_0 l0_1) else (none)) = some r := by rw [if_neg (show ¬ (false = true) by decide)] at H; exact H
                        clear H
                        have H := H1
                        clear H1
                        by_cases c51 : x11_3.length < 17592186044416
                        · rw [if_pos c51] at H
                          have LMc51 := Aside0.mk c51
                          clear c51
                          obtain ⟨y1005, hy1005⟩ : ∃ y_ : List Int, y_ = (x11_3 ++ [rd t998 x12_3]) := ⟨_, rfl⟩
                          replace H : (pylonlaw16_TreeCycles.l0 k3 t990 t994 t998 y1005 (wrap64 (x12_3 + 1)) a0_0 l0_1) = some r := by first | (rw [hy1005]; with_reducible exact H) | (have H2_ := (Option.bind_some _ _).symm.trans H; rw [hy1005]; with_reducible exact H2_) | (have H2_ := (Option.bind_some _ _).symm.trans H; with_reducible exact H2_) | with_reducible exact H | (rw [hy1005]; exact H) | exact H
                          have Ny1005 := Aside0.mk hy1005
                          clear hy1005
                          have H' := Aside0.mk H
                          clear H
                          obtain ⟨Ao52, co52, eo52⟩ := Kd.R_slice HO_9.out
                          subst eo52
                          have p1002 : 0 ≤ (x12_3 : Int) := of_decide_eq_true (by first | (with_reducible assumption) | assumption)
                          have q1002 : x12_3 < (t998.length : Int) := of_decide_eq_true (by first | (with_reducible assumption) | assumption)
                          obtain ⟨ad1002, e1002, hx1002_0⟩ := Kd.at_int (Kd.R_reads' HO_9.out).2.2 x12_3 p1002 q1002
                          cases e1002
                          replace p1002 := eq_true p1002
                          replace q1002 := eq_true q1002
                          obtain ⟨Ao53, co53, eo53⟩ := Kd.R_slice HO_7.out
                          subst eo53
                          go_wp2_with (first | (go_at_call 60; (with_reducible refine (pylonlaw16_has.calls k3 _ _ t994 (rd t998 x12_3) false _ ?side1 ?side2 A47.out).mono ?_); (case side1 => repeat (first | exact (Kd.R_reads' HO_7.out).2.2 | (with_reducible refine Kd.C_alloc ?_ _) | (with_reducible refine Kd.C_drewN ?_ _) | (with_reducible refine Kd.C_drew ?_))); (case side2 => exact (Kd.R_reads' HO_7.out).2.1); rintro e w' ⟨rfl, ⟨nd, rfl⟩⟩; (try first | exact ⟨rfl, _, World.drewN_drewN _ _ _⟩ | exact ⟨rfl, _, Eq.trans (World.drewN_drewN _ _ _) (congrArg (World.drewN _) (Nat.add_assoc _ _ _))⟩); have p1004 : 0 ≤ (x12_3 : Int) := of_decide_eq_true (by first | (with_reducible assumption) | assumption); have q1004 : x12_3 < (t998.length : Int) := of_decide_eq_true (by first | (with_reducible assumption) | assumption); obtain ⟨ad1004, e1004, hx1004_0⟩ := Kd.at_int (Kd.R_reads' HO_9.out).2.2 x12_3 p1004 q1004; obtain rfl : ad1002 = ad1004 := (by injection e1004); replace p1004 := eq_true p1004; replace q1004 := eq_true q1004) | ((with_reducible refine gate_builtin (b := .append) (xs := #[.tmp 71, .tmp 76]) rfl ?_); (try (refine gate_guard (by rfl) ?_; dsimp only)); at_builtin; refine Kd.R_append (Kd.int .i64) (w0 := w) w.heap.size rfl (.tmp 71) (.tmp 76) 25 3 (.int .i64 0) 8 rfl Try.underlying25 info3 rfl (by decide) (by omega) u11 x11_3 (rd t998 x12_3) [.int .i64 (rd t998 x12_3)] (fun k_ => (w.heap.size ≤ k_) ∧ some k_ ≠ (.slice Ao53 t994.length co53 : Value).ownBlock ∧ some k_ ≠ (.slice (some ad1002) t998.length co52 : Value).ownBlock) (fun _ => False) rfl rfl ?aP (fun _ hk => hk.elim) ?aF ?aO ?aB ?aS ?aL ?_; (case aP => exact rfl); (case aB => exact (by repeat (first | (with_reducible first | exact HB.out | apply below_alloc | apply pw_below_drewN | apply below_drew1 | refine below_set ?_ GE982.out) | exact HB.out))); (case aF => exact (fun k_ hk => ⟨(Nat.le_trans (below_size (by repeat (first | (with_reducible first | exact HB.out | apply below_alloc | apply pw_below_drewN | apply below_drew1 | refine below_set ?_ GE982.out) | exact HB.out))) hk), Kd.fresh' (Kd.R_lt (by (with_reducible repeat (first | apply Kd.R_alloc | apply Kd.R_drewN | apply Kd.R_drew)); exact HO_7.out)) k_ hk, Kd.fresh' (Kd.R_lt (by (with_reducible repeat (first | apply Kd.R_alloc | apply Kd.R_drewN | apply Kd.R_drew)); exact HO_9.out)) k_ hk⟩)); (case aO => exact (by (with_reducible repeat (first | apply Kd.R_alloc | apply Kd.R_drewN | apply Kd.R_drew)); exact HO_11.out)); (case aS => exact (below_size (by repeat (first | (with_reducible first | exact HB.out | apply below_alloc | apply pw_below_drewN | apply below_drew1 | refine below_set ?_ GE982.out) | exact HB.out)))); (case aL => have := LMc51.out; omega); intro v1006 w54 ho hb hg hat; rw [← Ny1005.out] at ho; have n0_ := Aside0.mk (Kd.N_afterv (ok := (fun k_ => (P1_ k_ ∨ w.heap.size ≤ k_) ∧ some k_ ≠ (.slice Ao53 t994.length co53 : Value).ownBlock ∧ some k_ ≠ (.slice (some ad1002) t998.length co52 : Value).ownBlock ∧ k_ ≠ gb982)) (by (with_reducible repeat (first | apply Kd.N_alloc | apply Kd.N_drewN | apply Kd.N_drew)); exact Kd.N_mono HO_5.out (fun _ hk => ⟨⟨hk.1, ⟨hk.2.1, ⟨hk.2.2.1, hk.2.2.2.2⟩⟩⟩, hk.2.2.2.1⟩)) hg hat); have n1_ := Aside0.mk (Kd.R_after (ok := (fun k_ => (w.heap.size ≤ k_) ∧ some k_ ≠ (.slice (some ad1002) t998.length co52 : Value).ownBlock)) (by (with_reducible repeat (first | apply Kd.R_alloc | apply Kd.R_drewN | apply Kd.R_drew)); exact Kd.R_mono HO_7.out (fun _ hk => ⟨⟨hk.1, hk.2.1⟩, hk.2.2⟩)) hg hat); have n2_ := Aside0.mk (Kd.R_after (ok := (fun k_ => (w.heap.size ≤ k_) ∧ some k_ ≠ (.slice Ao53 t994.length co53 : Value).ownBlock)) (by (with_reducible repeat (first | apply Kd.R_alloc | apply Kd.R_drewN | apply Kd.R_drew)); exact Kd.R_mono HO_9.out (fun _ hk => ⟨⟨hk.1, hk.2.1⟩, hk.2.2⟩)) hg hat); have n3_ := Aside0.mk (blk_grown (g := gb982) (o := .cells #[.int .i64 a0_0, .slice A0_1 l0_1.length c0_1] 24 (0, 0)) (by (with_reducible repeat (first | refine blk_drewN ?_ _ | refine blk_drew ?_ | refine blk_alloc ?_ _)); exact BK982.out) hg (Kd.R_ne HO_11.out BK982.out (by decide))); have n4_ := Aside0.mk (hb); have n5_ := Aside0.mk (ho); clear HO_5; clear HO_7; clear HO_9; clear BK982; clear HB; clear HO_11; have HO_5 := n0_; have HO_7 := n1_; have HO_9 := n2_; have BK982 := n3_; have HB := n4_; have HO1007 := n5_; clear n0_ n1_ n2_ n3_ n4_ n5_; clear ho hb hg hat))
                          repeat (go_quiet (first | (go_at_call 60; (with_reducible refine (pylonlaw16_has.calls k3 _ _ t994 (rd t998 x12_3) false _ ?side1 ?side2 A47.out).mono ?_); (case side1 => repeat (first | exact (Kd.R_reads' HO_7.out).2.2 | (with_reducible refine Kd.C_alloc ?_ _) | (with_reducible refine Kd.C_drewN ?_ _) | (with_reducible refine Kd.C_drew ?_))); (case side2 => exact (Kd.R_reads' HO_7.out).2.1); rintro e w' ⟨rfl, ⟨nd, rfl⟩⟩; (try first | exact ⟨rfl, _, World.drewN_drewN _ _ _⟩ | exact ⟨rfl, _, Eq.trans (World.drewN_drewN _ _ _) (congrArg (World.drewN _) (Nat.add_assoc _ _ _))⟩); have p1004 : 0 ≤ (x12_3 : Int) := of_decide_eq_true (by first | (with_reducible assumption) | assumption); have q1004 : x12_3 < (t998.length : Int) := of_decide_eq_true (by first | (with_reducible assumption) | assumption); obtain ⟨ad1004, e1004, hx1004_0⟩ := Kd.at_int (Kd.R_reads' HO_9.out).2.2 x12_3 p1004 q1004; obtain rfl : ad1002 = ad1004 := (by injection e1004); replace p1004 := eq_true p1004; replace q1004 := eq_true q1004) | ((with_reducible refine gate_builtin (b := .append) (xs := #[.tmp 71, .tmp 76]) rfl ?_); (try (refine gate_guard (by rfl) ?_; dsimp only)); at_builtin; refine Kd.R_append (Kd.int .i64) (w0 := w) w.heap.size rfl (.tmp 71) (.tmp 76) 25 3 (.int .i64 0) 8 rfl Try.underlying25 info3 rfl (by decide) (by omega) u11 x11_3 (rd t998 x12_3) [.int .i64 (rd t998 x12_3)] (fun k_ => (w.heap.size ≤ k_) ∧ some k_ ≠ (.slice Ao53 t994.length co53 : Value).ownBlock ∧ some k_ ≠ (.slice (some ad1002) t998.length co52 : Value).ownBlock) (fun _ => False) rfl rfl ?aP (fun _ hk => hk.elim) ?aF ?aO ?aB ?aS ?aL ?_; (case aP => exact rfl); (case aB => exact (by repeat (first | (with_reducible first | exact HB.out | apply below_alloc | apply pw_below_drewN | apply below_drew1 | refine below_set ?_ GE982.out) | exact HB.out))); (case aF => exact (fun k_ hk => ⟨(Nat.le_trans (below_size (by repeat (first | (with_reducible first | exact HB.out | apply below_alloc | apply pw_below_drewN | apply below_drew1 | refine below_set ?_ GE982.out) | exact HB.out))) hk), Kd.fresh' (Kd.R_lt (by (with_reducible repeat (first | apply Kd.R_alloc | apply Kd.R_drewN | apply Kd.R_drew)); exact HO_7.out)) k_ hk, Kd.fresh' (Kd.R_lt (by (with_reducible repeat (first | apply Kd.R_alloc | apply Kd.R_drewN | apply Kd.R_drew)); exact HO_9.out)) k_ hk⟩)); (case aO => exact (by (with_reducible repeat (first | apply Kd.R_alloc | apply Kd.R_drewN | apply Kd.R_drew)); exact HO_11.out)); (case aS => exact (below_size (by repeat (first | (with_reducible first | exact HB.out | apply below_alloc | apply pw_below_drewN | apply below_drew1 | refine below_set ?_ GE982.out) | exact HB.out)))); (case aL => have := LMc51.out; omega); intro v1006 w54 ho hb hg hat; rw [← Ny1005.out] at ho; have n0_ := Aside0.mk (Kd.N_afterv (ok := (fun k_ => (P1_ k_ ∨ w.heap.size ≤ k_) ∧ some k_ ≠ (.slice Ao53 t994.length co53 : Value).ownBlock ∧ some k_ ≠ (.slice (some ad1002) t998.length co52 : Value).ownBlock ∧ k_ ≠ gb982)) (by (with_reducible repeat (first | apply Kd.N_alloc | apply Kd.N_drewN | apply Kd.N_drew)); exact Kd.N_mono HO_5.out (fun _ hk => ⟨⟨hk.1, ⟨hk.2.1, ⟨hk.2.2.1, hk.2.2.2.2⟩⟩⟩, hk.2.2.2.1⟩)) hg hat); have n1_ := Aside0.mk (Kd.R_after (ok := (fun k_ => (w.heap.size ≤ k_) ∧ some k_ ≠ (.slice (some ad1002) t998.length co52 : Value).ownBlock)) (by (with_reducible repeat (first | apply Kd.R_alloc | apply Kd.R_drewN | apply Kd.R_drew)); exact Kd.R_mono HO_7.out (fun _ hk => ⟨⟨hk.1, hk.2.1⟩, hk.2.2⟩)) hg hat); have n2_ := Aside0.mk (Kd.R_after (ok := (fun k_ => (w.heap.size ≤ k_) ∧ some k_ ≠ (.slice Ao53 t994.length co53 : Value).ownBlock)) (by (with_reducible repeat (first | apply Kd.R_alloc | apply Kd.R_drewN | apply Kd.R_drew)); exact Kd.R_mono HO_9.out (fun _ hk => ⟨⟨hk.1, hk.2.1⟩, hk.2.2⟩)) hg hat); have n3_ := Aside0.mk (blk_grown (g := gb982) (o := .cells #[.int .i64 a0_0, .slice A0_1 l0_1.length c0_1] 24 (0, 0)) (by (with_reducible repeat (first | refine blk_drewN ?_ _ | refine blk_drew ?_ | refine blk_alloc ?_ _)); exact BK982.out) hg (Kd.R_ne HO_11.out BK982.out (by decide))); have n4_ := Aside0.mk (hb); have n5_ := Aside0.mk (ho); clear HO_5; clear HO_7; clear HO_9; clear BK982; clear HB; clear HO_11; have HO_5 := n0_; have HO_7 := n1_; have HO_9 := n2_; have BK982 := n3_; have HB := n4_; have HO1007 := n5_; clear n0_ n1_ n2_ n3_ n4_ n5_; clear ho hb hg hat)); try go_wp2_with (first | (go_at_call 60; (with_reducible refine (pylonlaw16_has.calls k3 _ _ t994 (rd t998 x12_3) false _ ?side1 ?side2 A47.out).mono ?_); (case side1 => repeat (first | exact (Kd.R_reads' HO_7.out).2.2 | (with_reducible refine Kd.C_alloc ?_ _) | (with_reducible refine Kd.C_drewN ?_ _) | (with_reducible refine Kd.C_drew ?_))); (case side2 => exact (Kd.R_reads' HO_7.out).2.1); rintro e w' ⟨rfl, ⟨nd, rfl⟩⟩; (try first | exact ⟨rfl, _, World.drewN_drewN _ _ _⟩ | exact ⟨rfl, _, Eq.trans (World.drewN_drewN _ _ _) (congrArg (World.drewN _) (Nat.add_assoc _ _ _))⟩); have p1004 : 0 ≤ (x12_3 : Int) := of_decide_eq_true (by first | (with_reducible assumption) | assumption); have q1004 : x12_3 < (t998.length : Int) := of_decide_eq_true (by first | (with_reducible assumption) | assumption); obtain ⟨ad1004, e1004, hx1004_0⟩ := Kd.at_int (Kd.R_reads' HO_9.out).2.2 x12_3 p1004 q1004; obtain rfl : ad1002 = ad1004 := (by injection e1004); replace p1004 := eq_true p1004; replace q1004 := eq_true q1004) | ((with_reducible refine gate_builtin (b := .append) (xs := #[.tmp 71, .tmp 76]) rfl ?_); (try (refine gate_guard (by rfl) ?_; dsimp only)); at_builtin; refine Kd.R_append (Kd.int .i64) (w0 := w) w.heap.size rfl (.tmp 71) (.tmp 76) 25 3 (.int .i64 0) 8 rfl Try.underlying25 info3 rfl (by decide) (by omega) u11 x11_3 (rd t998 x12_3) [.int .i64 (rd t998 x12_3)] (fun k_ => (w.heap.size ≤ k_) ∧ some k_ ≠ (.slice Ao53 t994.length co53 : Value).ownBlock ∧ some k_ ≠ (.slice (some ad1002) t998.length co52 : Value).ownBlock) (fun _ => False) rfl rfl ?aP (fun _ hk => hk.elim) ?aF ?aO ?aB ?aS ?aL ?_; (case aP => exact rfl); (case aB => exact (by repeat (first | (with_reducible first | exact HB.out | apply below_alloc | apply pw_below_drewN | apply below_drew1 | refine below_set ?_ GE982.out) | exact HB.out))); (case aF => exact (fun k_ hk => ⟨(Nat.le_trans (below_size (by repeat (first | (with_reducible first | exact HB.out | apply below_alloc | apply pw_below_drewN | apply below_drew1 | refine below_set ?_ GE982.out) | exact HB.out))) hk), Kd.fresh' (Kd.R_lt (by (with_reducible repeat (first | apply Kd.R_alloc | apply Kd.R_drewN | apply Kd.R_drew)); exact HO_7.out)) k_ hk, Kd.fresh' (Kd.R_lt (by (with_reducible repeat (first | apply Kd.R_alloc | apply Kd.R_drewN | apply Kd.R_drew)); exact HO_9.out)) k_ hk⟩)); (case aO => exact (by (with_reducible repeat (first | apply Kd.R_alloc | apply Kd.R_drewN | apply Kd.R_drew)); exact HO_11.out)); (case aS => exact (below_size (by repeat (first | (with_reducible first | exact HB.out | apply below_alloc | apply pw_below_drewN | apply below_drew1 | refine below_set ?_ GE982.out) | exact HB.out)))); (case aL => have := LMc51.out; omega); intro v1006 w54 ho hb hg hat; rw [← Ny1005.out] at ho; have n0_ := Aside0.mk (Kd.N_afterv (ok := (fun k_ => (P1_ k_ ∨ w.heap.size ≤ k_) ∧ some k_ ≠ (.slice Ao53 t994.length co53 : Value).ownBlock ∧ some k_ ≠ (.slice (some ad1002) t998.length co52 : Value).ownBlock ∧ k_ ≠ gb982)) (by (with_reducible repeat (first | apply Kd.N_alloc | apply Kd.N_drewN | apply Kd.N_drew)); exact Kd.N_mono HO_5.out (fun _ hk => ⟨⟨hk.1, ⟨hk.2.1, ⟨hk.2.2.1, hk.2.2.2.2⟩⟩⟩, hk.2.2.2.1⟩)) hg hat); have n1_ := Aside0.mk (Kd.R_after (ok := (fun k_ => (w.heap.size ≤ k_) ∧ some k_ ≠ (.slice (some ad1002) t998.length co52 : Value).ownBlock)) (by (with_reducible repeat (first | apply Kd.R_alloc | apply Kd.R_drewN | apply Kd.R_drew)); exact Kd.R_mono HO_7.out (fun _ hk => ⟨⟨hk.1, hk.2.1⟩, hk.2.2⟩)) hg hat); have n2_ := Aside0.mk (Kd.R_after (ok := (fun k_ => (w.heap.size ≤ k_) ∧ some k_ ≠ (.slice Ao53 t994.length co53 : Value).ownBlock)) (by (with_reducible repeat (first | apply Kd.R_alloc | apply Kd.R_drewN | apply Kd.R_drew)); exact Kd.R_mono HO_9.out (fun _ hk => ⟨⟨hk.1, hk.2.1⟩, hk.2.2⟩)) hg hat); have n3_ := Aside0.mk (blk_grown (g := gb982) (o := .cells #[.int .i64 a0_0, .slice A0_1 l0_1.length c0_1] 24 (0, 0)) (by (with_reducible repeat (first | refine blk_drewN ?_ _ | refine blk_drew ?_ | refine blk_alloc ?_ _)); exact BK982.out) hg (Kd.R_ne HO_11.out BK982.out (by decide))); have n4_ := Aside0.mk (hb); have n5_ := Aside0.mk (ho); clear HO_5; clear HO_7; clear HO_9; clear BK982; clear HB; clear HO_11; have HO_5 := n0_; have HO_7 := n1_; have HO_9 := n2_; have BK982 := n3_; have HB := n4_; have HO1007 := n5_; clear n0_ n1_ n2_ n3_ n4_ n5_; clear ho hb hg hat)))
                          go_roundg k3
                          case measure => have := HJ2.out; have := HJ34.out; have := HK3.out; omega
                          case rel => exact ⟨(y1005), (wrap64 (x12_3 + 1)), (by first | rfl | (simp; done) | (simp [*]; done)), H', ⟨by have := HJ2.out; have := HJ34.out; have := HK3.out; omega⟩, ⟨by (with_reducible repeat (first | apply Kd.N_alloc | apply Kd.N_drewN | apply Kd.N_drew)); exact Kd.N_mono HO_5.out (fun _ hk => ⟨hk.1.1, ⟨hk.1.2.1, ⟨hk.1.2.2.1, ⟨hk.2, hk.1.2.2.2⟩⟩⟩⟩)⟩, ⟨by (with_reducible repeat (first | apply Kd.R_alloc | apply Kd.R_drewN | apply Kd.R_drew)); exact Kd.R_mono HO_7.out (fun _ hk => ⟨hk.1.1, ⟨hk.1.2, hk.2⟩⟩)⟩, ⟨by (with_reducible repeat (first | apply Kd.R_alloc | apply Kd.R_drewN | apply Kd.R_drew)); exact Kd.R_mono HO_9.out (fun _ hk => ⟨hk.1.1, ⟨hk.1.2, hk.2⟩⟩)⟩, ⟨by (with_reducible repeat (first | apply Kd.R_alloc | apply Kd.R_drewN | apply Kd.R_drew)); exact HO1007.out⟩, ⟨by (with_reducible repeat (first | refine blk_drewN ?_ _ | refine blk_drew ?_ | refine blk_alloc ?_ _)); exact BK982.out⟩, ⟨by repeat (first | (with_reducible first | exact HB.out | apply below_alloc | apply pw_below_drewN | apply below_drew1 | refine below_set ?_ GE982.out) | exact HB.out)⟩⟩
                        · rw [if_neg c51] at H
                          exact absurd H (by simp)
                    · rw [if_neg c46] at H
                      exact absurd H (by simp)
                  · rw [if_neg c45] at H
                    have c45b0 : decide (x12_3 < (t998.length : Int)) = false := decide_eq_false c45
                    clear c45
                    by_cases c55 : (x11_3.length : Int) = (t990.length : Int)
                    · rw [if_pos c55] at H
                      have c55b0 : ((x11_3.length : Int) == (t990.length : Int)) = true := beq_iff_eq.mpr c55
                      have c55b1 : ((x11_3.length : Int) != (t990.length : Int)) = false := bne_eq_false_iff_eq.mpr c55
                      have c55b2 : (x11_3.length == t990.length) = true := by first | simpa using c55 | (simp at c55 ⊢; omega)
                      clear c55
                      have H' := Aside0.mk H
                      clear H
                      obtain ⟨Ao56, co56, eo56⟩ := Kd.R_slice HO_9.out
                      subst eo56
                      obtain ⟨Ao57, co57, eo57⟩ := Kd.R_slice HO_11.out
                      subst eo57
                      obtain ⟨Ao58, co58, eo58⟩ := Kd.N_slice HO_5.out
                      subst eo58
                      go_wp2
                      repeat (go_quiet (fail); try go_wp2)
                      go_loopg [13] k3 (fun kq v13 w' => ∃ (x13_4 : Int), v13 = .int .i64 x13_4 ∧ Aside0 (pylonlaw16_TreeCycles.l1 kq t990 x11_3 x13_4 a0_0 l0_1 = some r) ∧ Aside0 (kq ≤ k3) ∧ Aside0 (Kd.N (Kd.slice 3 (Kd.int .i64)) 25 w' w.heap.size (fun k_ => (P1_ k_ ∨ w.heap.size ≤ k_) ∧ some k_ ≠ ((.slice Ao57 x11_3.length co57) : Value).ownBlock ∧ k_ ≠ gb982) (.slice Ao58 t990.length co58) t990) ∧ Aside0 (Kd.R (Kd.int .i64) 3 w' w.heap.size (fun k_ => (w.heap.size ≤ k_)) (.slice Ao57 x11_3.length co57) x11_3) ∧ Aside0 (w'.heap[gb982]? = some (.cells #[.int .i64 a0_0, (.slice A0_1 l0_1.length c0_1)] 24 (0, 0))) ∧ Aside0 (Below w.heap.size w w'))
                      case atStart => exact ⟨(0), (by first | rfl | (simp; done) | (simp [*]; done)), H', ⟨Nat.le_refl _⟩, ⟨by (with_reducible repeat (first | apply Kd.N_alloc | apply Kd.N_drewN | apply Kd.N_drew)); exact Kd.N_mono HO_5.out (fun _ hk => ⟨hk.1, ⟨hk.2.2.2.1, hk.2.2.2.2⟩⟩)⟩, ⟨by (with_reducible repeat (first | apply Kd.R_alloc | apply Kd.R_drewN | apply Kd.R_drew)); exact Kd.R_mono HO_11.out (fun _ hk => hk.1)⟩, ⟨by (with_reducible repeat (first | refine blk_drewN ?_ _ | refine blk_drew ?_ | refine blk_alloc ?_ _)); exact BK982.out⟩, ⟨by repeat (first | (with_reducible first | exact HB.out | apply below_alloc | apply pw_below_drewN | apply below_drew1 | refine below_set ?_ GE982.out) | exact HB.out)⟩⟩
                      case round => as_aux_lemma =>
                        clear H'
                        try clear c1
                        try clear p1
                        try clear q1
                        try clear hx1
                        try clear c2
                        try clear p2
                        try clear c4
                        try clear c5
                        try clear c6
                        try clear p6
                        try clear p10
                        try clear q10
                        try clear hx10
                        try clear c13
                        try clear c17
                        try clear c29
                        try clear c42
                        try clear c42b0
                        try clear c42b1
                        try clear c43
                        try clear c43b0
                        try clear c43b1
                        try clear c44
                        try clear c45
                        try clear c45b0
                        try clear c46
                        try clear c46b0
                        try clear c48
                        try clear c51
                        try clear c55
                        try clear c55b0
                        try clear c55b1
                        try clear c55b2
                        try clear hcz15_0
                        try clear hcz15_1
                        try clear hcz21_0
                        try clear hcz21_1
                        try clear hcz23_0
                        try clear hcz23_1
                        try clear hcz36_0
                        try clear hcz36_1
                        try clear hcz38_0
                        try clear hcz38_1
                        try clear hcz40_0
                        try clear hcz40_1
                        try clear hcz7_0
                        try clear hcz7_1
                        try clear hfz15_0
                        try clear hfz15_1
                        try clear hfz21_0
                        try clear hfz21_1
                        try clear hfz23_0
                        try clear hfz23_1
                        try clear hfz36_0
                        try clear hfz36_1
                        try clear hfz38_0
                        try clear hfz38_1
                        try clear hfz40_0
                        try clear hfz40_1
                        try clear hfz7_0
                        try clear hfz7_1
                        try clear hx1002_0
                        try clear hx1004_0
                        try clear p1002
                        try clear p1004
                        try clear p2
                        try clear q1002
                        try clear q1004
                        obtain ⟨x13_4, rfl, HA, HK4, HO_5, HO_11, BK982, HB⟩ := hrel
                        cases gk with
                        | zero => exact absurd HA.out (by simp [pylonlaw16_TreeCycles.l1])
                        | succ k4 =>
                          have H := HA.out
                          clear HA
                          simp only [pylonlaw16_TreeCycles.l1] at H
                          by_cases c59 : x13_4 < (t990.length : Int)
                          · rw [if_pos c59] at H
                            have c59b0 : decide (x13_4 < (t990.length : Int)) = true := decide_eq_true c59
                            clear c59
                            have H' := Aside0.mk H
                            clear H
                            go_wp2
                            repeat (go_quiet (fail); try go_wp2)
                            go_loopg [14] k4 (fun kq v14 w' => ∃ (x14_5 : Int), v14 = .int .i64 x14_5 ∧ Aside0 (pylonlaw16_TreeCycles.l2 kq t990 x11_3 x13_4 x14_5 a0_0 l0_1 = some r) ∧ Aside0 (kq ≤ k4) ∧ Aside0 (Kd.N (Kd.slice 3 (Kd.int .i64)) 25 w' w.heap.size (fun k_ => (P1_ k_ ∨ w.heap.size ≤ k_) ∧ some k_ ≠ ((.slice Ao57 x11_3.length co57) : Value).ownBlock ∧ k_ ≠ gb982) (.slice Ao58 t990.length co58) t990) ∧ Aside0 (Kd.R (Kd.int .i64) 3 w' w.heap.size (fun k_ => (w.heap.size ≤ k_)) (.slice Ao57 x11_3.length co57) x11_3) ∧ Aside0 (w'.heap[gb982]? = some (.cells #[.int .i64 a0_0, (.slice A0_1 l0_1.length c0_1)] 24 (0, 0))) ∧ Aside0 (Below w.heap.size w w'))
                            case atStart => exact ⟨(0), (by first | rfl | (simp; done) | (simp [*]; done)), H', ⟨Nat.le_refl _⟩, ⟨by (with_reducible repeat (first | apply Kd.N_alloc | apply Kd.N_drewN | apply Kd.N_drew)); exact HO_5.out⟩, ⟨by (with_reducible repeat (first | apply Kd.R_alloc | apply Kd.R_drewN | apply Kd.R_drew)); exact HO_11.out⟩, ⟨by (with_reducible repeat (first | refine blk_drewN ?_ _ | refine blk_drew ?_ | refine blk_alloc ?_ _)); exact BK982.out⟩, ⟨by repeat (first | (with_reducible first | exact HB.out | apply below_alloc | apply pw_below_drewN | apply below_drew1 | refine below_set ?_ GE982.out) | exact HB.out)⟩⟩
                            case round => as_aux_lemma =>
                              clear H'
                              try clear c1
                              try clear p1
                              try clear q1
                              try clear hx1
                              try clear c2
                              try clear p2
                              try clear c4
                              try clear c5
                              try clear c6
                              try clear p6
                              try clear p10
                              try clear q10
                              try clear hx10
                              try clear c13
                              try clear c17
                              try clear c29
                              try clear c42
                              try clear c42b0
                              try clear c42b1
                              try clear c43
                              try clear c43b0
                              try clear c43b1
                              try clear c44
                              try clear c45
                              try clear c45b0
                              try clear c46
                              try clear c46b0
                              try clear c48
                              try clear c51
                              try clear c55
                              try clear c55b0
                              try clear c55b1
                              try clear c55b2
                              try clear c59
                              try clear c59b0
                              try clear hcz15_0
                              try clear hcz15_1
                              try clear hcz21_0
                              try clear hcz21_1
                              try clear hcz23_0
                              try clear hcz23_1
                              try clear hcz36_0
                              try clear hcz36_1
                              try clear hcz38_0
                              try clear hcz38_1
                              try clear hcz40_0
                              try clear hcz40_1
                              try clear hcz7_0
                              try clear hcz7_1
                              try clear hfz15_0
                              try clear hfz15_1
                              try clear hfz21_0
                              try clear hfz21_1
                              try clear hfz23_0
                              try clear hfz23_1
                              try clear hfz36_0
                              try clear hfz36_1
                              try clear hfz38_0
                              try clear hfz38_1
                              try clear hfz40_0
                              try clear hfz40_1
                              try clear hfz7_0
                              try clear hfz7_1
                              try clear hx1002_0
                              try clear hx1004_0
                              try clear p1
                              try clear p10
                              try clear p1002
                              try clear p1004
                              try clear p2
                              try clear p6
                              try clear q1
                              try clear q10
                              try clear q1002
                              try clear q1004
                              obtain ⟨x14_5, rfl, HA, HK5, HO_5, HO_11, BK982, HB⟩ := hrel
                              cases gk with
                              | zero => exact absurd HA.out (by simp [pylonlaw16_TreeCycles.l2])
                              | succ k5 =>
                                have H := HA.out
                                clear HA
                                simp only [pylonlaw16_TreeCycles.l2] at H
                                by_cases c60 : x14_5 < (x11_3.length : Int)
                                · rw [if_pos c60] at H
                                  have c60b0 : decide (x14_5 < (x11_3.length : Int)) = true := decide_eq_true c60
                                  clear c60
                                  by_cases c61 : 0 ≤ x13_4
                                  · rw [if_pos c61] at H
                                    have c61b0 : decide (0 ≤ x13_4) = true := decide_eq_true c61
                                    clear c61
                                    by_cases c62 : x13_4 < (t990.length : Int)
                                    · rw [if_pos c62] at H
                                      have c62b0 : decide (x13_4 < (t990.length : Int)) = true := decide_eq_true c62
                                      clear c62
                                      by_cases c63 : ((rd_L1 t990 x13_4).length : Int) = (l0_1.length : Int)
                                      · rw [if_pos c63] at H
                                        have c63b0 : (((rd_L1 t990 x13_4).length : Int) == (l0_1.length : Int)) = true := beq_iff_eq.mpr c63
                                        have c63b1 : (((rd_L1 t990 x13_4).length : Int) != (l0_1.length : Int)) = false := bne_eq_false_iff_eq.mpr c63
                                        have c63b2 : ((rd_L1 t990 x13_4).length == l0_1.length) = true := by first | simpa using c63 | (simp at c63 ⊢; omega)
                                        clear c63
                                        by_cases c64 : 0 ≤ x14_5
                                        · rw [if_pos c64] at H
                                          have c64b0 : decide (0 ≤ x14_5) = true := decide_eq_true c64
                                          clear c64
                                          by_cases c65 : (rd x11_3 x14_5) < 0
                                          · rw [if_pos c65] at H
                                            have c65b0 : decide ((rd x11_3 x14_5) < 0) = true := decide_eq_true c65
                                            clear c65
                                            obtain rfl := Option.some.inj H
                                            have p1008 : 0 ≤ (x13_4 : Int) := of_decide_eq_true (by first | (with_reducible assumption) | assumption)
                                            have q1008 : x13_4 < (t990.length : Int) := of_decide_eq_true (by first | (with_reducible assumption) | assumption)
                                            obtain ⟨ad1008, A1008_0, c1008_0, e1008, hx1008_0, hl1008_0, hi1008_0⟩ := at_L1 (Kd.N_reads' HO_5.out).2.2 x13_4 p1008 q1008
                                            cases e1008
                                            obtain ⟨ce1008, hce1008, hMe1008, hcc1008⟩ := Kd.N_get HO_5.out [] x13_4 p1008 (by first | exact q1008 | exact of_decide_eq_true (by first | (with_reducible assumption) | assumption) | (have e_ := (Kd.N_reads' HO_5.out).1; omega))
                                            obtain ⟨ua1008_0, uc1008_0, rfl, ul1008_0, ge1008_0⟩ := Kd.FK_slice_open hMe1008
                                            have hv1008_0 := hcc1008 0 _ rfl
                                            rw [Nat.add_zero, show ((Kd.slice 3 (Kd.int .i64))).sz = 1 from rfl, Nat.mul_one] at hv1008_0
                                            replace hv1008_0 := Option.some.inj (hv1008_0.symm.trans hx1008_0)
                                            injection hv1008_0 with hva_ hvn_ hvc_
                                            rw [hva_] at ge1008_0
                                            rw [hvc_] at ul1008_0
                                            have HL1008_0 := Aside0.mk (show Kd.V (Kd.int .i64) 3 _ w.heap.size _ _ (rd_L1 t990 x13_4) from Kd.V_mk ul1008_0 ge1008_0)
                                            clear hva_ hvn_ hvc_ ge1008_0 ul1008_0
                                            clear hcc1008 hce1008
                                            have HR1008_0 := Aside0.mk hi1008_0
                                            have HC1008_0 := Aside0.mk hl1008_0
                                            clear hi1008_0 hl1008_0
                                            replace p1008 := eq_true p1008
                                            replace q1008 := eq_true q1008
                                            have hcz66_0 : wr.cell? ⟨gb982, 0, none⟩ = some (.int .i64 a0_0) := (blk_cell BK982.out 0).trans rfl
                                            have hcz66_1 : wr.cell? ⟨gb982, 1, none⟩ = some (.slice A0_1 l0_1.length c0_1) := (blk_cell BK982.out 1).trans rfl
                                            have hfz66_0 := blk_frozen BK982.out 0
                                            have hfz66_1 := blk_frozen BK982.out 1
                                            have p1009 : 0 ≤ (x14_5 : Int) := of_decide_eq_true (by first | (with_reducible assumption) | assumption)
                                            have q1009 : x14_5 < (x11_3.length : Int) := of_decide_eq_true (by first | (with_reducible assumption) | assumption)
                                            obtain ⟨ad1009, e1009, hx1009_0⟩ := Kd.at_int (Kd.R_reads' HO_11.out).2.2 x14_5 p1009 q1009
                                            cases e1009
                                            replace p1009 := eq_true p1009
                                            replace q1009 := eq_true q1009
                                            go_wp2
                                            repeat (go_quiet (fail); try go_wp2)
                                            go_ret
                                            exact ⟨by first | rfl | (simp [errW_none, errW_some] <;> rfl) | (simp [*, errW_none, errW_some] <;> rfl), by repeat (first | (with_reducible first | exact HB.out | apply below_alloc | apply pw_below_drewN | apply below_drew1 | refine below_set ?_ GE982.out) | exact HB.out)⟩
                                          · rw [if_neg c65] at H
                                            have c65b0 : decide ((rd x11_3 x14_5) < 0) = false := decide_eq_false c65
                                            clear c65
                                            by_cases c67 : (rd x11_3 x14_5) ≥ ((rd_L1 t990 x13_4).length : Int)
                                            · rw [if_pos c67] at H
                                              have c67b0 : decide (((rd_L1 t990 x13_4).length : Int) ≤ (rd x11_3 x14_5)) = true := decide_eq_true c67
                                              clear c67
                                              obtain rfl := Option.some.inj H
                                              have p1008 : 0 ≤ (x13_4 : Int) := of_decide_eq_true (by first | (with_reducible assumption) | assumption)
                                              have q1008 : x13_4 < (t990.length : Int) := of_decide_eq_true (by first | (with_reducible assumption) | assumption)
                                              obtain ⟨ad1008, A1008_0, c1008_0, e1008, hx1008_0, hl1008_0, hi1008_0⟩ := at_L1 (Kd.N_reads' HO_5.out).2.2 x13_4 p1008 q1008
                                              cases e1008
                                              obtain ⟨ce1008, hce1008, hMe1008, hcc1008⟩ := Kd.N_get HO_5.out [] x13_4 p1008 (by first | exact q1008 | exact of_decide_eq_true (by first | (with_reducible assumption) | assumption) | (have e_ := (Kd.N_reads' HO_5.out).1; omega))
                                              obtain ⟨ua1008_0, uc1008_0, rfl, ul1008_0, ge1008_0⟩ := Kd.FK_slice_open hMe1008
                                              have hv1008_0 := hcc1008 0 _ rfl
                                              rw [Nat.add_zero, show ((Kd.slice 3 (Kd.int .i64))).sz = 1 from rfl, Nat.mul_one] at hv1008_0
                                              replace hv1008_0 := Option.some.inj (hv1008_0.symm.trans hx1008_0)
                                              injection hv1008_0 with hva_ hvn_ hvc_
                                              rw [hva_] at ge1008_0
                                              rw [hvc_] at ul1008_0
                                              have HL1008_0 := Aside0.mk (show Kd.V (Kd.int .i64) 3 _ w.heap.size _ _ (rd_L1 t990 x13_4) from Kd.V_mk ul1008_0 ge1008_0)
                                              clear hva_ hvn_ hvc_ ge1008_0 ul1008_0
                                              clear hcc1008 hce1008
                                              have HR1008_0 := Aside0.mk hi1008_0
                                              have HC1008_0 := Aside0.mk hl1008_0
                                              clear hi1008_0 hl1008_0
                                              replace p1008 := eq_true p1008
                                              replace q1008 := eq_true q1008
                                              have hcz68_0 : wr.cell? ⟨gb982, 0, none⟩ = some (.int .i64 a0_0) := (blk_cell BK982.out 0).trans rfl
                                              have hcz68_1 : wr.cell? ⟨gb982, 1, none⟩ = some (.slice A0_1 l0_1.length c0_1) := (blk_cell BK982.out 1).trans rfl
                                              have hfz68_0 := blk_frozen BK982.out 0
                                              have hfz68_1 := blk_frozen BK982.out 1
                                              have p1009 : 0 ≤ (x14_5 : Int) := of_decide_eq_true (by first | (with_reducible assumption) | assumption)
                                              have q1009 : x14_5 < (x11_3.length : Int) := of_decide_eq_true (by first | (with_reducible assumption) | assumption)
                                              obtain ⟨ad1009, e1009, hx1009_0⟩ := Kd.at_int (Kd.R_reads' HO_11.out).2.2 x14_5 p1009 q1009
                                              cases e1009
                                              replace p1009 := eq_true p1009
                                              replace q1009 := eq_true q1009
                                              have p1010 : 0 ≤ (x14_5 : Int) := of_decide_eq_true (by first | (with_reducible assumption) | assumption)
                                              have q1010 : x14_5 < (x11_3.length : Int) := of_decide_eq_true (by first | (with_reducible assumption) | assumption)
                                              obtain ⟨ad1010, e1010, hx1010_0⟩ := Kd.at_int (Kd.R_reads' HO_11.out).2.2 x14_5 p1010 q1010
                                              obtain rfl : ad1009 = ad1010 := (by injection e1010)
                                              replace p1010 := eq_true p1010
                                              replace q1010 := eq_true q1010
                                              have p1011 : 0 ≤ (x13_4 : Int) := of_decide_eq_true (by first | (with_reducible assumption) | assumption)
                                              have q1011 : x13_4 < (t990.length : Int) := of_decide_eq_true (by first | (with_reducible assumption) | assumption)
                                              obtain ⟨ad1011, A1011_0, c1011_0, e1011, hx1011_0, hl1011_0, hi1011_0⟩ := at_L1 (Kd.N_reads' HO_5.out).2.2 x13_4 p1011 q1011
                                              obtain rfl : ad1008 = ad1011 := (by injection e1011)
                                              obtain ⟨ce1011, hce1011, hMe1011, hcc1011⟩ := Kd.N_get HO_5.out [] x13_4 p1011 (by first | exact q1011 | exact of_decide_eq_true (by first | (with_reducible assumption) | assumption) | (have e_ := (Kd.N_reads' HO_5.out).1; omega))
                                              obtain ⟨ua1011_0, uc1011_0, rfl, ul1011_0, ge1011_0⟩ := Kd.FK_slice_open hMe1011
                                              have hv1011_0 := hcc1011 0 _ rfl
                                              rw [Nat.add_zero, show ((Kd.slice 3 (Kd.int .i64))).sz = 1 from rfl, Nat.mul_one] at hv1011_0
                                              replace hv1011_0 := Option.some.inj (hv1011_0.symm.trans hx1011_0)
                                              injection hv1011_0 with hva_ hvn_ hvc_
                                              rw [hva_] at ge1011_0
                                              rw [hvc_] at ul1011_0
                                              have HL1011_0 := Aside0.mk (show Kd.V (Kd.int .i64) 3 _ w.heap.size _ _ (rd_L1 t990 x13_4) from Kd.V_mk ul1011_0 ge1011_0)
                                              clear hva_ hvn_ hvc_ ge1011_0 ul1011_0
                                              clear hcc1011 hce1011
                                              have HR1011_0 := Aside0.mk hi1011_0
                                              have HC1011_0 := Aside0.mk hl1011_0
                                              clear hi1011_0 hl1011_0
                                              replace p1011 := eq_true p1011
                                              replace q1011 := eq_true q1011
                                              have ea_ := Option.some.inj (hx1008_0.symm.trans hx1011_0)
                                              injection ea_ with ea_ en_ ec_
                                              subst ea_
                                              subst ec_
                                              clear en_
                                              go_wp2
                                              repeat (go_quiet (fail); try go_wp2)
                                              go_ret
                                              exact ⟨by first | rfl | (simp [errW_none, errW_some] <;> rfl) | (simp [*, errW_none, errW_some] <;> rfl), by repeat (first | (with_reducible first | exact HB.out | apply below_alloc | apply pw_below_drewN | apply below_drew1 | refine below_set ?_ GE982.out) | exact HB.out)⟩
                                            · rw [if_neg c67] at H
                                              have c67b0 : decide (((rd_L1 t990 x13_4).length : Int) ≤ (rd x11_3 x14_5)) = false := decide_eq_false c67
                                              clear c67
                                              by_cases c69 : x13_4 = x14_5
                                              · rw [if_pos c69] at H
                                                have c69b0 : (x13_4 == x14_5) = true := beq_iff_eq.mpr c69
                                                have c69b1 : (x13_4 != x14_5) = false := bne_eq_false_iff_eq.mpr c69
                                                clear c69
                                                by_cases c70 : 0 ≤ (rd x11_3 x14_5)
                                                · rw [if_pos c70] at H
                                                  have c70b0 : decide (0 ≤ (rd x11_3 x14_5)) = true := decide_eq_true c70
                                                  clear c70
                                                  by_cases c71 : (rd x11_3 x14_5) < ((rd_L1 t990 x13_4).length : Int)
                                                  · rw [if_pos c71] at H
                                                    have c71b0 : decide ((rd x11_3 x14_5) < ((rd_L1 t990 x13_4).length : Int)) = true := decide_eq_true c71
                                                    clear c71
                                                    by_cases c72 : (rd (rd_L1 t990 x13_4) (rd x11_3 x14_5)) = 1
                                                    · rw [if_pos c72] at H
                                                      have c72b0 : ((rd (rd_L1 t990 x13_4) (rd x11_3 x14_5)) == 1) = true := beq_iff_eq.mpr c72
                                                      have c72b1 : ((rd (rd_L1 t990 x13_4) (rd x11_3 x14_5)) != 1) = false := bne_eq_false_iff_eq.mpr c72
                                                      clear c72
                                                      have H' := Aside0.mk H
                                                      clear H
                                                      have p1008 : 0 ≤ (x13_4 : Int) := of_decide_eq_true (by first | (with_reducible assumption) | assumption)
                                                      have q1008 : x13_4 < (t990.length : Int) := of_decide_eq_true (by first | (with_reducible assumption) | assumption)
                                                      obtain ⟨ad1008, A1008_0, c1008_0, e1008, hx1008_0, hl1008_0, hi1008_0⟩ := at_L1 (Kd.N_reads' HO_5.out).2.2 x13_4 p1008 q1008
                                                      cases e1008
                                                      obtain ⟨ce1008, hce1008, hMe1008, hcc1008⟩ := Kd.N_get HO_5.out [] x13_4 p1008 (by first | exact q1008 | exact of_decide_eq_true (by first | (with_reducible assumption) | assumption) | (have e_ := (Kd.N_reads' HO_5.out).1; omega))
                                                      obtain ⟨ua1008_0, uc1008_0, rfl, ul1008_0, ge1008_0⟩ := Kd.FK_slice_open hMe1008
                                                      have hv1008_0 := hcc1008 0 _ rfl
                                                      rw [Nat.add_zero, show ((Kd.slice 3 (Kd.int .i64))).sz = 1 from rfl, Nat.mul_one] at hv1008_0
                                                      replace hv1008_0 := Option.some.inj (hv1008_0.symm.trans hx1008_0)
                                                      injection hv1008_0 with hva_ hvn_ hvc_
                                                      rw [hva_] at ge1008_0
                                                      rw [hvc_] at ul1008_0
                                                      have HL1008_0 := Aside0.mk (show Kd.V (Kd.int .i64) 3 _ w.heap.size _ _ (rd_L1 t990 x13_4) from Kd.V_mk ul1008_0 ge1008_0)
                                                      clear hva_ hvn_ hvc_ ge1008_0 ul1008_0
                                                      clear hcc1008 hce1008
                                                      have HR1008_0 := Aside0.mk hi1008_0
                                                      have HC1008_0 := Aside0.mk hl1008_0
                                                      clear hi1008_0 hl1008_0
                                                      replace p1008 := eq_true p1008
                                                      replace q1008 := eq_true q1008
                                                      have hcz73_0 : wr.cell? ⟨gb982, 0, none⟩ = some (.int .i64 a0_0) := (blk_cell BK982.out 0).trans rfl
                                                      have hcz73_1 : wr.cell? ⟨gb982, 1, none⟩ = some (.slice A0_1 l0_1.length c0_1) := (blk_cell BK982.out 1).trans rfl
                                                      have hfz73_0 := blk_frozen BK982.out 0
                                                      have hfz73_1 := blk_frozen BK982.out 1
                                                      have p1009 : 0 ≤ (x14_5 : Int) := of_decide_eq_true (by first | (with_reducible assumption) | assumption)
                                                      have q1009 : x14_5 < (x11_3.length : Int) := of_decide_eq_true (by first | (with_reducible assumption) | assumption)
                                                      obtain ⟨ad1009, e1009, hx1009_0⟩ := Kd.at_int (Kd.R_reads' HO_11.out).2.2 x14_5 p1009 q1009
                                                      cases e1009
                                                      replace p1009 := eq_true p1009
                                                      replace q1009 := eq_true q1009
                                                      have p1010 : 0 ≤ (x14_5 : Int) := of_decide_eq_true (by first | (with_reducible assumption) | assumption)
                                                      have q1010 : x14_5 < (x11_3.length : Int) := of_decide_eq_true (by first | (with_reducible assumption) | assumption)
                                                      obtain ⟨ad1010, e1010, hx1010_0⟩ := Kd.at_int (Kd.R_reads' HO_11.out).2.2 x14_5 p1010 q1010
                                                      obtain rfl : ad1009 = ad1010 := (by injection e1010)
                                                      replace p1010 := eq_true p1010
                                                      replace q1010 := eq_true q1010
                                                      have p1011 : 0 ≤ (x13_4 : Int) := of_decide_eq_true (by first | (with_reducible assumption) | assumption)
                                                      have q1011 : x13_4 < (t990.length : Int) := of_decide_eq_true (by first | (with_reducible assumption) | assumption)
                                                      obtain ⟨ad1011, A1011_0, c1011_0, e1011, hx1011_0, hl1011_0, hi1011_0⟩ := at_L1 (Kd.N_reads' HO_5.out).2.2 x13_4 p1011 q1011
                                                      obtain rfl : ad1008 = ad1011 := (by injection e1011)
                                                      obtain ⟨ce1011, hce1011, hMe1011, hcc1011⟩ := Kd.N_get HO_5.out [] x13_4 p1011 (by first | exact q1011 | exact of_decide_eq_true (by first | (with_reducible assumption) | assumption) | (have e_ := (Kd.N_reads' HO_5.out).1; omega))
                                                      obtain ⟨ua1011_0, uc1011_0, rfl, ul1011_0, ge1011_0⟩ := Kd.FK_slice_open hMe1011
                                                      have hv1011_0 := hcc1011 0 _ rfl
                                                      rw [Nat.add_zero, show ((Kd.slice 3 (Kd.int .i64))).sz = 1 from rfl, Nat.mul_one] at hv1011_0
                                                      replace hv1011_0 := Option.some.inj (hv1011_0.symm.trans hx1011_0)
                                                      injection hv1011_0 with hva_ hvn_ hvc_
                                                      rw [hva_] at ge1011_0
                                                      rw [hvc_] at ul1011_0
                                                      have HL1011_0 := Aside0.mk (show Kd.V (Kd.int .i64) 3 _ w.heap.size _ _ (rd_L1 t990 x13_4) from Kd.V_mk ul1011_0 ge1011_0)
                                                      clear hva_ hvn_ hvc_ ge1011_0 ul1011_0
                                                      clear hcc1011 hce1011
                                                      have HR1011_0 := Aside0.mk hi1011_0
                                                      have HC1011_0 := Aside0.mk hl1011_0
                                                      clear hi1011_0 hl1011_0
                                                      replace p1011 := eq_true p1011
                                                      replace q1011 := eq_true q1011
                                                      have ea_ := Option.some.inj (hx1008_0.symm.trans hx1011_0)
                                                      injection ea_ with ea_ en_ ec_
                                                      subst ea_
                                                      subst ec_
                                                      clear en_
                                                      have p1012 : 0 ≤ (x13_4 : Int) := of_decide_eq_true (by first | (with_reducible assumption) | assumption)
                                                      have q1012 : x13_4 < (t990.length : Int) := of_decide_eq_true (by first | (with_reducible assumption) | assumption)
                                                      obtain ⟨ad1012, A1012_0, c1012_0, e1012, hx1012_0, hl1012_0, hi1012_0⟩ := at_L1 (Kd.N_reads' HO_5.out).2.2 x13_4 p1012 q1012
                                                      obtain rfl : ad1008 = ad1012 := (by injection e1012)
                                                      obtain ⟨ce1012, hce1012, hMe1012, hcc1012⟩ := Kd.N_get HO_5.out [] x13_4 p1012 (by first | exact q1012 | exact of_decide_eq_true (by first | (with_reducible assumption) | assumption) | (have e_ := (Kd.N_reads' HO_5.out).1; omega))
                                                      obtain ⟨ua1012_0, uc1012_0, rfl, ul1012_0, ge1012_0⟩ := Kd.FK_slice_open hMe1012
                                                      have hv1012_0 := hcc1012 0 _ rfl
                                                      rw [Nat.add_zero, show ((Kd.slice 3 (Kd.int .i64))).sz = 1 from rfl, Nat.mul_one] at hv1012_0
                                                      replace hv1012_0 := Option.some.inj (hv1012_0.symm.trans hx1012_0)
                                                      injection hv1012_0 with hva_ hvn_ hvc_
                                                      rw [hva_] at ge1012_0
                                                      rw [hvc_] at ul1012_0
                                                      have HL1012_0 := Aside0.mk (show Kd.V (Kd.int .i64) 3 _ w.heap.size _ _ (rd_L1 t990 x13_4) from Kd.V_mk ul1012_0 ge1012_0)
                                                      clear hva_ hvn_ hvc_ ge1012_0 ul1012_0
                                                      clear hcc1012 hce1012
                                                      have HR1012_0 := Aside0.mk hi1012_0
                                                      have HC1012_0 := Aside0.mk hl1012_0
                                                      clear hi1012_0 hl1012_0
                                                      replace p1012 := eq_true p1012
                                                      replace q1012 := eq_true q1012
                                                      have ea_ := Option.some.inj (hx1008_0.symm.trans hx1012_0)
                                                      injection ea_ with ea_ en_ ec_
                                                      subst ea_
                                                      subst ec_
                                                      clear en_
                                                      have p1013 : 0 ≤ (x14_5 : Int) := of_decide_eq_true (by first | (with_reducible assumption) | assumption)
                                                      have q1013 : x14_5 < (x11_3.length : Int) := of_decide_eq_true (by first | (with_reducible assumption) | assumption)
                                                      obtain ⟨ad1013, e1013, hx1013_0⟩ := Kd.at_int (Kd.R_reads' HO_11.out).2.2 x14_5 p1013 q1013
                                                      obtain rfl : ad1009 = ad1013 := (by injection e1013)
                                                      replace p1013 := eq_true p1013
                                                      replace q1013 := eq_true q1013
                                                      have p1014 : 0 ≤ ((rd x11_3 x14_5) : Int) := of_decide_eq_true (by first | (with_reducible assumption) | assumption)
                                                      have q1014 : (rd x11_3 x14_5) < ((rd_L1 t990 x13_4).length : Int) := of_decide_eq_true (by first | (with_reducible assumption) | assumption)
                                                      obtain ⟨ad1014, e1014, hx1014_0⟩ := Kd.at_int (by repeat (first | (with_reducible exact HR1012_0.out) | (with_reducible refine Kd.C_alloc ?_ _) | (with_reducible refine Kd.C_drewN ?_ _) | (with_reducible refine Kd.C_drew ?_) | exact HR1012_0.out)) (rd x11_3 x14_5) p1014 q1014
                                                      cases e1014
                                                      replace p1014 := eq_true p1014
                                                      replace q1014 := eq_true q1014
                                                      go_wp2
                                                      repeat (go_quiet (fail); try go_wp2)
                                                      go_roundg k5
                                                      case measure => have := HJ2.out; have := HJ34.out; have := HK3.out; have := HK4.out; have := HK5.out; omega
                                                      case rel => exact ⟨(wrap64 (x14_5 + 1)), (by first | rfl | (simp; done) | (simp [*]; done)), H', ⟨by have := HJ2.out; have := HJ34.out; have := HK3.out; have := HK4.out; have := HK5.out; omega⟩, ⟨by (with_reducible repeat (first | apply Kd.N_alloc | apply Kd.N_drewN | apply Kd.N_drew)); exact HO_5.out⟩, ⟨by (with_reducible repeat (first | apply Kd.R_alloc | apply Kd.R_drewN | apply Kd.R_drew)); exact HO_11.out⟩, ⟨by (with_reducible repeat (first | refine blk_drewN ?_ _ | refine blk_drew ?_ | refine blk_alloc ?_ _)); exact BK982.out⟩, ⟨by repeat (first | (with_reducible first | exact HB.out | apply below_alloc | apply pw_below_drewN | apply below_drew1 | refine below_set ?_ GE982.out) | exact HB.out)⟩⟩
                                                    · rw [if_neg c72] at H
                                                      have c72b0 : ((rd (rd_L1 t990 x13_4) (rd x11_3 x14_5)) == 1) = false := beq_eq_false_iff_ne.mpr c72
                                                      have c72b1 : ((rd (rd_L1 t990 x13_4) (rd x11_3 x14_5)) != 1) = true := bne_iff_ne.mpr c72
                                                      obtain rfl := Option.some.inj H
                                                      have p1008 : 0 ≤ (x13_4 : Int) := of_decide_eq_true (by first | (with_reducible assumption) | assumption)
                                                      have q1008 : x13_4 < (t990.length : Int) := of_decide_eq_true (by first | (with_reducible assumption) | assumption)
                                                      obtain ⟨ad1008, A1008_0, c1008_0, e1008, hx1008_0, hl1008_0, hi1008_0⟩ := at_L1 (Kd.N_reads' HO_5.out).2.2 x13_4 p1008 q1008
                                                      cases e1008
                                                      obtain ⟨ce1008, hce1008, hMe1008, hcc1008⟩ := Kd.N_get HO_5.out [] x13_4 p1008 (by first | exact q1008 | exact of_decide_eq_true (by first | (with_reducible assumption) | assumption) | (have e_ := (Kd.N_reads' HO_5.out).1; omega))
                                                      obtain ⟨ua1008_0, uc1008_0, rfl, ul1008_0, ge1008_0⟩ := Kd.FK_slice_open hMe1008
                                                      have hv1008_0 := hcc1008 0 _ rfl
                                                      rw [Nat.add_zero, show ((Kd.slice 3 (Kd.int .i64))).sz = 1 from rfl, Nat.mul_one] at hv1008_0
                                                      replace hv1008_0 := Option.some.inj (hv1008_0.symm.trans hx1008_0)
                                                      injection hv1008_0 with hva_ hvn_ hvc_
                                                      rw [hva_] at ge1008_0
                                                      rw [hvc_] at ul1008_0
                                                      have HL1008_0 := Aside0.mk (show Kd.V (Kd.int .i64) 3 _ w.heap.size _ _ (rd_L1 t990 x13_4) from Kd.V_mk ul1008_0 ge1008_0)
                                                      clear hva_ hvn_ hvc_ ge1008_0 ul1008_0
                                                      clear hcc1008 hce1008
                                                      have HR1008_0 := Aside0.mk hi1008_0
                                                      have HC1008_0 := Aside0.mk hl1008_0
                                                      clear hi1008_0 hl1008_0
                                                      replace p1008 := eq_true p1008
                                                      replace q1008 := eq_true q1008
                                                      have hcz74_0 : wr.cell? ⟨gb982, 0, none⟩ = some (.int .i64 a0_0) := (blk_cell BK982.out 0).trans rfl
                                                      have hcz74_1 : wr.cell? ⟨gb982, 1, none⟩ = some (.slice A0_1 l0_1.length c0_1) := (blk_cell BK982.out 1).trans rfl
                                                      have hfz74_0 := blk_frozen BK982.out 0
                                                      have hfz74_1 := blk_frozen BK982.out 1
                                                      have p1009 : 0 ≤ (x14_5 : Int) := of_decide_eq_true (by first | (with_reducible assumption) | assumption)
                                                      have q1009 : x14_5 < (x11_3.length : Int) := of_decide_eq_true (by first | (with_reducible assumption) | assumption)
                                                      obtain ⟨ad1009, e1009, hx1009_0⟩ := Kd.at_int (Kd.R_reads' HO_11.out).2.2 x14_5 p1009 q1009
                                                      cases e1009
                                                      replace p1009 := eq_true p1009
                                                      replace q1009 := eq_true q1009
                                                      have p1010 : 0 ≤ (x14_5 : Int) := of_decide_eq_true (by first | (with_reducible assumption) | assumption)
                                                      have q1010 : x14_5 < (x11_3.length : Int) := of_decide_eq_true (by first | (with_reducible assumption) | assumption)
                                                      obtain ⟨ad1010, e1010, hx1010_0⟩ := Kd.at_int (Kd.R_reads' HO_11.out).2.2 x14_5 p1010 q1010
                                                      obtain rfl : ad1009 = ad1010 := (by injection e1010)
                                                      replace p1010 := eq_true p1010
                                                      replace q1010 := eq_true q1010
                                                      have p1011 : 0 ≤ (x13_4 : Int) := of_decide_eq_true (by first | (with_reducible assumption) | assumption)
                                                      have q1011 : x13_4 < (t990.length : Int) := of_decide_eq_true (by first | (with_reducible assumption) | assumption)
                                                      obtain ⟨ad1011, A1011_0, c1011_0, e1011, hx1011_0, hl1011_0, hi1011_0⟩ := at_L1 (Kd.N_reads' HO_5.out).2.2 x13_4 p1011 q1011
                                                      obtain rfl : ad1008 = ad1011 := (by injection e1011)
                                                      obtain ⟨ce1011, hce1011, hMe1011, hcc1011⟩ := Kd.N_get HO_5.out [] x13_4 p1011 (by first | exact q1011 | exact of_decide_eq_true (by first | (with_reducible assumption) | assumption) | (have e_ := (Kd.N_reads' HO_5.out).1; omega))
                                                      obtain ⟨ua1011_0, uc1011_0, rfl, ul1011_0, ge1011_0⟩ := Kd.FK_slice_open hMe1011
                                                      have hv1011_0 := hcc1011 0 _ rfl
                                                      rw [Nat.add_zero, show ((Kd.slice 3 (Kd.int .i64))).sz = 1 from rfl, Nat.mul_one] at hv1011_0
                                                      replace hv1011_0 := Option.some.inj (hv1011_0.symm.trans hx1011_0)
                                                      injection hv1011_0 with hva_ hvn_ hvc_
                                                      rw [hva_] at ge1011_0
                                                      rw [hvc_] at ul1011_0
                                                      have HL1011_0 := Aside0.mk (show Kd.V (Kd.int .i64) 3 _ w.heap.size _ _ (rd_L1 t990 x13_4) from Kd.V_mk ul1011_0 ge1011_0)
                                                      clear hva_ hvn_ hvc_ ge1011_0 ul1011_0
                                                      clear hcc1011 hce1011
                                                      have HR1011_0 := Aside0.mk hi1011_0
                                                      have HC1011_0 := Aside0.mk hl1011_0
                                                      clear hi1011_0 hl1011_0
                                                      replace p1011 := eq_true p1011
                                                      replace q1011 := eq_true q1011
                                                      have ea_ := Option.some.inj (hx1008_0.symm.trans hx1011_0)
                                                      injection ea_ with ea_ en_ ec_
                                                      subst ea_
                                                      subst ec_
                                                      clear en_
                                                      have p1012 : 0 ≤ (x13_4 : Int) := of_decide_eq_true (by first | (with_reducible assumption) | assumption)
                                                      have q1012 : x13_4 < (t990.length : Int) := of_decide_eq_true (by first | (with_reducible assumption) | assumption)
                                                      obtain ⟨ad1012, A1012_0, c1012_0, e1012, hx1012_0, hl1012_0, hi1012_0⟩ := at_L1 (Kd.N_reads' HO_5.out).2.2 x13_4 p1012 q1012
                                                      obtain rfl : ad1008 = ad1012 := (by injection e1012)
                                                      obtain ⟨ce1012, hce1012, hMe1012, hcc1012⟩ := Kd.N_get HO_5.out [] x13_4 p1012 (by first | exact q1012 | exact of_decide_eq_true (by first | (with_reducible assumption) | assumption) | (have e_ := (Kd.N_reads' HO_5.out).1; omega))
                                                      obtain ⟨ua1012_0, uc1012_0, rfl, ul1012_0, ge1012_0⟩ := Kd.FK_slice_open hMe1012
                                                      have hv1012_0 := hcc1012 0 _ rfl
                                                      rw [Nat.add_zero, show ((Kd.slice 3 (Kd.int .i64))).sz = 1 from rfl, Nat.mul_one] at hv1012_0
                                                      replace hv1012_0 := Option.some.inj (hv1012_0.symm.trans hx1012_0)
                                                      injection hv1012_0 with hva_ hvn_ hvc_
                                                      rw [hva_] at ge1012_0
                                                      rw [hvc_] at ul1012_0
                                                      have HL1012_0 := Aside0.mk (show Kd.V (Kd.int .i64) 3 _ w.heap.size _ _ (rd_L1 t990 x13_4) from Kd.V_mk ul1012_0 ge1012_0)
                                                      clear hva_ hvn_ hvc_ ge1012_0 ul1012_0
                                                      clear hcc1012 hce1012
                                                      have HR1012_0 := Aside0.mk hi1012_0
                                                      have HC1012_0 := Aside0.mk hl1012_0
                                                      clear hi1012_0 hl1012_0
                                                      replace p1012 := eq_true p1012
                                                      replace q1012 := eq_true q1012
                                                      have ea_ := Option.some.inj (hx1008_0.symm.trans hx1012_0)
                                                      injection ea_ with ea_ en_ ec_
                                                      subst ea_
                                                      subst ec_
                                                      clear en_
                                                      have p1013 : 0 ≤ (x14_5 : Int) := of_decide_eq_true (by first | (with_reducible assumption) | assumption)
                                                      have q1013 : x14_5 < (x11_3.length : Int) := of_decide_eq_true (by first | (with_reducible assumption) | assumption)
                                                      obtain ⟨ad1013, e1013, hx1013_0⟩ := Kd.at_int (Kd.R_reads' HO_11.out).2.2 x14_5 p1013 q1013
                                                      obtain rfl : ad1009 = ad1013 := (by injection e1013)
                                                      replace p1013 := eq_true p1013
                                                      replace q1013 := eq_true q1013
                                                      have p1014 : 0 ≤ ((rd x11_3 x14_5) : Int) := of_decide_eq_true (by first | (with_reducible assumption) | assumption)
                                                      have q1014 : (rd x11_3 x14_5) < ((rd_L1 t990 x13_4).length : Int) := of_decide_eq_true (by first | (with_reducible assumption) | assumption)
                                                      obtain ⟨ad1014, e1014, hx1014_0⟩ := Kd.at_int (by repeat (first | (with_reducible exact HR1012_0.out) | (with_reducible refine Kd.C_alloc ?_ _) | (with_reducible refine Kd.C_drewN ?_ _) | (with_reducible refine Kd.C_drew ?_) | exact HR1012_0.out)) (rd x11_3 x14_5) p1014 q1014
                                                      cases e1014
                                                      replace p1014 := eq_true p1014
                                                      replace q1014 := eq_true q1014
                                                      go_wp2
                                                      repeat (go_quiet (fail); try go_wp2)
                                                      go_ret
                                                      exact ⟨by first | rfl | (simp [errW_none, errW_some] <;> rfl) | (simp [*, errW_none, errW_some] <;> rfl), by repeat (first | (with_reducible first | exact HB.out | apply below_alloc | apply pw_below_drewN | apply below_drew1 | refine below_set ?_ GE982.out) | exact HB.out)⟩
                                                  · rw [if_neg c71] at H
                                                    exact absurd H (by simp)
                                                · rw [if_neg c70] at H
                                                  exact absurd H (by simp)
                                              · rw [if_neg c69] at H
                                                have c69b0 : (x13_4 == x14_5) = false := beq_eq_false_iff_ne.mpr c69
                                                have c69b1 : (x13_4 != x14_5) = true := bne_iff_ne.mpr c69
                                                by_cases c75 : 0 ≤ (rd x11_3 x14_5)
                                                · rw [if_pos c75] at H
                                                  have c75b0 : decide (0 ≤ (rd x11_3 x14_5)) = true := decide_eq_true c75
                                                  clear c75
                                                  by_cases c76 : (rd x11_3 x14_5) < ((rd_L1 t990 x13_4).length : Int)
                                                  · rw [if_pos c76] at H
                                                    have c76b0 : decide ((rd x11_3 x14_5) < ((rd_L1 t990 x13_4).length : Int)) = true := decide_eq_true c76
                                                    clear c76
                                                    by_cases c77 : (rd (rd_L1 t990 x13_4) (rd x11_3 x14_5)) = 0
                                                    · rw [if_pos c77] at H
                                                      have c77b0 : ((rd (rd_L1 t990 x13_4) (rd x11_3 x14_5)) == 0) = true := beq_iff_eq.mpr c77
                                                      have c77b1 : ((rd (rd_L1 t990 x13_4) (rd x11_3 x14_5)) != 0) = false := bne_eq_false_iff_eq.mpr c77
                                                      clear c77
                                                      have H' := Aside0.mk H
                                                      clear H
                                                      have p1008 : 0 ≤ (x13_4 : Int) := of_decide_eq_true (by first | (with_reducible assumption) | assumption)
                                                      have q1008 : x13_4 < (t990.length : Int) := of_decide_eq_true (by first | (with_reducible assumption) | assumption)
                                                      obtain ⟨ad1008, A1008_0, c1008_0, e1008, hx1008_0, hl1008_0, hi1008_0⟩ := at_L1 (Kd.N_reads' HO_5.out).2.2 x13_4 p1008 q1008
                                                      cases e1008
                                                      obtain ⟨ce1008, hce1008, hMe1008, hcc1008⟩ := Kd.N_get HO_5.out [] x13_4 p1008 (by first | exact q1008 | exact of_decide_eq_true (by first | (with_reducible assumption) | assumption) | (have e_ := (Kd.N_reads' HO_5.out).1; omega))
                                                      obtain ⟨ua1008_0, uc1008_0, rfl, ul1008_0, ge1008_0⟩ := Kd.FK_slice_open hMe1008
                                                      have hv1008_0 := hcc1008 0 _ rfl
                                                      rw [Nat.add_zero, show ((Kd.slice 3 (Kd.int .i64))).sz = 1 from rfl, Nat.mul_one] at hv1008_0
                                                      replace hv1008_0 := Option.some.inj (hv1008_0.symm.trans hx1008_0)
                                                      injection hv1008_0 with hva_ hvn_ hvc_
                                                      rw [hva_] at ge1008_0
                                                      rw [hvc_] at ul1008_0
                                                      have HL1008_0 := Aside0.mk (show Kd.V (Kd.int .i64) 3 _ w.heap.size _ _ (rd_L1 t990 x13_4) from Kd.V_mk ul1008_0 ge1008_0)
                                                      clear hva_ hvn_ hvc_ ge1008_0 ul1008_0
                                                      clear hcc1008 hce1008
                                                      have HR1008_0 := Aside0.mk hi1008_0
                                                      have HC1008_0 := Aside0.mk hl1008_0
                                                      clear hi1008_0 hl1008_0
                                                      replace p1008 := eq_true p1008
                                                      replace q1008 := eq_true q1008
                                                      have hcz78_0 : wr.cell? ⟨gb982, 0, none⟩ = some (.int .i64 a0_0) := (blk_cell BK982.out 0).trans rfl
                                                      have hcz78_1 : wr.cell? ⟨gb982, 1, none⟩ = some (.slice A0_1 l0_1.length c0_1) := (blk_cell BK982.out 1).trans rfl
                                                      have hfz78_0 := blk_frozen BK982.out 0
                                                      have hfz78_1 := blk_frozen BK982.out 1
                                                      have p1009 : 0 ≤ (x14_5 : Int) := of_decide_eq_true (by first | (with_reducible assumption) | assumption)
                                                      have q1009 : x14_5 < (x11_3.length : Int) := of_decide_eq_true (by first | (with_reducible assumption) | assumption)
                                                      obtain ⟨ad1009, e1009, hx1009_0⟩ := Kd.at_int (Kd.R_reads' HO_11.out).2.2 x14_5 p1009 q1009
                                                      cases e1009
                                                      replace p1009 := eq_true p1009
                                                      replace q1009 := eq_true q1009
                                                      have p1010 : 0 ≤ (x14_5 : Int) := of_decide_eq_true (by first | (with_reducible assumption) | assumption)
                                                      have q1010 : x14_5 < (x11_3.length : Int) := of_decide_eq_true (by first | (with_reducible assumption) | assumption)
                                                      obtain ⟨ad1010, e1010, hx1010_0⟩ := Kd.at_int (Kd.R_reads' HO_11.out).2.2 x14_5 p1010 q1010
                                                      obtain rfl : ad1009 = ad1010 := (by injection e1010)
                                                      replace p1010 := eq_true p1010
                                                      replace q1010 := eq_true q1010
                                                      have p1011 : 0 ≤ (x13_4 : Int) := of_decide_eq_true (by first | (with_reducible assumption) | assumption)
                                                      have q1011 : x13_4 < (t990.length : Int) := of_decide_eq_true (by first | (with_reducible assumption) | assumption)
                                                      obtain ⟨ad1011, A1011_0, c1011_0, e1011, hx1011_0, hl1011_0, hi1011_0⟩ := at_L1 (Kd.N_reads' HO_5.out).2.2 x13_4 p1011 q1011
                                                      obtain rfl : ad1008 = ad1011 := (by injection e1011)
                                                      obtain ⟨ce1011, hce1011, hMe1011, hcc1011⟩ := Kd.N_get HO_5.out [] x13_4 p1011 (by first | exact q1011 | exact of_decide_eq_true (by first | (with_reducible assumption) | assumption) | (have e_ := (Kd.N_reads' HO_5.out).1; omega))
                                                      obtain ⟨ua1011_0, uc1011_0, rfl, ul1011_0, ge1011_0⟩ := Kd.FK_slice_open hMe1011
                                                      have hv1011_0 := hcc1011 0 _ rfl
                                                      rw [Nat.add_zero, show ((Kd.slice 3 (Kd.int .i64))).sz = 1 from rfl, Nat.mul_one] at hv1011_0
                                                      replace hv1011_0 := Option.some.inj (hv1011_0.symm.trans hx1011_0)
                                                      injection hv1011_0 with hva_ hvn_ hvc_
                                                      rw [hva_] at ge1011_0
                                                      rw [hvc_] at ul1011_0
                                                      have HL1011_0 := Aside0.mk (show Kd.V (Kd.int .i64) 3 _ w.heap.size _ _ (rd_L1 t990 x13_4) from Kd.V_mk ul1011_0 ge1011_0)
                                                      clear hva_ hvn_ hvc_ ge1011_0 ul1011_0
                                                      clear hcc1011 hce1011
                                                      have HR1011_0 := Aside0.mk hi1011_0
                                                      have HC1011_0 := Aside0.mk hl1011_0
                                                      clear hi1011_0 hl1011_0
                                                      replace p1011 := eq_true p1011
                                                      replace q1011 := eq_true q1011
                                                      have ea_ := Option.some.inj (hx1008_0.symm.trans hx1011_0)
                                                      injection ea_ with ea_ en_ ec_
                                                      subst ea_
                                                      subst ec_
                                                      clear en_
                                                      have p1015 : 0 ≤ (x13_4 : Int) := of_decide_eq_true (by first | (with_reducible assumption) | assumption)
                                                      have q1015 : x13_4 < (t990.length : Int) := of_decide_eq_true (by first | (with_reducible assumption) | assumption)
                                                      obtain ⟨ad1015, A1015_0, c1015_0, e1015, hx1015_0, hl1015_0, hi1015_0⟩ := at_L1 (Kd.N_reads' HO_5.out).2.2 x13_4 p1015 q1015
                                                      obtain rfl : ad1008 = ad1015 := (by injection e1015)
                                                      obtain ⟨ce1015, hce1015, hMe1015, hcc1015⟩ := Kd.N_get HO_5.out [] x13_4 p1015 (by first | exact q1015 | exact of_decide_eq_true (by first | (with_reducible assumption) | assumption) | (have e_ := (Kd.N_reads' HO_5.out).1; omega))
                                                      obtain ⟨ua1015_0, uc1015_0, rfl, ul1015_0, ge1015_0⟩ := Kd.FK_slice_open hMe1015
                                                      have hv1015_0 := hcc1015 0 _ rfl
                                                      rw [Nat.add_zero, show ((Kd.slice 3 (Kd.int .i64))).sz = 1 from rfl, Nat.mul_one] at hv1015_0
                                                      replace hv1015_0 := Option.some.inj (hv1015_0.symm.trans hx1015_0)
                                                      injection hv1015_0 with hva_ hvn_ hvc_
                                                      rw [hva_] at ge1015_0
                                                      rw [hvc_] at ul1015_0
                                                      have HL1015_0 := Aside0.mk (show Kd.V (Kd.int .i64) 3 _ w.heap.size _ _ (rd_L1 t990 x13_4) from Kd.V_mk ul1015_0 ge1015_0)
                                                      clear hva_ hvn_ hvc_ ge1015_0 ul1015_0
                                                      clear hcc1015 hce1015
                                                      have HR1015_0 := Aside0.mk hi1015_0
                                                      have HC1015_0 := Aside0.mk hl1015_0
                                                      clear hi1015_0 hl1015_0
                                                      replace p1015 := eq_true p1015
                                                      replace q1015 := eq_true q1015
                                                      have ea_ := Option.some.inj (hx1008_0.symm.trans hx1015_0)
                                                      injection ea_ with ea_ en_ ec_
                                                      subst ea_
                                                      subst ec_
                                                      clear en_
                                                      have p1016 : 0 ≤ (x14_5 : Int) := of_decide_eq_true (by first | (with_reducible assumption) | assumption)
                                                      have q1016 : x14_5 < (x11_3.length : Int) := of_decide_eq_true (by first | (with_reducible assumption) | assumption)
                                                      obtain ⟨ad1016, e1016, hx1016_0⟩ := Kd.at_int (Kd.R_reads' HO_11.out).2.2 x14_5 p1016 q1016
                                                      obtain rfl : ad1009 = ad1016 := (by injection e1016)
                                                      replace p1016 := eq_true p1016
                                                      replace q1016 := eq_true q1016
                                                      have p1017 : 0 ≤ ((rd x11_3 x14_5) : Int) := of_decide_eq_true (by first | (with_reducible assumption) | assumption)
                                                      have q1017 : (rd x11_3 x14_5) < ((rd_L1 t990 x13_4).length : Int) := of_decide_eq_true (by first | (with_reducible assumption) | assumption)
                                                      obtain ⟨ad1017, e1017, hx1017_0⟩ := Kd.at_int (by repeat (first | (with_reducible exact HR1015_0.out) | (with_reducible refine Kd.C_alloc ?_ _) | (with_reducible refine Kd.C_drewN ?_ _) | (with_reducible refine Kd.C_drew ?_) | exact HR1015_0.out)) (rd x11_3 x14_5) p1017 q1017
                                                      cases e1017
                                                      replace p1017 := eq_true p1017
                                                      replace q1017 := eq_true q1017
                                                      go_wp2
                                                      repeat (go_quiet (fail); try go_wp2)
                                                      go_roundg k5
                                                      case measure => have := HJ2.out; have := HJ34.out; have := HK3.out; have := HK4.out; have := HK5.out; omega
                                                      case rel => exact ⟨(wrap64 (x14_5 + 1)), (by first | rfl | (simp; done) | (simp [*]; done)), H', ⟨by have := HJ2.out; have := HJ34.out; have := HK3.out; have := HK4.out; have := HK5.out; omega⟩, ⟨by (with_reducible repeat (first | apply Kd.N_alloc | apply Kd.N_drewN | apply Kd.N_drew)); exact HO_5.out⟩, ⟨by (with_reducible repeat (first | apply Kd.R_alloc | apply Kd.R_drewN | apply Kd.R_drew)); exact HO_11.out⟩, ⟨by (with_reducible repeat (first | refine blk_drewN ?_ _ | refine blk_drew ?_ | refine blk_alloc ?_ _)); exact BK982.out⟩, ⟨by repeat (first | (with_reducible first | exact HB.out | apply below_alloc | apply pw_below_drewN | apply below_drew1 | refine below_set ?_ GE982.out) | exact HB.out)⟩⟩
                                                    · rw [if_neg c77] at H
                                                      have c77b0 : ((rd (rd_L1 t990 x13_4) (rd x11_3 x14_5)) == 0) = false := beq_eq_false_iff_ne.mpr c77
                                                      have c77b1 : ((rd (rd_L1 t990 x13_4) (rd x11_3 x14_5)) != 0) = true := bne_iff_ne.mpr c77
                                                      obtain rfl := Option.some.inj H
                                                      have p1008 : 0 ≤ (x13_4 : Int) := of_decide_eq_true (by first | (with_reducible assumption) | assumption)
                                                      have q1008 : x13_4 < (t990.length : Int) := of_decide_eq_true (by first | (with_reducible assumption) | assumption)
                                                      obtain ⟨ad1008, A1008_0, c1008_0, e1008, hx1008_0, hl1008_0, hi1008_0⟩ := at_L1 (Kd.N_reads' HO_5.out).2.2 x13_4 p1008 q1008
                                                      cases e1008
                                                      obtain ⟨ce1008, hce1008, hMe1008, hcc1008⟩ := Kd.N_get HO_5.out [] x13_4 p1008 (by first | exact q1008 | exact of_decide_eq_true (by first | (with_reducible assumption) | assumption) | (have e_ := (Kd.N_reads' HO_5.out).1; omega))
                                                      obtain ⟨ua1008_0, uc1008_0, rfl, ul1008_0, ge1008_0⟩ := Kd.FK_slice_open hMe1008
                                                      have hv1008_0 := hcc1008 0 _ rfl
                                                      rw [Nat.add_zero, show ((Kd.slice 3 (Kd.int .i64))).sz = 1 from rfl, Nat.mul_one] at hv1008_0
                                                      replace hv1008_0 := Option.some.inj (hv1008_0.symm.trans hx1008_0)
                                                      injection hv1008_0 with hva_ hvn_ hvc_
                                                      rw [hva_] at ge1008_0
                                                      rw [hvc_] at ul1008_0
                                                      have HL1008_0 := Aside0.mk (show Kd.V (Kd.int .i64) 3 _ w.heap.size _ _ (rd_L1 t990 x13_4) from Kd.V_mk ul1008_0 ge1008_0)
                                                      clear hva_ hvn_ hvc_ ge1008_0 ul1008_0
                                                      clear hcc1008 hce1008
                                                      have HR1008_0 := Aside0.mk hi1008_0
                                                      have HC1008_0 := Aside0.mk hl1008_0
                                                      clear hi1008_0 hl1008_0
                                                      replace p1008 := eq_true p1008
                                                      replace q1008 := eq_true q1008
                                                      have hcz79_0 : wr.cell? ⟨gb982, 0, none⟩ = some (.int .i64 a0_0) := (blk_cell BK982.out 0).trans rfl
                                                      have hcz79_1 : wr.cell? ⟨gb982, 1, none⟩ = some (.slice A0_1 l0_1.length c0_1) := (blk_cell BK982.out 1).trans rfl
                                                      have hfz79_0 := blk_frozen BK982.out 0
                                                      have hfz79_1 := blk_frozen BK982.out 1
                                                      have p1009 : 0 ≤ (x14_5 : Int) := of_decide_eq_true (by first | (with_reducible assumption) | assumption)
                                                      have q1009 : x14_5 < (x11_3.length : Int) := of_decide_eq_true (by first | (with_reducible assumption) | assumption)
                                                      obtain ⟨ad1009, e1009, hx1009_0⟩ := Kd.at_int (Kd.R_reads' HO_11.out).2.2 x14_5 p1009 q1009
                                                      cases e1009
                                                      replace p1009 := eq_true p1009
                                                      replace q1009 := eq_true q1009
                                                      have p1010 : 0 ≤ (x14_5 : Int) := of_decide_eq_true (by first | (with_reducible assumption) | assumption)
                                                      have q1010 : x14_5 < (x11_3.length : Int) := of_decide_eq_true (by first | (with_reducible assumption) | assumption)
                                                      obtain ⟨ad1010, e1010, hx1010_0⟩ := Kd.at_int (Kd.R_reads' HO_11.out).2.2 x14_5 p1010 q1010
                                                      obtain rfl : ad1009 = ad1010 := (by injection e1010)
                                                      replace p1010 := eq_true p1010
                                                      replace q1010 := eq_true q1010
                                                      have p1011 : 0 ≤ (x13_4 : Int) := of_decide_eq_true (by first | (with_reducible assumption) | assumption)
                                                      have q1011 : x13_4 < (t990.length : Int) := of_decide_eq_true (by first | (with_reducible assumption) | assumption)
                                                      obtain ⟨ad1011, A1011_0, c1011_0, e1011, hx1011_0, hl1011_0, hi1011_0⟩ := at_L1 (Kd.N_reads' HO_5.out).2.2 x13_4 p1011 q1011
                                                      obtain rfl : ad1008 = ad1011 := (by injection e1011)
                                                      obtain ⟨ce1011, hce1011, hMe1011, hcc1011⟩ := Kd.N_get HO_5.out [] x13_4 p1011 (by first | exact q1011 | exact of_decide_eq_true (by first | (with_reducible assumption) | assumption) | (have e_ := (Kd.N_reads' HO_5.out).1; omega))
                                                      obtain ⟨ua1011_0, uc1011_0, rfl, ul1011_0, ge1011_0⟩ := Kd.FK_slice_open hMe1011
                                                      have hv1011_0 := hcc1011 0 _ rfl
                                                      rw [Nat.add_zero, show ((Kd.slice 3 (Kd.int .i64))).sz = 1 from rfl, Nat.mul_one] at hv1011_0
                                                      replace hv1011_0 := Option.some.inj (hv1011_0.symm.trans hx1011_0)
                                                      injection hv1011_0 with hva_ hvn_ hvc_
                                                      rw [hva_] at ge1011_0
                                                      rw [hvc_] at ul1011_0
                                                      have HL1011_0 := Aside0.mk (show Kd.V (Kd.int .i64) 3 _ w.heap.size _ _ (rd_L1 t990 x13_4) from Kd.V_mk ul1011_0 ge1011_0)
                                                      clear hva_ hvn_ hvc_ ge1011_0 ul1011_0
                                                      clear hcc1011 hce1011
                                                      have HR1011_0 := Aside0.mk hi1011_0
                                                      have HC1011_0 := Aside0.mk hl1011_0
                                                      clear hi1011_0 hl1011_0
                                                      replace p1011 := eq_true p1011
                                                      replace q1011 := eq_true q1011
                                                      have ea_ := Option.some.inj (hx1008_0.symm.trans hx1011_0)
                                                      injection ea_ with ea_ en_ ec_
                                                      subst ea_
                                                      subst ec_
                                                      clear en_
                                                      have p1015 : 0 ≤ (x13_4 : Int) := of_decide_eq_true (by first | (with_reducible assumption) | assumption)
                                                      have q1015 : x13_4 < (t990.length : Int) := of_decide_eq_true (by first | (with_reducible assumption) | assumption)
                                                      obtain ⟨ad1015, A1015_0, c1015_0, e1015, hx1015_0, hl1015_0, hi1015_0⟩ := at_L1 (Kd.N_reads' HO_5.out).2.2 x13_4 p1015 q1015
                                                      obtain rfl : ad1008 = ad1015 := (by injection e1015)
                                                      obtain ⟨ce1015, hce1015, hMe1015, hcc1015⟩ := Kd.N_get HO_5.out [] x13_4 p1015 (by first | exact q1015 | exact of_decide_eq_true (by first | (with_reducible assumption) | assumption) | (have e_ := (Kd.N_reads' HO_5.out).1; omega))
                                                      obtain ⟨ua1015_0, uc1015_0, rfl, ul1015_0, ge1015_0⟩ := Kd.FK_slice_open hMe1015
                                                      have hv1015_0 := hcc1015 0 _ rfl
                                                      rw [Nat.add_zero, show ((Kd.slice 3 (Kd.int .i64))).sz = 1 from rfl, Nat.mul_one] at hv1015_0
                                                      replace hv1015_0 := Option.some.inj (hv1015_0.symm.trans hx1015_0)
                                                      injection hv1015_0 with hva_ hvn_ hvc_
                                                      rw [hva_] at ge1015_0
                                                      rw [hvc_] at ul1015_0
                                                      have HL1015_0 := Aside0.mk (show Kd.V (Kd.int .i64) 3 _ w.heap.size _ _ (rd_L1 t990 x13_4) from Kd.V_mk ul1015_0 ge1015_0)
                                                      clear hva_ hvn_ hvc_ ge1015_0 ul1015_0
                                                      clear hcc1015 hce1015
                                                      have HR1015_0 := Aside0.mk hi1015_0
                                                      have HC1015_0 := Aside0.mk hl1015_0
                                                      clear hi1015_0 hl1015_0
                                                      replace p1015 := eq_true p1015
                                                      replace q1015 := eq_true q1015
                                                      have ea_ := Option.some.inj (hx1008_0.symm.trans hx1015_0)
                                                      injection ea_ with ea_ en_ ec_
                                                      subst ea_
                                                      subst ec_
                                                      clear en_
                                                      have p1016 : 0 ≤ (x14_5 : Int) := of_decide_eq_true (by first | (with_reducible assumption) | assumption)
                                                      have q1016 : x14_5 < (x11_3.length : Int) := of_decide_eq_true (by first | (with_reducible assumption) | assumption)
                                                      obtain ⟨ad1016, e1016, hx1016_0⟩ := Kd.at_int (Kd.R_reads' HO_11.out).2.2 x14_5 p1016 q1016
                                                      obtain rfl : ad1009 = ad1016 := (by injection e1016)
                                                      replace p1016 := eq_true p1016
                                                      replace q1016 := eq_true q1016
                                                      have p1017 : 0 ≤ ((rd x11_3 x14_5) : Int) := of_decide_eq_true (by first | (with_reducible assumption) | assumption)
                                                      have q1017 : (rd x11_3 x14_5) < ((rd_L1 t990 x13_4).length : Int) := of_decide_eq_true (by first | (with_reducible assumption) | assumption)
                                                      obtain ⟨ad1017, e1017, hx1017_0⟩ := Kd.at_int (by repeat (first | (with_reducible exact HR1015_0.out) | (with_reducible refine Kd.C_alloc ?_ _) | (with_reducible refine Kd.C_drewN ?_ _) | (with_reducible refine Kd.C_drew ?_) | exact HR1015_0.out)) (rd x11_3 x14_5) p1017 q1017
                                                      cases e1017
                                                      replace p1017 := eq_true p1017
                                                      replace q1017 := eq_true q1017
                                                      go_wp2
                                                      repeat (go_quiet (fail); try go_wp2)
                                                      go_ret
                                                      exact ⟨by first | rfl | (simp [errW_none, errW_some] <;> rfl) | (simp [*, errW_none, errW_some] <;> rfl), by repeat (first | (with_reducible first | exact HB.out | apply below_alloc | apply pw_below_drewN | apply below_drew1 | refine below_set ?_ GE982.out) | exact HB.out)⟩
                                                  · rw [if_neg c76] at H
                                                    exact absurd H (by simp)
                                                · rw [if_neg c75] at H
                                                  exact absurd H (by simp)
                                        · rw [if_neg c64] at H
                                          exact absurd H (by simp)
                                      · rw [if_neg c63] at H
                                        have c63b0 : (((rd_L1 t990 x13_4).length : Int) == (l0_1.length : Int)) = false := beq_eq_false_iff_ne.mpr c63
                                        have c63b1 : (((rd_L1 t990 x13_4).length : Int) != (l0_1.length : Int)) = true := bne_iff_ne.mpr c63
                                        have c63b2 : ((rd_L1 t990 x13_4).length == l0_1.length) = false := by first | simpa using c63 | (simp at c63 ⊢; omega)
                                        obtain rfl := Option.some.inj H
                                        have p1008 : 0 ≤ (x13_4 : Int) := of_decide_eq_true (by first | (with_reducible assumption) | assumption)
                                        have q1008 : x13_4 < (t990.length : Int) := of_decide_eq_true (by first | (with_reducible assumption) | assumption)
                                        obtain ⟨ad1008, A1008_0, c1008_0, e1008, hx1008_0, hl1008_0, hi1008_0⟩ := at_L1 (Kd.N_reads' HO_5.out).2.2 x13_4 p1008 q1008
                                        cases e1008
                                        obtain ⟨ce1008, hce1008, hMe1008, hcc1008⟩ := Kd.N_get HO_5.out [] x13_4 p1008 (by first | exact q1008 | exact of_decide_eq_true (by first | (with_reducible assumption) | assumption) | (have e_ := (Kd.N_reads' HO_5.out).1; omega))
                                        obtain ⟨ua1008_0, uc1008_0, rfl, ul1008_0, ge1008_0⟩ := Kd.FK_slice_open hMe1008
                                        have hv1008_0 := hcc1008 0 _ rfl
                                        rw [Nat.add_zero, show ((Kd.slice 3 (Kd.int .i64))).sz = 1 from rfl, Nat.mul_one] at hv1008_0
                                        replace hv1008_0 := Option.some.inj (hv1008_0.symm.trans hx1008_0)
                                        injection hv1008_0 with hva_ hvn_ hvc_
                                        rw [hva_] at ge1008_0
                                        rw [hvc_] at ul1008_0
                                        have HL1008_0 := Aside0.mk (show Kd.V (Kd.int .i64) 3 _ w.heap.size _ _ (rd_L1 t990 x13_4) from Kd.V_mk ul1008_0 ge1008_0)
                                        clear hva_ hvn_ hvc_ ge1008_0 ul1008_0
                                        clear hcc1008 hce1008
                                        have HR1008_0 := Aside0.mk hi1008_0
                                        have HC1008_0 := Aside0.mk hl1008_0
                                        clear hi1008_0 hl1008_0
                                        replace p1008 := eq_true p1008
                                        replace q1008 := eq_true q1008
                                        have hcz80_0 : wr.cell? ⟨gb982, 0, none⟩ = some (.int .i64 a0_0) := (blk_cell BK982.out 0).trans rfl
                                        have hcz80_1 : wr.cell? ⟨gb982, 1, none⟩ = some (.slice A0_1 l0_1.length c0_1) := (blk_cell BK982.out 1).trans rfl
                                        have hfz80_0 := blk_frozen BK982.out 0
                                        have hfz80_1 := blk_frozen BK982.out 1
                                        go_wp2
                                        repeat (go_quiet (fail); try go_wp2)
                                        go_ret
                                        exact ⟨by first | rfl | (simp [errW_none, errW_some] <;> rfl) | (simp [*, errW_none, errW_some] <;> rfl), by repeat (first | (with_reducible first | exact HB.out | apply below_alloc | apply pw_below_drewN | apply below_drew1 | refine below_set ?_ GE982.out) | exact HB.out)⟩
                                    · rw [if_neg c62] at H
                                      exact absurd H (by simp)
                                  · rw [if_neg c61] at H
                                    exact absurd H (by simp)
                                · rw [if_neg c60] at H
                                  have c60b0 : decide (x14_5 < (x11_3.length : Int)) = false := decide_eq_false c60
                                  clear c60
                                  have H' := Aside0.mk H
                                  clear H
                                  go_wp2
                                  repeat (go_quiet (fail); try go_wp2)
                                  go_roundg k5
                                  case measure => have := HJ2.out; have := HJ34.out; have := HK3.out; have := HK4.out; have := HK5.out; omega
                                  case rel => exact ⟨(wrap64 (x13_4 + 1)), (by first | rfl | (simp; done) | (simp [*]; done)), H', ⟨by have := HJ2.out; have := HJ34.out; have := HK3.out; have := HK4.out; have := HK5.out; omega⟩, ⟨by (with_reducible repeat (first | apply Kd.N_alloc | apply Kd.N_drewN | apply Kd.N_drew)); exact HO_5.out⟩, ⟨by (with_reducible repeat (first | apply Kd.R_alloc | apply Kd.R_drewN | apply Kd.R_drew)); exact HO_11.out⟩, ⟨by (with_reducible repeat (first | refine blk_drewN ?_ _ | refine blk_drew ?_ | refine blk_alloc ?_ _)); exact BK982.out⟩, ⟨by repeat (first | (with_reducible first | exact HB.out | apply below_alloc | apply pw_below_drewN | apply below_drew1 | refine below_set ?_ GE982.out) | exact HB.out)⟩⟩
                          · rw [if_neg c59] at H
                            have c59b0 : decide (x13_4 < (t990.length : Int)) = false := decide_eq_false c59
                            clear c59
                            obtain rfl := Option.some.inj H
                            go_wp2
                            repeat (go_quiet (fail); try go_wp2)
                            go_ret
                            exact ⟨by first | rfl | (simp [errW_none, errW_some] <;> rfl) | (simp [*, errW_none, errW_some] <;> rfl), by repeat (first | (with_reducible first | exact HB.out | apply below_alloc | apply pw_below_drewN | apply below_drew1 | refine below_set ?_ GE982.out) | exact HB.out)⟩
                    · rw [if_neg c55] at H
                      have c55b0 : ((x11_3.length : Int) == (t990.length : Int)) = false := beq_eq_false_iff_ne.mpr c55
                      have c55b1 : ((x11_3.length : Int) != (t990.length : Int)) = true := bne_iff_ne.mpr c55
                      have c55b2 : (x11_3.length == t990.length) = false := by first | simpa using c55 | (simp at c55 ⊢; omega)
                      obtain rfl := Option.some.inj H
                      obtain ⟨Ao81, co81, eo81⟩ := Kd.R_slice HO_9.out
                      subst eo81
                      obtain ⟨Ao82, co82, eo82⟩ := Kd.R_slice HO_11.out
                      subst eo82
                      obtain ⟨Ao83, co83, eo83⟩ := Kd.N_slice HO_5.out
                      subst eo83
                      go_wp2
                      repeat (go_quiet (fail); try go_wp2)
                      go_ret
                      exact ⟨by first | rfl | (simp [errW_none, errW_some] <;> rfl) | (simp [*, errW_none, errW_some] <;> rfl), by repeat (first | (with_reducible first | exact HB.out | apply below_alloc | apply pw_below_drewN | apply below_drew1 | refine below_set ?_ GE982.out) | exact HB.out)⟩

end Go.Proofs.Ytdpgdelimffjpaa.P
