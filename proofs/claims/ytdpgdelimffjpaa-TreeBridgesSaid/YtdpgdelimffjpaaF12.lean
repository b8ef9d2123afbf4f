-- Written by wip/drive.py (a prover's driver over the kit's print.py); hand-proved contracts stand among the printed ones. Lean checks it.
import Derived.Test.YtdpgdelimffjpaaFBase
import Derived.Test.YtdpgdelimffjpaaF31
import Derived.Test.YtdpgdelimffjpaaF49
import Derived.Test.YtdpgdelimffjpaaF51
import Derived.Test.YtdpgdelimffjpaaF55
import Derived.Test.YtdpgdelimffjpaaF56
import Derived.Test.YtdpgdelimffjpaaF57
import Derived.Test.YtdpgdelimffjpaaF59
import Derived.Test.YtdpgdelimffjpaaFA
import Derived.Test.YtdpgdelimffjpaaFB
import Derived.Test.YtdpgdelimffjpaaFC
namespace Go.Proofs.Ytdpgdelimffjpaa.P
open Go.RowKit Go.Proofs.YtdpgdelimffjpaaW.PrintWords Go.Proofs.YtdpgdelimffjpaaW.PrintLast Go.Proofs.YtdpgdelimffjpaaW.PrintMore
attribute [local go_sem] max2_int min2_int max_two min_two max_three min_three max_four min_four   -- for this text's walks alone
set_option linter.unusedVariables false
set_option linter.unusedSimpArgs false

/-! ### pylonlaw16_TreeBridges: function 12 -/
mutual
def pylonlaw16_TreeBridges.j0 : Nat → List Int → Bool → Int → List (S37) → Option (Bool)
  | 0, _, _, _, _ => none
  | k + 1, x1, x36, x703000, x703001 => if x36 = true then ((pylonlaw16_awake.f).bind fun t709 => (some t709)) else ((tree_Bridges.f k x703000 x703001 x1).bind fun bt710 => ((tree_Tree.f k x703000 x703001 x1).bind fun bt714 => ((tree_Cycles.f k x703000 x703001 x1).bind fun bt718 => ((net_In.f x703000 x703001 x1).bind fun bt722 => ((island_Count.f k x703000 x703001 x1).bind fun bt726 => (if bt710.2 = 0 then (if bt714.2 = 0 then (if bt718.2 = 0 then (if bt722.2 = 0 then (pylonlaw16_TreeBridges.j1 k x1 bt710.1 bt714.1 bt718.1 bt722.1 bt726.1 (bt726.2 != 0) x703000 x703001) else (pylonlaw16_TreeBridges.j1 k x1 bt710.1 bt714.1 bt718.1 bt722.1 bt726.1 true x703000 x703001)) else (pylonlaw16_TreeBridges.j1 k x1 bt710.1 bt714.1 bt718.1 bt722.1 bt726.1 true x703000 x703001)) else (pylonlaw16_TreeBridges.j1 k x1 bt710.1 bt714.1 bt718.1 bt722.1 bt726.1 true x703000 x703001)) else (pylonlaw16_TreeBridges.j1 k x1 bt710.1 bt714.1 bt718.1 bt722.1 bt726.1 true x703000 x703001)))))))
def pylonlaw16_TreeBridges.j1 : Nat → List Int → List Int → List Int → List (List Int) → List Int → Int → Bool → Int → List (S37) → Option (Bool)
  | 0, _, _, _, _, _, _, _, _, _ => none
  | k + 1, x1, x5, x7, x9, x11, x13, x85, x703000, x703001 => if x85 = true then (some false) else (pylonlaw16_TreeBridges.l0 k x1 x5 x7 x9 x11 x13 0 x703000 x703001)
def pylonlaw16_TreeBridges.l0 : Nat → List Int → List Int → List Int → List (List Int) → List Int → Int → Int → Int → List (S37) → Option (Bool)
  | 0, _, _, _, _, _, _, _, _, _ => none
  | k + 1, x1, x5, x7, x9, x11, x13, x15, x703000, x703001 => if x15 < (x11.length : Int) then (pylonlaw16_TreeBridges.l1 k x1 x5 x7 x9 x11 x13 x15 false 0 x703000 x703001) else (pylonlaw16_TreeBridges.l2 k x5 x11 0)
def pylonlaw16_TreeBridges.l1 : Nat → List Int → List Int → List Int → List (List Int) → List Int → Int → Int → Bool → Int → Int → List (S37) → Option (Bool)
  | 0, _, _, _, _, _, _, _, _, _, _, _ => none
  | k + 1, x1, x5, x7, x9, x11, x13, x15, x16, x17, x703000, x703001 => if x17 < (x9.length : Int) then (if 0 ≤ x17 then (if ((rd_L1 x9 x17).length : Int) = (x703001.length : Int) then (if 0 ≤ x15 then (if x15 < (x11.length : Int) then (if (rd x11 x15) < 0 then (some false) else (if (rd x11 x15) ≥ (x703001.length : Int) then (some false) else (if x16 = true then (pylonlaw16_TreeBridges.l1 k x1 x5 x7 x9 x11 x13 x15 true (wrap64 (x17 + 1)) x703000 x703001) else (if 0 ≤ (rd x11 x15) then (if (rd x11 x15) < ((rd_L1 x9 x17).length : Int) then (pylonlaw16_TreeBridges.l1 k x1 x5 x7 x9 x11 x13 x15 ((rd (rd_L1 x9 x17) (rd x11 x15)) != 0) (wrap64 (x17 + 1)) x703000 x703001) else (none)) else (none))))) else (none)) else (none)) else (some false)) else (none)) else (if 0 ≤ x15 then (if x15 < (x11.length : Int) then ((net_Union.f x1 (([rd x11 x15] : List Int))).bind fun bt738 => ((island_Count.f k x703000 x703001 bt738.1).bind fun bt742 => (if bt738.2 = 0 then (if bt742.2 = 0 then ((pylonlaw16_has.f k x5 (rd x11 x15)).bind fun t745 => (if (t745 != (bt742.1 == (wrap64 (x13 + 1)))) = true then (some false) else ((pylonlaw16_has.f k x5 (rd x11 x15)).bind fun t747 => (if (t747 == x16) = true then (some false) else ((pylonlaw16_has.f k x5 (rd x11 x15)).bind fun t749 => (if t749 = true then ((pylonlaw16_has.f k x7 (rd x11 x15)).bind fun t751 => (if t751 = true then (pylonlaw16_TreeBridges.l0 k x1 x5 x7 x9 x11 x13 (wrap64 (x15 + 1)) x703000 x703001) else (some false))) else (pylonlaw16_TreeBridges.l0 k x1 x5 x7 x9 x11 x13 (wrap64 (x15 + 1)) x703000 x703001))))))) else (some false)) else (some false)))) else (none)) else (none))
def pylonlaw16_TreeBridges.l2 : Nat → List Int → List Int → Int → Option (Bool)
  | 0, _, _, _ => none
  | k + 1, x5, x11, x22 => if x22 < (x5.length : Int) then (if 0 ≤ x22 then ((pylonlaw16_has.f k x11 (rd x5 x22)).bind fun t753 => (if t753 = true then (if x22 > 0 then (if 0 ≤ (wrap64 (x22 - 1)) then (if (wrap64 (x22 - 1)) < (x5.length : Int) then (if (rd x5 x22) ≤ (rd x5 (wrap64 (x22 - 1))) then (some false) else (pylonlaw16_TreeBridges.l2 k x5 x11 (wrap64 (x22 + 1)))) else (none)) else (none)) else (pylonlaw16_TreeBridges.l2 k x5 x11 (wrap64 (x22 + 1)))) else (some false))) else (none)) else (some true)
end
def pylonlaw16_TreeBridges.f (k : Nat) (a0_0 : Int) (l0_1 : List (S37)) (l1 : List Int) : Option (Bool) := (pylonlaw14_Long.f k a0_0 l0_1 (([l1] : List (List Int)))).bind fun t706 => (if t706 = true then (pylonlaw16_TreeBridges.j0 k l1 true a0_0 l0_1) else ((pylonlaw16_awake.f).bind fun t707 => (if t707 = true then ((net_Outs.f k a0_0 l0_1 l1).bind fun t708 => (pylonlaw16_TreeBridges.j0 k l1 (t708 != 0) a0_0 l0_1)) else (pylonlaw16_TreeBridges.j0 k l1 true a0_0 l0_1))))
theorem pylonlaw16_TreeBridges.mono_l : ∀ k, (∀ y0 y1 y2 y3, LeO (pylonlaw16_TreeBridges.j0 k y0 y1 y2 y3) (pylonlaw16_TreeBridges.j0 (k + 1) y0 y1 y2 y3)) ∧ (∀ y0 y1 y2 y3 y4 y5 y6 y7 y8, LeO (pylonlaw16_TreeBridges.j1 k y0 y1 y2 y3 y4 y5 y6 y7 y8) (pylonlaw16_TreeBridges.j1 (k + 1) y0 y1 y2 y3 y4 y5 y6 y7 y8)) ∧ (∀ y0 y1 y2 y3 y4 y5 y6 y7 y8, LeO (pylonlaw16_TreeBridges.l0 k y0 y1 y2 y3 y4 y5 y6 y7 y8) (pylonlaw16_TreeBridges.l0 (k + 1) y0 y1 y2 y3 y4 y5 y6 y7 y8)) ∧ (∀ y0 y1 y2 y3 y4 y5 y6 y7 y8 y9 y10, LeO (pylonlaw16_TreeBridges.l1 k y0 y1 y2 y3 y4 y5 y6 y7 y8 y9 y10) (pylonlaw16_TreeBridges.l1 (k + 1) y0 y1 y2 y3 y4 y5 y6 y7 y8 y9 y10)) ∧ (∀ y0 y1 y2, LeO (pylonlaw16_TreeBridges.l2 k y0 y1 y2) (pylonlaw16_TreeBridges.l2 (k + 1) y0 y1 y2))
  | 0 => ⟨fun _ _ _ _ r h => by simp [pylonlaw16_TreeBridges.j0] at h, fun _ _ _ _ _ _ _ _ _ r h => by simp [pylonlaw16_TreeBridges.j1] at h, fun _ _ _ _ _ _ _ _ _ r h => by simp [pylonlaw16_TreeBridges.l0] at h, fun _ _ _ _ _ _ _ _ _ _ _ r h => by simp [pylonlaw16_TreeBridges.l1] at h, fun _ _ _ r h => by simp [pylonlaw16_TreeBridges.l2] at h⟩
  | k + 1 => by
    obtain ⟨ih0, ih1, ih2, ih3, ih4⟩ := pylonlaw16_TreeBridges.mono_l k
    refine ⟨?_, ?_, ?_, ?_, ?_⟩
    · intro y0 y1 y2 y3
      unfold pylonlaw16_TreeBridges.j0
      repeat' first
      | (with_reducible exact ih0 _ _ _ _)
      | (with_reducible exact ih1 _ _ _ _ _ _ _ _ _)
      | (with_reducible exact ih2 _ _ _ _ _ _ _ _ _)
      | (with_reducible exact ih3 _ _ _ _ _ _ _ _ _ _ _)
      | (with_reducible exact ih4 _ _ _)
      | (with_reducible exact island_Count.mono _ _ _ _)
      | (with_reducible exact net_Outs.mono _ _ _ _)
      | (with_reducible exact pylonlaw14_Long.mono _ _ _ _)
      | (with_reducible exact pylonlaw16_has.mono _ _ _)
      | (with_reducible exact tree_Bridges.mono _ _ _ _)
      | (with_reducible exact tree_Cycles.mono _ _ _ _)
      | (with_reducible exact tree_Tree.mono _ _ _ _)
      | (with_reducible exact LeO.refl _)
      | (with_reducible exact LeO.none _)
      | (with_reducible refine LeO.ite ?_ ?_)
      | (with_reducible refine LeO.bind ?_ (fun _ => ?_))
      | exact ih0 _ _ _ _
      | exact ih1 _ _ _ _ _ _ _ _ _
      | exact ih2 _ _ _ _ _ _ _ _ _
      | exact ih3 _ _ _ _ _ _ _ _ _ _ _
      | exact ih4 _ _ _
      | exact island_Count.mono _ _ _ _
      | exact net_Outs.mono _ _ _ _
      | exact pylonlaw14_Long.mono _ _ _ _
      | exact pylonlaw16_has.mono _ _ _
      | exact tree_Bridges.mono _ _ _ _
      | exact tree_Cycles.mono _ _ _ _
      | exact tree_Tree.mono _ _ _ _
      | exact LeO.none _
      | refine LeO.ite ?_ ?_
      | refine LeO.bind ?_ (fun _ => ?_)
    · intro y0 y1 y2 y3 y4 y5 y6 y7 y8
      unfold pylonlaw16_TreeBridges.j1
      repeat' first
      | (with_reducible exact ih0 _ _ _ _)
      | (with_reducible exact ih1 _ _ _ _ _ _ _ _ _)
      | (with_reducible exact ih2 _ _ _ _ _ _ _ _ _)
      | (with_reducible exact ih3 _ _ _ _ _ _ _ _ _ _ _)
      | (with_reducible exact ih4 _ _ _)
      | (with_reducible exact island_Count.mono _ _ _ _)
      | (with_reducible exact net_Outs.mono _ _ _ _)
      | (with_reducible exact pylonlaw14_Long.mono _ _ _ _)
      | (with_reducible exact pylonlaw16_has.mono _ _ _)
      | (with_reducible exact tree_Bridges.mono _ _ _ _)
      | (with_reducible exact tree_Cycles.mono _ _ _ _)
      | (with_reducible exact tree_Tree.mono _ _ _ _)
      | (with_reducible exact LeO.refl _)
      | (with_reducible exact LeO.none _)
      | (with_reducible refine LeO.ite ?_ ?_)
      | (with_reducible refine LeO.bind ?_ (fun _ => ?_))
      | exact ih0 _ _ _ _
      | exact ih1 _ _ _ _ _ _ _ _ _
      | exact ih2 _ _ _ _ _ _ _ _ _
      | exact ih3 _ _ _ _ _ _ _ _ _ _ _
      | exact ih4 _ _ _
      | exact island_Count.mono _ _ _ _
      | exact net_Outs.mono _ _ _ _
      | exact pylonlaw14_Long.mono _ _ _ _
      | exact pylonlaw16_has.mono _ _ _
      | exact tree_Bridges.mono _ _ _ _
      | exact tree_Cycles.mono _ _ _ _
      | exact tree_Tree.mono _ _ _ _
      | exact LeO.none _
      | refine LeO.ite ?_ ?_
      | refine LeO.bind ?_ (fun _ => ?_)
    · intro y0 y1 y2 y3 y4 y5 y6 y7 y8
      unfold pylonlaw16_TreeBridges.l0
      repeat' first
      | (with_reducible exact ih0 _ _ _ _)
      | (with_reducible exact ih1 _ _ _ _ _ _ _ _ _)
      | (with_reducible exact ih2 _ _ _ _ _ _ _ _ _)
      | (with_reducible exact ih3 _ _ _ _ _ _ _ _ _ _ _)
      | (with_reducible exact ih4 _ _ _)
      | (with_reducible exact island_Count.mono _ _ _ _)
      | (with_reducible exact net_Outs.mono _ _ _ _)
      | (with_reducible exact pylonlaw14_Long.mono _ _ _ _)
      | (with_reducible exact pylonlaw16_has.mono _ _ _)
      | (with_reducible exact tree_Bridges.mono _ _ _ _)
      | (with_reducible exact tree_Cycles.mono _ _ _ _)
      | (with_reducible exact tree_Tree.mono _ _ _ _)
      | (with_reducible exact LeO.refl _)
      | (with_reducible exact LeO.none _)
      | (with_reducible refine LeO.ite ?_ ?_)
      | (with_reducible refine LeO.bind ?_ (fun _ => ?_))
      | exact ih0 _ _ _ _
      | exact ih1 _ _ _ _ _ _ _ _ _
      | exact ih2 _ _ _ _ _ _ _ _ _
      | exact ih3 _ _ _ _ _ _ _ _ _ _ _
      | exact ih4 _ _ _
      | exact island_Count.mono _ _ _ _
      | exact net_Outs.mono _ _ _ _
      | exact pylonlaw14_Long.mono _ _ _ _
      | exact pylonlaw16_has.mono _ _ _
      | exact tree_Bridges.mono _ _ _ _
      | exact tree_Cycles.mono _ _ _ _
      | exact tree_Tree.mono _ _ _ _
      | exact LeO.none _
      | refine LeO.ite ?_ ?_
      | refine LeO.bind ?_ (fun _ => ?_)
    · intro y0 y1 y2 y3 y4 y5 y6 y7 y8 y9 y10
      unfold pylonlaw16_TreeBridges.l1
      repeat' first
      | (with_reducible exact ih0 _ _ _ _)
      | (with_reducible exact ih1 _ _ _ _ _ _ _ _ _)
      | (with_reducible exact ih2 _ _ _ _ _ _ _ _ _)
      | (with_reducible exact ih3 _ _ _ _ _ _ _ _ _ _ _)
      | (with_reducible exact ih4 _ _ _)
      | (with_reducible exact island_Count.mono _ _ _ _)
      | (with_reducible exact net_Outs.mono _ _ _ _)
      | (with_reducible exact pylonlaw14_Long.mono _ _ _ _)
      | (with_reducible exact pylonlaw16_has.mono _ _ _)
      | (with_reducible exact tree_Bridges.mono _ _ _ _)
      | (with_reducible exact tree_Cycles.mono _ _ _ _)
      | (with_reducible exact tree_Tree.mono _ _ _ _)
      | (with_reducible exact LeO.refl _)
      | (with_reducible exact LeO.none _)
      | (with_reducible refine LeO.ite ?_ ?_)
      | (with_reducible refine LeO.bind ?_ (fun _ => ?_))
      | exact ih0 _ _ _ _
      | exact ih1 _ _ _ _ _ _ _ _ _
      | exact ih2 _ _ _ _ _ _ _ _ _
      | exact ih3 _ _ _ _ _ _ _ _ _ _ _
      | exact ih4 _ _ _
      | exact island_Count.mono _ _ _ _
      | exact net_Outs.mono _ _ _ _
      | exact pylonlaw14_Long.mono _ _ _ _
      | exact pylonlaw16_has.mono _ _ _
      | exact tree_Bridges.mono _ _ _ _
      | exact tree_Cycles.mono _ _ _ _
      | exact tree_Tree.mono _ _ _ _
      | exact LeO.none _
      | refine LeO.ite ?_ ?_
      | refine LeO.bind ?_ (fun _ => ?_)
    · intro y0 y1 y2
      unfold pylonlaw16_TreeBridges.l2
      repeat' first
      | (with_reducible exact ih0 _ _ _ _)
      | (with_reducible exact ih1 _ _ _ _ _ _ _ _ _)
      | (with_reducible exact ih2 _ _ _ _ _ _ _ _ _)
      | (with_reducible exact ih3 _ _ _ _ _ _ _ _ _ _ _)
      | (with_reducible exact ih4 _ _ _)
      | (with_reducible exact island_Count.mono _ _ _ _)
      | (with_reducible exact net_Outs.mono _ _ _ _)
      | (with_reducible exact pylonlaw14_Long.mono _ _ _ _)
      | (with_reducible exact pylonlaw16_has.mono _ _ _)
      | (with_reducible exact tree_Bridges.mono _ _ _ _)
      | (with_reducible exact tree_Cycles.mono _ _ _ _)
      | (with_reducible exact tree_Tree.mono _ _ _ _)
      | (with_reducible exact LeO.refl _)
      | (with_reducible exact LeO.none _)
      | (with_reducible refine LeO.ite ?_ ?_)
      | (with_reducible refine LeO.bind ?_ (fun _ => ?_))
      | exact ih0 _ _ _ _
      | exact ih1 _ _ _ _ _ _ _ _ _
      | exact ih2 _ _ _ _ _ _ _ _ _
      | exact ih3 _ _ _ _ _ _ _ _ _ _ _
      | exact ih4 _ _ _
      | exact island_Count.mono _ _ _ _
      | exact net_Outs.mono _ _ _ _
      | exact pylonlaw14_Long.mono _ _ _ _
      | exact pylonlaw16_has.mono _ _ _
      | exact tree_Bridges.mono _ _ _ _
      | exact tree_Cycles.mono _ _ _ _
      | exact tree_Tree.mono _ _ _ _
      | exact LeO.none _
      | refine LeO.ite ?_ ?_
      | refine LeO.bind ?_ (fun _ => ?_)
theorem pylonlaw16_TreeBridges.mono : ∀ a0 a1 a2 k, LeO (pylonlaw16_TreeBridges.f k a0 a1 a2) (pylonlaw16_TreeBridges.f (k + 1) a0 a1 a2) := by
  intro a0 a1 a2 k
  obtain ⟨ih0, ih1, ih2, ih3, ih4⟩ := pylonlaw16_TreeBridges.mono_l k
  unfold pylonlaw16_TreeBridges.f
  repeat' first
      | (with_reducible exact ih0 _ _ _ _)
      | (with_reducible exact ih1 _ _ _ _ _ _ _ _ _)
      | (with_reducible exact ih2 _ _ _ _ _ _ _ _ _)
      | (with_reducible exact ih3 _ _ _ _ _ _ _ _ _ _ _)
      | (with_reducible exact ih4 _ _ _)
      | (with_reducible exact island_Count.mono _ _ _ _)
      | (with_reducible exact net_Outs.mono _ _ _ _)
      | (with_reducible exact pylonlaw14_Long.mono _ _ _ _)
      | (with_reducible exact pylonlaw16_has.mono _ _ _)
      | (with_reducible exact tree_Bridges.mono _ _ _ _)
      | (with_reducible exact tree_Cycles.mono _ _ _ _)
      | (with_reducible exact tree_Tree.mono _ _ _ _)
      | (with_reducible exact LeO.refl _)
      | (with_reducible exact LeO.none _)
      | (with_reducible refine LeO.ite ?_ ?_)
      | (with_reducible refine LeO.bind ?_ (fun _ => ?_))
      | exact ih0 _ _ _ _
      | exact ih1 _ _ _ _ _ _ _ _ _
      | exact ih2 _ _ _ _ _ _ _ _ _
      | exact ih3 _ _ _ _ _ _ _ _ _ _ _
      | exact ih4 _ _ _
      | exact island_Count.mono _ _ _ _
      | exact net_Outs.mono _ _ _ _
      | exact pylonlaw14_Long.mono _ _ _ _
      | exact pylonlaw16_has.mono _ _ _
      | exact tree_Bridges.mono _ _ _ _
      | exact tree_Cycles.mono _ _ _ _
      | exact tree_Tree.mono _ _ _ _
      | exact LeO.none _
      | refine LeO.ite ?_ ?_
      | refine LeO.bind ?_ (fun _ => ?_)
set_option maxHeartbeats 8000000 in
set_option maxRecDepth 100000 in
theorem pylonlaw16_TreeBridges.calls (k : Nat) (a0_0 : Int) (A0_1 : Option Addr) (c0_1 : Nat) (l0_1 : List (S37)) (P1_ : Nat → Prop) (A1 : Option Addr) (c1 : Nat) (l1 : List Int) (r : Bool) (w : World) (hr0_1 : Kd.C k37 w A0_1 l0_1.length l0_1) (hc0_1 : l0_1.length ≤ c0_1) (hs1 : Kd.V (Kd.int .i64) 3 w w.heap.size (fun k_ => P1_ k_) (.slice A1 l1.length c1) l1) (h : pylonlaw16_TreeBridges.f k a0_0 l0_1 l1 = some r) :
    Calls Try.prog 12 #[.agg #[.int .i64 a0_0, .slice A0_1 l0_1.length c0_1], .slice A1 l1.length c1] w fun e w' => e = .returned (.bool r) ∧ Below w.heap.size w w' := by
  have hu24 := Try.underlying24
  have HR0_1 := Aside0.mk hr0_1
  have HC0_1 := Aside0.mk hc0_1
  clear hr0_1 hc0_1
  have HO1 := Aside0.mk (show Kd.V (Kd.int .i64) 3 w w.heap.size (fun k_ => (P1_ k_ ∨ w.heap.size ≤ k_)) (.slice A1 l1.length c1) l1 from Kd.V_mono hs1 (fun k_ hk => .inl hk))
  have HB := Aside0.mk (Below.refl w.heap.size w)
  have H : ((pylonlaw14_Long.f k a0_0 l0_1 (([l1] : List (List Int)))).bind fun t706 => (if t706 = true then (pylonlaw16_TreeBridges.j0 k l1 true a0_0 l0_1) else ((pylonlaw16_awake.f).bind fun t707 => (if t707 = true then ((net_Outs.f k a0_0 l0_1 l1).bind fun t708 => (pylonlaw16_TreeBridges.j0 k l1 (t708 != 0) a0_0 l0_1)) else (pylonlaw16_TreeBridges.j0 k l1 true a0_0 l0_1))))) = some r := h
  clear h
  have HC3 := Aside0.mk H
  clear H
  go_enter Try.func12, Try.ntmps12
  go_upto_region 1 with (first | ((with_reducible refine gate_dst (N := 2) rfl ?_); (try (refine gate_guard (by rfl) ?_; dsimp only)); refine box_event ?hg (N := 2) ?hd (cs := #[.int .i64 a0_0, .slice A0_1 l0_1.length c0_1]) (t := 24) ?hr ?_; (case hd => rfl); (case hg => rfl); (case hr => first | (go_simp; done) | (go_simp; rfl)); intro gb702 hg w4 hbox hb; have n0_ := Aside0.mk (Kd.V_below (Kd.V_elderB (by (with_reducible repeat (first | apply Kd.V_alloc | apply Kd.V_drewN | apply Kd.V_drew)); exact HO1.out) gb702 (Nat.le_of_eq hg.symm)) hb); have n1_ := Aside0.mk (below_step (by repeat (first | (with_reducible first | exact HB.out | apply below_alloc | apply pw_below_drewN | apply below_drew1) | exact HB.out)) hb); have n2_ := Aside0.mk (hbox); have n3_ := Aside0.mk ((by rw [hg]; exact (below_size (by repeat (first | (with_reducible first | exact HB.out | apply below_alloc | apply pw_below_drewN | apply below_drew1) | exact HB.out))) : w.heap.size ≤ gb702)); have n4_ := Aside0.mk ((by rw [hg]; exact (below_size (by repeat (first | (with_reducible first | exact HB.out | apply below_alloc | apply pw_below_drewN | apply below_drew1) | exact HB.out))) : w.heap.size ≤ gb702)); clear HO1; clear HB; have HO1 := n0_; have HB := n1_; have BK702 := n2_; have GW702 := n3_; have GE702 := n4_; clear n0_ n1_ n2_ n3_ n4_; clear hb hbox hg) | (go_quiet (fail)))
  (try simp only [Act.put, List.setIfInBounds_toArray, List.set_cons_zero, List.set_cons_succ])
  go_cut [36] (fun v36 wc => ∃ (kq : Nat) (x36_2 : Bool), v36 = .bool x36_2 ∧ Aside0 (pylonlaw16_TreeBridges.j0 kq l1 x36_2 a0_0 l0_1 = some r) ∧ Aside0 (kq ≤ k) ∧ Aside0 (Kd.V (Kd.int .i64) 3 wc w.heap.size (fun k_ => (P1_ k_ ∨ w.heap.size ≤ k_) ∧ k_ ≠ gb702) (.slice A1 l1.length c1) l1) ∧ Aside0 (wc.heap[gb702]? = some (.cells #[.int .i64 a0_0, (.slice A0_1 l0_1.length c0_1)] 24 (0, 0))) ∧ Aside0 (Below w.heap.size w wc))
  case first =>
    have H := HC3.out
    clear HC3
    obtain ⟨y703, hy703⟩ : ∃ y_ : List (List Int), y_ = (([l1] : List (List Int))) := ⟨_, rfl⟩
    replace H : ((pylonlaw14_Long.f k a0_0 l0_1 y703).bind fun t706 => (if t706 = true then (pylonlaw16_TreeBridges.j0 k l1 true a0_0 l0_1) else ((pylonlaw16_awake.f).bind fun t707 => (if t707 = true then ((net_Outs.f k a0_0 l0_1 l1).bind fun t708 => (pylonlaw16_TreeBridges.j0 k l1 (t708 != 0) a0_0 l0_1)) else (pylonlaw16_TreeBridges.j0 k l1 true a0_0 l0_1))))) = some r := by first | (rw [hy703]; with_reducible exact H) | (have H2_ := (Option.bind_some _ _).symm.trans H; rw [hy703]; with_reducible exact H2_) | (have H2_ := (Option.bind_some _ _).symm.trans H; with_reducible exact H2_) | with_reducible exact H | (rw [hy703]; exact H) | exact H
    have Ny703 := Aside0.mk hy703
    clear hy703
    replace H := Option.bind_eq_some_iff.mp H
    obtain ⟨t706, A50, H⟩ := H
    replace H : (if t706 = true then (pylonlaw16_TreeBridges.j0 k l1 true a0_0 l0_1) else ((pylonlaw16_awake.f).bind fun t707 => (if t707 = true then ((net_Outs.f k a0_0 l0_1 l1).bind fun t708 => (pylonlaw16_TreeBridges.j0 k l1 (t708 != 0) a0_0 l0_1)) else (pylonlaw16_TreeBridges.j0 k l1 true a0_0 l0_1)))) = some r := H
    have A5 := Aside0.mk A50
    clear A50
    by_cases c6 : t706 = true
    · as_aux_lemma =>
      subst c6
      have H1 : (pylonlaw16_TreeBridges.j0 k l1 true a0_0 l0_1) = some r := by rw [if_pos rfl] at H; exact H
      clear H
      have H := H1
      clear H1
      have H' := Aside0.mk H
      clear H
      have hcz7_0 : w4.cell? ⟨gb702, 0, none⟩ = some (.int .i64 a0_0) := (blk_cell BK702.out 0).trans rfl
      have hcz7_1 : w4.cell? ⟨gb702, 1, none⟩ = some (.slice A0_1 l0_1.length c0_1) := (blk_cell BK702.out 1).trans rfl
      have hfz7_0 := blk_frozen BK702.out 0
      have hfz7_1 := blk_frozen BK702.out 1
      go_wp2_with (first | ((with_reducible refine gate_dst (N := 25) rfl ?_); (try (refine gate_guard (by rfl) ?_; dsimp only)); refine Kd.N_lit (Kd.slice 3 (Kd.int .i64)) _ 25 ?hg (N' := 25) ?hd (xs := ([l1] : List (List Int))) (inner := [.slice A1 l1.length c1]) (ok := (fun k_ => (P1_ k_ ∨ w.heap.size ≤ k_) ∧ k_ ≠ gb702)) (okp := (fun k_ => (P1_ k_ ∨ w.heap.size ≤ k_) ∧ k_ ≠ gb702)) ?hr ?hp (fun _ hk => hk) ((show ∀ k_, w4.heap.size ≤ k_ → (fun k_ => (P1_ k_ ∨ w.heap.size ≤ k_) ∧ k_ ≠ gb702) k_ from fun k_ hk => ⟨(.inr (Nat.le_trans (below_size (by repeat (first | (with_reducible first | exact HB.out | apply below_alloc | apply pw_below_drewN | apply below_drew1 | refine below_set ?_ GE702.out) | exact HB.out))) hk)), Kd.freshB (g := gb702) (o := .cells #[.int .i64 a0_0, .slice A0_1 l0_1.length c0_1] 24 (0, 0)) (by (with_reducible repeat (first | refine blk_drewN ?_ _ | refine blk_drew ?_ | refine blk_alloc ?_ _)); exact BK702.out) k_ hk⟩) _ (Nat.le_refl _)) (Below.refl _ _) (Nat.le_refl _) (by simp) ?_; (case hd => rfl); (case hg => rfl); (case hr => first | (go_simp; done) | (go_simp; rfl)); (case hp => exact (Reps.one (show Kd.FK (Kd.slice 3 (Kd.int .i64)) _ _ l1 [.slice A1 l1.length c1] from (Kd.FK_slice_mk (Kd.V_reads' (Kd.V_mono (ok' := (fun k_ => (P1_ k_ ∨ w.heap.size ≤ k_) ∧ k_ ≠ gb702)) (HO1.out) (fun k_ hk => ⟨hk.1, hk.2⟩))).2.1 (Kd.V_F (Kd.V_mono (ok' := (fun k_ => (P1_ k_ ∨ w.heap.size ≤ k_) ∧ k_ ≠ gb702)) (HO1.out) (fun k_ hk => ⟨hk.1, hk.2⟩))))) (Reps.none _ _))); intro v704 w8 ho9 hb hg_ hnew_; clear hg_ hnew_; (first | rw [← Ny703.out] at ho9 | (simp only [Int.reduceToNat] at ho9; rw [← Ny703.out] at ho9)); have n0_ := Aside0.mk (Kd.V_elder' (by (with_reducible repeat (first | apply Kd.V_alloc | apply Kd.V_drewN | apply Kd.V_drew)); exact HO1.out) (Kd.N_base ho9) hb); have n1_ := Aside0.mk (Kd.N_lower ho9 (below_size (by repeat (first | (with_reducible first | exact HB.out | apply below_alloc | apply pw_below_drewN | apply below_drew1 | refine below_set ?_ GE702.out) | exact HB.out)))); have n2_ := Aside0.mk (blk_below (g := gb702) (o := .cells #[.int .i64 a0_0, .slice A0_1 l0_1.length c0_1] 24 (0, 0)) (by (with_reducible repeat (first | refine blk_drewN ?_ _ | refine blk_drew ?_ | refine blk_alloc ?_ _)); exact BK702.out) hb); have n3_ := Aside0.mk (below_step (by repeat (first | (with_reducible first | exact HB.out | apply below_alloc | apply pw_below_drewN | apply below_drew1 | refine below_set ?_ GE702.out) | exact HB.out)) hb); clear HO1; clear BK702; clear HB; have HO1 := n0_; have HO705 := n1_; have BK702 := n2_; have HB := n3_; clear n0_ n1_ n2_ n3_; clear hb ho9; obtain ⟨Ao10, co10, eo10⟩ := Kd.N_slice HO705.out; subst eo10) | (go_at_call 28; (with_reducible refine (pylonlaw14_Long.calls k a0_0 _ _ l0_1 _ _ y703 true _ ?side1 ?side2 ?side3 ?side4 A5.out).mono ?_); (case side1 => repeat (first | exact (Kd.C_below HR0_1.out HB.out) | (with_reducible refine Kd.C_alloc ?_ _) | (with_reducible refine Kd.C_drewN ?_ _) | (with_reducible refine Kd.C_drew ?_))); (case side2 => exact HC0_1.out); (case side3 => repeat (first | exact (Kd.N_reads' HO705.out).2.2 | (with_reducible refine Kd.C_alloc ?_ _) | (with_reducible refine Kd.C_drewN ?_ _) | (with_reducible refine Kd.C_drew ?_))); (case side4 => exact (Kd.N_reads' HO705.out).2.1); rintro e w11 ⟨rfl, hb⟩; have n0_ := Aside0.mk (Kd.V_below (by (with_reducible repeat (first | apply Kd.V_alloc | apply Kd.V_drewN | apply Kd.V_drew)); exact HO1.out) hb); have n1_ := Aside0.mk (Kd.N_below (by (with_reducible repeat (first | apply Kd.N_alloc | apply Kd.N_drewN | apply Kd.N_drew)); exact HO705.out) hb); have n2_ := Aside0.mk (blk_below (g := gb702) (o := .cells #[.int .i64 a0_0, .slice A0_1 l0_1.length c0_1] 24 (0, 0)) (by (with_reducible repeat (first | refine blk_drewN ?_ _ | refine blk_drew ?_ | refine blk_alloc ?_ _)); exact BK702.out) hb); have n3_ := Aside0.mk (below_step (by repeat (first | (with_reducible first | exact HB.out | apply below_alloc | apply pw_below_drewN | apply below_drew1 | refine below_set ?_ GE702.out) | exact HB.out)) hb); clear HO1; clear HO705; clear BK702; clear HB; have HO1 := n0_; have HO705 := n1_; have BK702 := n2_; have HB := n3_; clear n0_ n1_ n2_ n3_; (try clear hb); (try clear hb2); (try clear hk); (try clear hi)) | (go_quiet (fail)))
      go_meet
      case rel => exact ⟨_, (true), (by first | rfl | (simp; done) | (simp [*]; done)), H', ⟨by first | omega | exact Nat.le_refl _⟩, ⟨by (with_reducible repeat (first | apply Kd.V_alloc | apply Kd.V_drewN | apply Kd.V_drew)); exact Kd.V_mono HO1.out (fun _ hk => ⟨hk.1.1, hk.1.2⟩)⟩, ⟨by (with_reducible repeat (first | refine blk_drewN ?_ _ | refine blk_drew ?_ | refine blk_alloc ?_ _)); exact BK702.out⟩, ⟨by repeat (first | (with_reducible first | exact HB.out | apply below_alloc | apply pw_below_drewN | apply below_drew1 | refine below_set ?_ GE702.out) | exact HB.out)⟩⟩
    · as_aux_lemma =>
      replace c6 := Bool.eq_false_iff.mpr c6
      subst c6
      have H1 : ((pylonlaw16_awake.f).bind fun t707 => (if t707 = true then ((net_Outs.f k a0_0 l0_1 l1).bind fun t708 => (pylonlaw16_TreeBridges.j0 k l1 (t708 != 0) a0_0 l0_1)) else (pylonlaw16_TreeBridges.j0 k l1 true a0_0 l0_1))) = some r := by rw [if_neg (show ¬ (false = true) by decide)] at H; exact H
      clear H
      have H := H1
      clear H1
      replace H := Option.bind_eq_some_iff.mp H
      obtain ⟨t707, A120, H⟩ := H
      replace H : (if t707 = true then ((net_Outs.f k a0_0 l0_1 l1).bind fun t708 => (pylonlaw16_TreeBridges.j0 k l1 (t708 != 0) a0_0 l0_1)) else (pylonlaw16_TreeBridges.j0 k l1 true a0_0 l0_1)) = some r := H
      have A12 := Aside0.mk A120
      clear A120
      by_cases c13 : t707 = true
      · as_aux_lemma =>
        subst c13
        have H1 : ((net_Outs.f k a0_0 l0_1 l1).bind fun t708 => (pylonlaw16_TreeBridges.j0 k l1 (t708 != 0) a0_0 l0_1)) = some r := by rw [if_pos rfl] at H; exact H
        clear H
        have H := H1
        clear H1
        replace H := Option.bind_eq_some_iff.mp H
        obtain ⟨t708, A140, H⟩ := H
        replace H : (pylonlaw16_TreeBridges.j0 k l1 (t708 != 0) a0_0 l0_1) = some r := H
        have A14 := Aside0.mk A140
        clear A140
        have H' := Aside0.mk H
        clear H
        have hcz15_0 : w4.cell? ⟨gb702, 0, none⟩ = some (.int .i64 a0_0) := (blk_cell BK702.out 0).trans rfl
        have hcz15_1 : w4.cell? ⟨gb702, 1, none⟩ = some (.slice A0_1 l0_1.length c0_1) := (blk_cell BK702.out 1).trans rfl
        have hfz15_0 := blk_frozen BK702.out 0
        have hfz15_1 := blk_frozen BK702.out 1
        go_wp2_with (first | ((with_reducible refine gate_dst (N := 25) rfl ?_); (try (refine gate_guard (by rfl) ?_; dsimp only)); refine Kd.N_lit (Kd.slice 3 (Kd.int .i64)) _ 25 ?hg (N' := 25) ?hd (xs := ([l1] : List (List Int))) (inner := [.slice A1 l1.length c1]) (ok := (fun k_ => (P1_ k_ ∨ w.heap.size ≤ k_) ∧ k_ ≠ gb702)) (okp := (fun k_ => (P1_ k_ ∨ w.heap.size ≤ k_) ∧ k_ ≠ gb702)) ?hr ?hp (fun _ hk => hk) ((show ∀ k_, w4.heap.size ≤ k_ → (fun k_ => (P1_ k_ ∨ w.heap.size ≤ k_) ∧ k_ ≠ gb702) k_ from fun k_ hk => ⟨(.inr (Nat.le_trans (below_size (by repeat (first | (with_reducible first | exact HB.out | apply below_alloc | apply pw_below_drewN | apply below_drew1 | refine below_set ?_ GE702.out) | exact HB.out))) hk)), Kd.freshB (g := gb702) (o := .cells #[.int .i64 a0_0, .slice A0_1 l0_1.length c0_1] 24 (0, 0)) (by (with_reducible repeat (first | refine blk_drewN ?_ _ | refine blk_drew ?_ | refine blk_alloc ?_ _)); exact BK702.out) k_ hk⟩) _ (Nat.le_refl _)) (Below.refl _ _) (Nat.le_refl _) (by simp) ?_; (case hd => rfl); (case hg => rfl); (case hr => first | (go_simp; done) | (go_simp; rfl)); (case hp => exact (Reps.one (show Kd.FK (Kd.slice 3 (Kd.int .i64)) _ _ l1 [.slice A1 l1.length c1] from (Kd.FK_slice_mk (Kd.V_reads' (Kd.V_mono (ok' := (fun k_ => (P1_ k_ ∨ w.heap.size ≤ k_) ∧ k_ ≠ gb702)) (HO1.out) (fun k_ hk => ⟨hk.1, hk.2⟩))).2.1 (Kd.V_F (Kd.V_mono (ok' := (fun k_ => (P1_ k_ ∨ w.heap.size ≤ k_) ∧ k_ ≠ gb702)) (HO1.out) (fun k_ hk => ⟨hk.1, hk.2⟩))))) (Reps.none _ _))); intro v704 w16 ho17 hb hg_ hnew_; clear hg_ hnew_; (first | rw [← Ny703.out] at ho17 | (simp only [Int.reduceToNat] at ho17; rw [← Ny703.out] at ho17)); have n0_ := Aside0.mk (Kd.V_elder' (by (with_reducible repeat (first | apply Kd.V_alloc | apply Kd.V_drewN | apply Kd.V_drew)); exact HO1.out) (Kd.N_base ho17) hb); have n1_ := Aside0.mk (Kd.N_lower ho17 (below_size (by repeat (first | (with_reducible first | exact HB.out | apply below_alloc | apply pw_below_drewN | apply below_drew1 | refine below_set ?_ GE702.out) | exact HB.out)))); have n2_ := Aside0.mk (blk_below (g := gb702) (o := .cells #[.int .i64 a0_0, .slice A0_1 l0_1.length c0_1] 24 (0, 0)) (by (with_reducible repeat (first | refine blk_drewN ?_ _ | refine blk_drew ?_ | refine blk_alloc ?_ _)); exact BK702.out) hb); have n3_ := Aside0.mk (below_step (by repeat (first | (with_reducible first | exact HB.out | apply below_alloc | apply pw_below_drewN | apply below_drew1 | refine below_set ?_ GE702.out) | exact HB.out)) hb); clear HO1; clear BK702; clear HB; have HO1 := n0_; have HO705 := n1_; have BK702 := n2_; have HB := n3_; clear n0_ n1_ n2_ n3_; clear hb ho17; obtain ⟨Ao18, co18, eo18⟩ := Kd.N_slice HO705.out; subst eo18) | (go_at_call 28; (with_reducible refine (pylonlaw14_Long.calls k a0_0 _ _ l0_1 _ _ y703 false _ ?side1 ?side2 ?side3 ?side4 A5.out).mono ?_); (case side1 => repeat (first | exact (Kd.C_below HR0_1.out HB.out) | (with_reducible refine Kd.C_alloc ?_ _) | (with_reducible refine Kd.C_drewN ?_ _) | (with_reducible refine Kd.C_drew ?_))); (case side2 => exact HC0_1.out); (case side3 => repeat (first | exact (Kd.N_reads' HO705.out).2.2 | (with_reducible refine Kd.C_alloc ?_ _) | (with_reducible refine Kd.C_drewN ?_ _) | (with_reducible refine Kd.C_drew ?_))); (case side4 => exact (Kd.N_reads' HO705.out).2.1); rintro e w19 ⟨rfl, hb⟩; have n0_ := Aside0.mk (Kd.V_below (by (with_reducible repeat (first | apply Kd.V_alloc | apply Kd.V_drewN | apply Kd.V_drew)); exact HO1.out) hb); have n1_ := Aside0.mk (Kd.N_below (by (with_reducible repeat (first | apply Kd.N_alloc | apply Kd.N_drewN | apply Kd.N_drew)); exact HO705.out) hb); have n2_ := Aside0.mk (blk_below (g := gb702) (o := .cells #[.int .i64 a0_0, .slice A0_1 l0_1.length c0_1] 24 (0, 0)) (by (with_reducible repeat (first | refine blk_drewN ?_ _ | refine blk_drew ?_ | refine blk_alloc ?_ _)); exact BK702.out) hb); have n3_ := Aside0.mk (below_step (by repeat (first | (with_reducible first | exact HB.out | apply below_alloc | apply pw_below_drewN | apply below_drew1 | refine below_set ?_ GE702.out) | exact HB.out)) hb); clear HO1; clear HO705; clear BK702; clear HB; have HO1 := n0_; have HO705 := n1_; have BK702 := n2_; have HB := n3_; clear n0_ n1_ n2_ n3_; (try clear hb); (try clear hb2); (try clear hk); (try clear hi)) | (go_at_call 51; (with_reducible refine (pylonlaw16_awake.calls  true _ A12.out).mono ?_); rintro e w20 ⟨rfl, hb⟩; have n0_ := Aside0.mk (Kd.V_below (by (with_reducible repeat (first | apply Kd.V_alloc | apply Kd.V_drewN | apply Kd.V_drew)); exact HO1.out) hb); have n1_ := Aside0.mk (Kd.N_below (by (with_reducible repeat (first | apply Kd.N_alloc | apply Kd.N_drewN | apply Kd.N_drew)); exact HO705.out) hb); have n2_ := Aside0.mk (blk_below (g := gb702) (o := .cells #[.int .i64 a0_0, .slice A0_1 l0_1.length c0_1] 24 (0, 0)) (by (with_reducible repeat (first | refine blk_drewN ?_ _ | refine blk_drew ?_ | refine blk_alloc ?_ _)); exact BK702.out) hb); have n3_ := Aside0.mk (below_step (by repeat (first | (with_reducible first | exact HB.out | apply below_alloc | apply pw_below_drewN | apply below_drew1 | refine below_set ?_ GE702.out) | exact HB.out)) hb); clear HO1; clear HO705; clear BK702; clear HB; have HO1 := n0_; have HO705 := n1_; have BK702 := n2_; have HB := n3_; clear n0_ n1_ n2_ n3_; (try clear hb); (try clear hb2); (try clear hk); (try clear hi); have hcz21_0 : w20.cell? ⟨gb702, 0, none⟩ = some (.int .i64 a0_0) := (blk_cell BK702.out 0).trans rfl; have hcz21_1 : w20.cell? ⟨gb702, 1, none⟩ = some (.slice A0_1 l0_1.length c0_1) := (blk_cell BK702.out 1).trans rfl; have hfz21_0 := blk_frozen BK702.out 0; have hfz21_1 := blk_frozen BK702.out 1) | (go_at_call 31; (with_reducible refine (net_Outs.calls k a0_0 _ _ l0_1 _ _ l1 t708 _ ?side1 ?side2 ?side3 ?side4 A14.out).mono ?_); (case side1 => repeat (first | exact (Kd.C_below HR0_1.out HB.out) | (with_reducible refine Kd.C_alloc ?_ _) | (with_reducible refine Kd.C_drewN ?_ _) | (with_reducible refine Kd.C_drew ?_))); (case side2 => exact HC0_1.out); (case side3 => repeat (first | exact (Kd.V_reads' HO1.out).2.2 | (with_reducible refine Kd.C_alloc ?_ _) | (with_reducible refine Kd.C_drewN ?_ _) | (with_reducible refine Kd.C_drew ?_))); (case side4 => exact (Kd.V_reads' HO1.out).2.1); rintro e w22 ⟨rfl, hb⟩; have n0_ := Aside0.mk (Kd.V_below (by (with_reducible repeat (first | apply Kd.V_alloc | apply Kd.V_drewN | apply Kd.V_drew)); exact HO1.out) hb); have n1_ := Aside0.mk (Kd.N_below (by (with_reducible repeat (first | apply Kd.N_alloc | apply Kd.N_drewN | apply Kd.N_drew)); exact HO705.out) hb); have n2_ := Aside0.mk (blk_below (g := gb702) (o := .cells #[.int .i64 a0_0, .slice A0_1 l0_1.length c0_1] 24 (0, 0)) (by (with_reducible repeat (first | refine blk_drewN ?_ _ | refine blk_drew ?_ | refine blk_alloc ?_ _)); exact BK702.out) hb); have n3_ := Aside0.mk (below_step (by repeat (first | (with_reducible first | exact HB.out | apply below_alloc | apply pw_below_drewN | apply below_drew1 | refine below_set ?_ GE702.out) | exact HB.out)) hb); clear HO1; clear HO705; clear BK702; clear HB; have HO1 := n0_; have HO705 := n1_; have BK702 := n2_; have HB := n3_; clear n0_ n1_ n2_ n3_; (try clear hb); (try clear hb2); (try clear hk); (try clear hi)) | (go_quiet (fail)))
        go_meet
        case rel => exact ⟨_, ((t708 != 0)), (by first | rfl | (simp; done) | (simp [*]; done)), H', ⟨by first | omega | exact Nat.le_refl _⟩, ⟨by (with_reducible repeat (first | apply Kd.V_alloc | apply Kd.V_drewN | apply Kd.V_drew)); exact Kd.V_mono HO1.out (fun _ hk => ⟨hk.1.1, hk.1.2⟩)⟩, ⟨by (with_reducible repeat (first | refine blk_drewN ?_ _ | refine blk_drew ?_ | refine blk_alloc ?_ _)); exact BK702.out⟩, ⟨by repeat (first | (with_reducible first | exact HB.out | apply below_alloc | apply pw_below_drewN | apply below_drew1 | refine below_set ?_ GE702.out) | exact HB.out)⟩⟩
      · as_aux_lemma =>
        replace c13 := Bool.eq_false_iff.mpr c13
        subst c13
        have H1 : (pylonlaw16_TreeBridges.j0 k l1 true a0_0 l0_1) = some r := by rw [if_neg (show ¬ (false = true) by decide)] at H; exact H
        clear H
        have H := H1
        clear H1
        have H' := Aside0.mk H
        clear H
        have hcz23_0 : w4.cell? ⟨gb702, 0, none⟩ = some (.int .i64 a0_0) := (blk_cell BK702.out 0).trans rfl
        have hcz23_1 : w4.cell? ⟨gb702, 1, none⟩ = some (.slice A0_1 l0_1.length c0_1) := (blk_cell BK702.out 1).trans rfl
        have hfz23_0 := blk_frozen BK702.out 0
        have hfz23_1 := blk_frozen BK702.out 1
        go_wp2_with (first | ((with_reducible refine gate_dst (N := 25) rfl ?_); (try (refine gate_guard (by rfl) ?_; dsimp only)); refine Kd.N_lit (Kd.slice 3 (Kd.int .i64)) _ 25 ?hg (N' := 25) ?hd (xs := ([l1] : List (List Int))) (inner := [.slice A1 l1.length c1]) (ok := (fun k_ => (P1_ k_ ∨ w.heap.size ≤ k_) ∧ k_ ≠ gb702)) (okp := (fun k_ => (P1_ k_ ∨ w.heap.size ≤ k_) ∧ k_ ≠ gb702)) ?hr ?hp (fun _ hk => hk) ((show ∀ k_, w4.heap.size ≤ k_ → (fun k_ => (P1_ k_ ∨ w.heap.size ≤ k_) ∧ k_ ≠ gb702) k_ from fun k_ hk => ⟨(.inr (Nat.le_trans (below_size (by repeat (first | (with_reducible first | exact HB.out | apply below_alloc | apply pw_below_drewN | apply below_drew1 | refine below_set ?_ GE702.out) | exact HB.out))) hk)), Kd.freshB (g := gb702) (o := .cells #[.int .i64 a0_0, .slice A0_1 l0_1.length c0_1] 24 (0, 0)) (by (with_reducible repeat (first | refine blk_drewN ?_ _ | refine blk_drew ?_ | refine blk_alloc ?_ _)); exact BK702.out) k_ hk⟩) _ (Nat.le_refl _)) (Below.refl _ _) (Nat.le_refl _) (by simp) ?_; (case hd => rfl); (case hg => rfl); (case hr => first | (go_simp; done) | (go_simp; rfl)); (case hp => exact (Reps.one (show Kd.FK (Kd.slice 3 (Kd.int .i64)) _ _ l1 [.slice A1 l1.length c1] from (Kd.FK_slice_mk (Kd.V_reads' (Kd.V_mono (ok' := (fun k_ => (P1_ k_ ∨ w.heap.size ≤ k_) ∧ k_ ≠ gb702)) (HO1.out) (fun k_ hk => ⟨hk.1, hk.2⟩))).2.1 (Kd.V_F (Kd.V_mono (ok' := (fun k_ => (P1_ k_ ∨ w.heap.size ≤ k_) ∧ k_ ≠ gb702)) (HO1.out) (fun k_ hk => ⟨hk.1, hk.2⟩))))) (Reps.none _ _))); intro v704 w24 ho25 hb hg_ hnew_; clear hg_ hnew_; (first | rw [← Ny703.out] at ho25 | (simp only [Int.reduceToNat] at ho25; rw [← Ny703.out] at ho25)); have n0_ := Aside0.mk (Kd.V_elder' (by (with_reducible repeat (first | apply Kd.V_alloc | apply Kd.V_drewN | apply Kd.V_drew)); exact HO1.out) (Kd.N_base ho25) hb); have n1_ := Aside0.mk (Kd.N_lower ho25 (below_size (by repeat (first | (with_reducible first | exact HB.out | apply below_alloc | apply pw_below_drewN | apply below_drew1 | refine below_set ?_ GE702.out) | exact HB.out)))); have n2_ := Aside0.mk (blk_below (g := gb702) (o := .cells #[.int .i64 a0_0, .slice A0_1 l0_1.length c0_1] 24 (0, 0)) (by (with_reducible repeat (first | refine blk_drewN ?_ _ | refine blk_drew ?_ | refine blk_alloc ?_ _)); exact BK702.out) hb); have n3_ := Aside0.mk (below_step (by repeat (first | (with_reducible first | exact HB.out | apply below_alloc | apply pw_below_drewN | apply below_drew1 | refine below_set ?_ GE702.out) | exact HB.out)) hb); clear HO1; clear BK702; clear HB; have HO1 := n0_; have HO705 := n1_; have BK702 := n2_; have HB := n3_; clear n0_ n1_ n2_ n3_; clear hb ho25; obtain ⟨Ao26, co26, eo26⟩ := Kd.N_slice HO705.out; subst eo26) | (go_at_call 28; (with_reducible refine (pylonlaw14_Long.calls k a0_0 _ _ l0_1 _ _ y703 false _ ?side1 ?side2 ?side3 ?side4 A5.out).mono ?_); (case side1 => repeat (first | exact (Kd.C_below HR0_1.out HB.out) | (with_reducible refine Kd.C_alloc ?_ _) | (with_reducible refine Kd.C_drewN ?_ _) | (with_reducible refine Kd.C_drew ?_))); (case side2 => exact HC0_1.out); (case side3 => repeat (first | exact (Kd.N_reads' HO705.out).2.2 | (with_reducible refine Kd.C_alloc ?_ _) | (with_reducible refine Kd.C_drewN ?_ _) | (with_reducible refine Kd.C_drew ?_))); (case side4 => exact (Kd.N_reads' HO705.out).2.1); rintro e w27 ⟨rfl, hb⟩; have n0_ := Aside0.mk (Kd.V_below (by (with_reducible repeat (first | apply Kd.V_alloc | apply Kd.V_drewN | apply Kd.V_drew)); exact HO1.out) hb); have n1_ := Aside0.mk (Kd.N_below (by (with_reducible repeat (first | apply Kd.N_alloc | apply Kd.N_drewN | apply Kd.N_drew)); exact HO705.out) hb); have n2_ := Aside0.mk (blk_below (g := gb702) (o := .cells #[.int .i64 a0_0, .slice A0_1 l0_1.length c0_1] 24 (0, 0)) (by (with_reducible repeat (first | refine blk_drewN ?_ _ | refine blk_drew ?_ | refine blk_alloc ?_ _)); exact BK702.out) hb); have n3_ := Aside0.mk (below_step (by repeat (first | (with_reducible first | exact HB.out | apply below_alloc | apply pw_below_drewN | apply below_drew1 | refine below_set ?_ GE702.out) | exact HB.out)) hb); clear HO1; clear HO705; clear BK702; clear HB; have HO1 := n0_; have HO705 := n1_; have BK702 := n2_; have HB := n3_; clear n0_ n1_ n2_ n3_; (try clear hb); (try clear hb2); (try clear hk); (try clear hi)) | (go_at_call 51; (with_reducible refine (pylonlaw16_awake.calls  false _ A12.out).mono ?_); rintro e w28 ⟨rfl, hb⟩; have n0_ := Aside0.mk (Kd.V_below (by (with_reducible repeat (first | apply Kd.V_alloc | apply Kd.V_drewN | apply Kd.V_drew)); exact HO1.out) hb); have n1_ := Aside0.mk (Kd.N_below (by (with_reducible repeat (first | apply Kd.N_alloc | apply Kd.N_drewN | apply Kd.N_drew)); exact HO705.out) hb); have n2_ := Aside0.mk (blk_below (g := gb702) (o := .cells #[.int .i64 a0_0, .slice A0_1 l0_1.length c0_1] 24 (0, 0)) (by (with_reducible repeat (first | refine blk_drewN ?_ _ | refine blk_drew ?_ | refine blk_alloc ?_ _)); exact BK702.out) hb); have n3_ := Aside0.mk (below_step (by repeat (first | (with_reducible first | exact HB.out | apply below_alloc | apply pw_below_drewN | apply below_drew1 | refine below_set ?_ GE702.out) | exact HB.out)) hb); clear HO1; clear HO705; clear BK702; clear HB; have HO1 := n0_; have HO705 := n1_; have BK702 := n2_; have HB := n3_; clear n0_ n1_ n2_ n3_; (try clear hb); (try clear hb2); (try clear hk); (try clear hi)) | (go_quiet (fail)))
        go_meet
        case rel => exact ⟨_, (true), (by first | rfl | (simp; done) | (simp [*]; done)), H', ⟨by first | omega | exact Nat.le_refl _⟩, ⟨by (with_reducible repeat (first | apply Kd.V_alloc | apply Kd.V_drewN | apply Kd.V_drew)); exact Kd.V_mono HO1.out (fun _ hk => ⟨hk.1.1, hk.1.2⟩)⟩, ⟨by (with_reducible repeat (first | refine blk_drewN ?_ _ | refine blk_drew ?_ | refine blk_alloc ?_ _)); exact BK702.out⟩, ⟨by repeat (first | (with_reducible first | exact HB.out | apply below_alloc | apply pw_below_drewN | apply below_drew1 | refine below_set ?_ GE702.out) | exact HB.out)⟩⟩
  case rest =>
    clear HC3
    try clear c1
    try clear p2
    try clear c6
    try clear c12
    try clear c13
    try clear hcz15_0
    try clear hcz15_1
    try clear hcz21_0
    try clear hcz21_1
    try clear hcz23_0
    try clear hcz23_1
    try clear hcz7_0
    try clear hcz7_1
    try clear hfz15_0
    try clear hfz15_1
    try clear hfz21_0
    try clear hfz21_1
    try clear hfz23_0
    try clear hfz23_1
    try clear hfz7_0
    try clear hfz7_1
    obtain ⟨kq, x36_2, rfl, HA, HJ2, HO_1, BK702, HB⟩ := hcut
    cases kq with
    | zero => exact absurd HA.out (by simp [pylonlaw16_TreeBridges.j0])
    | succ kj2 =>
      have H := HA.out
      clear HA
      simp only [pylonlaw16_TreeBridges.j0] at H
      by_cases c29 : x36_2 = true
      · as_aux_lemma =>
        subst c29
        have H1 : ((pylonlaw16_awake.f).bind fun t709 => (some t709)) = some r := by rw [if_pos rfl] at H; exact H
        clear H
        have H := H1
        clear H1
        replace H := Option.bind_eq_some_iff.mp H
        obtain ⟨t709, A300, H⟩ := H
        replace H : (some t709) = some r := H
        have A30 := Aside0.mk A300
        clear A300
        obtain rfl := Option.some.inj H
        go_wp2_with (first | (go_at_call 51; (with_reducible refine (pylonlaw16_awake.calls  t709 _ A30.out).mono ?_); rintro e w31 ⟨rfl, hb⟩; have n0_ := Aside0.mk (Kd.V_below (by (with_reducible repeat (first | apply Kd.V_alloc | apply Kd.V_drewN | apply Kd.V_drew)); exact HO_1.out) hb); have n1_ := Aside0.mk (blk_below (g := gb702) (o := .cells #[.int .i64 a0_0, .slice A0_1 l0_1.length c0_1] 24 (0, 0)) (by (with_reducible repeat (first | refine blk_drewN ?_ _ | refine blk_drew ?_ | refine blk_alloc ?_ _)); exact BK702.out) hb); have n2_ := Aside0.mk (below_step (by repeat (first | (with_reducible first | exact HB.out | apply below_alloc | apply pw_below_drewN | apply below_drew1 | refine below_set ?_ GE702.out) | exact HB.out)) hb); clear HO_1; clear BK702; clear HB; have HO_1 := n0_; have BK702 := n1_; have HB := n2_; clear n0_ n1_ n2_; (try clear hb); (try clear hb2); (try clear hk); (try clear hi)) | (go_quiet (fail)))
        go_ret
        exact ⟨by first | rfl | (simp [errW_none, errW_some] <;> rfl) | (simp [*, errW_none, errW_some] <;> rfl), by repeat (first | (with_reducible first | exact HB.out | apply below_alloc | apply pw_below_drewN | apply below_drew1 | refine below_set ?_ GE702.out) | exact HB.out)⟩
      · as_aux_lemma =>
        replace c29 := Bool.eq_false_iff.mpr c29
        subst c29
        have H1 : ((tree_Bridges.f kj2 a0_0 l0_1 l1).bind fun bt710 => ((tree_Tree.f kj2 a0_0 l0_1 l1).bind fun bt714 => ((tree_Cycles.f kj2 a0_0 l0_1 l1).bind fun bt718 => ((net_In.f a0_0 l0_1 l1).bind fun bt722 => ((island_Count.f kj2 a0_0 l0_1 l1).bind fun bt726 => (if bt710.2 = 0 then (if bt714.2 = 0 then (if bt718.2 = 0 then (if bt722.2 = 0 then (pylonlaw16_TreeBridges.j1 kj2 l1 bt710.1 bt714.1 bt718.1 bt722.1 bt726.1 (bt726.2 != 0) a0_0 l0_1) else (pylonlaw16_TreeBridges.j1 kj2 l1 bt710.1 bt714.1 bt718.1 bt722.1 bt726.1 true a0_0 l0_1)) else (pylonlaw16_TreeBridges.j1 kj2 l1 bt710.1 bt714.1 bt718.1 bt722.1 bt726.1 true a0_0 l0_1)) else (pylonlaw16_TreeBridges.j1 kj2 l1 bt710.1 bt714.1 bt718.1 bt722.1 bt726.1 true a0_0 l0_1)) else (pylonlaw16_TreeBridges.j1 kj2 l1 bt710.1 bt714.1 bt718.1 bt722.1 bt726.1 true a0_0 l0_1))))))) = some r := by rw [if_neg (show ¬ (false = true) by decide)] at H; exact H
        clear H
        have H := H1
        clear H1
        replace H := Option.bind_eq_some_iff.mp H
        obtain ⟨⟨t710, t713⟩, A320, H⟩ := H
        replace H : ((tree_Tree.f kj2 a0_0 l0_1 l1).bind fun bt714 => ((tree_Cycles.f kj2 a0_0 l0_1 l1).bind fun bt718 => ((net_In.f a0_0 l0_1 l1).bind fun bt722 => ((island_Count.f kj2 a0_0 l0_1 l1).bind fun bt726 => (if t713 = 0 then (if bt714.2 = 0 then (if bt718.2 = 0 then (if bt722.2 = 0 then (pylonlaw16_TreeBridges.j1 kj2 l1 t710 bt714.1 bt718.1 bt722.1 bt726.1 (bt726.2 != 0) a0_0 l0_1) else (pylonlaw16_TreeBridges.j1 kj2 l1 t710 bt714.1 bt718.1 bt722.1 bt726.1 true a0_0 l0_1)) else (pylonlaw16_TreeBridges.j1 kj2 l1 t710 bt714.1 bt718.1 bt722.1 bt726.1 true a0_0 l0_1)) else (pylonlaw16_TreeBridges.j1 kj2 l1 t710 bt714.1 bt718.1 bt722.1 bt726.1 true a0_0 l0_1)) else (pylonlaw16_TreeBridges.j1 kj2 l1 t710 bt714.1 bt718.1 bt722.1 bt726.1 true a0_0 l0_1)))))) = some r := H
        have A32 := Aside0.mk A320
        clear A320
        replace H := Option.bind_eq_some_iff.mp H
        obtain ⟨⟨t714, t717⟩, A330, H⟩ := H
        replace H : ((tree_Cycles.f kj2 a0_0 l0_1 l1).bind fun bt718 => ((net_In.f a0_0 l0_1 l1).bind fun bt722 => ((island_Count.f kj2 a0_0 l0_1 l1).bind fun bt726 => (if t713 = 0 then (if t717 = 0 then (if bt718.2 = 0 then (if bt722.2 = 0 then (pylonlaw16_TreeBridges.j1 kj2 l1 t710 t714 bt718.1 bt722.1 bt726.1 (bt726.2 != 0) a0_0 l0_1) else (pylonlaw16_TreeBridges.j1 kj2 l1 t710 t714 bt718.1 bt722.1 bt726.1 true a0_0 l0_1)) else (pylonlaw16_TreeBridges.j1 kj2 l1 t710 t714 bt718.1 bt722.1 bt726.1 true a0_0 l0_1)) else (pylonlaw16_TreeBridges.j1 kj2 l1 t710 t714 bt718.1 bt722.1 bt726.1 true a0_0 l0_1)) else (pylonlaw16_TreeBridges.j1 kj2 l1 t710 t714 bt718.1 bt722.1 bt726.1 true a0_0 l0_1))))) = some r := H
        have A33 := Aside0.mk A330
        clear A330
        replace H := Option.bind_eq_some_iff.mp H
        obtain ⟨⟨t718, t721⟩, A340, H⟩ := H
        replace H : ((net_In.f a0_0 l0_1 l1).bind fun bt722 => ((island_Count.f kj2 a0_0 l0_1 l1).bind fun bt726 => (if t713 = 0 then (if t717 = 0 then (if t721 = 0 then (if bt722.2 = 0 then (pylonlaw16_TreeBridges.j1 kj2 l1 t710 t714 t718 bt722.1 bt726.1 (bt726.2 != 0) a0_0 l0_1) else (pylonlaw16_TreeBridges.j1 kj2 l1 t710 t714 t718 bt722.1 bt726.1 true a0_0 l0_1)) else (pylonlaw16_TreeBridges.j1 kj2 l1 t710 t714 t718 bt722.1 bt726.1 true a0_0 l0_1)) else (pylonlaw16_TreeBridges.j1 kj2 l1 t710 t714 t718 bt722.1 bt726.1 true a0_0 l0_1)) else (pylonlaw16_TreeBridges.j1 kj2 l1 t710 t714 t718 bt722.1 bt726.1 true a0_0 l0_1)))) = some r := H
        have A34 := Aside0.mk A340
        clear A340
        replace H := Option.bind_eq_some_iff.mp H
        obtain ⟨⟨t722, t725⟩, A350, H⟩ := H
        replace H : ((island_Count.f kj2 a0_0 l0_1 l1).bind fun bt726 => (if t713 = 0 then (if t717 = 0 then (if t721 = 0 then (if t725 = 0 then (pylonlaw16_TreeBridges.j1 kj2 l1 t710 t714 t718 t722 bt726.1 (bt726.2 != 0) a0_0 l0_1) else (pylonlaw16_TreeBridges.j1 kj2 l1 t710 t714 t718 t722 bt726.1 true a0_0 l0_1)) else (pylonlaw16_TreeBridges.j1 kj2 l1 t710 t714 t718 t722 bt726.1 true a0_0 l0_1)) else (pylonlaw16_TreeBridges.j1 kj2 l1 t710 t714 t718 t722 bt726.1 true a0_0 l0_1)) else (pylonlaw16_TreeBridges.j1 kj2 l1 t710 t714 t718 t722 bt726.1 true a0_0 l0_1))) = some r := H
        have A35 := Aside0.mk A350
        clear A350
        replace H := Option.bind_eq_some_iff.mp H
        obtain ⟨⟨t726, t727⟩, A360, H⟩ := H
        replace H : (if t713 = 0 then (if t717 = 0 then (if t721 = 0 then (if t725 = 0 then (pylonlaw16_TreeBridges.j1 kj2 l1 t710 t714 t718 t722 t726 (t727 != 0) a0_0 l0_1) else (pylonlaw16_TreeBridges.j1 kj2 l1 t710 t714 t718 t722 t726 true a0_0 l0_1)) else (pylonlaw16_TreeBridges.j1 kj2 l1 t710 t714 t718 t722 t726 true a0_0 l0_1)) else (pylonlaw16_TreeBridges.j1 kj2 l1 t710 t714 t718 t722 t726 true a0_0 l0_1)) else (pylonlaw16_TreeBridges.j1 kj2 l1 t710 t714 t718 t722 t726 true a0_0 l0_1)) = some r := H
        have A36 := Aside0.mk A360
        clear A360
        have HC37 := Aside0.mk H
        clear H
        have hcz38_0 : wc.cell? ⟨gb702, 0, none⟩ = some (.int .i64 a0_0) := (blk_cell BK702.out 0).trans rfl
        have hcz38_1 : wc.cell? ⟨gb702, 1, none⟩ = some (.slice A0_1 l0_1.length c0_1) := (blk_cell BK702.out 1).trans rfl
        have hfz38_0 := blk_frozen BK702.out 0
        have hfz38_1 := blk_frozen BK702.out 1
        go_upto_region 8 with (first | (go_at_call 55; (with_reducible refine (tree_Bridges.calls kj2 a0_0 _ _ l0_1 _ _ l1 t710 t713 _ ?side1 ?side2 ?side3 ?side4 A32.out).mono ?_); (case side1 => repeat (first | exact (Kd.C_below HR0_1.out HB.out) | (with_reducible refine Kd.C_alloc ?_ _) | (with_reducible refine Kd.C_drewN ?_ _) | (with_reducible refine Kd.C_drew ?_))); (case side2 => exact HC0_1.out); (case side3 => repeat (first | exact (Kd.V_reads' HO_1.out).2.2 | (with_reducible refine Kd.C_alloc ?_ _) | (with_reducible refine Kd.C_drewN ?_ _) | (with_reducible refine Kd.C_drew ?_))); (case side4 => exact (Kd.V_reads' HO_1.out).2.1); rintro e w39 ⟨v711, rfl, ho0, hb⟩; have n0_ := Aside0.mk (Kd.V_elder' (by (with_reducible repeat (first | apply Kd.V_alloc | apply Kd.V_drewN | apply Kd.V_drew)); exact HO_1.out) (Kd.R_base ho0) hb); have n1_ := Aside0.mk (Kd.R_lower (Kd.R_newM (M := fun k_ => (w.heap.size ≤ k_)) ho0 (below_size (by repeat (first | (with_reducible first | exact HB.out | apply below_alloc | apply pw_below_drewN | apply below_drew1 | refine below_set ?_ GE702.out) | exact HB.out))) (fun k_ h_ => h_)) (below_size (by repeat (first | (with_reducible first | exact HB.out | apply below_alloc | apply pw_below_drewN | apply below_drew1 | refine below_set ?_ GE702.out) | exact HB.out)))); have n2_ := Aside0.mk (blk_below (g := gb702) (o := .cells #[.int .i64 a0_0, .slice A0_1 l0_1.length c0_1] 24 (0, 0)) (by (with_reducible repeat (first | refine blk_drewN ?_ _ | refine blk_drew ?_ | refine blk_alloc ?_ _)); exact BK702.out) hb); have n3_ := Aside0.mk (below_step (by repeat (first | (with_reducible first | exact HB.out | apply below_alloc | apply pw_below_drewN | apply below_drew1 | refine below_set ?_ GE702.out) | exact HB.out)) hb); clear HO_1; clear BK702; clear HB; have HO_1 := n0_; have HO712 := n1_; have BK702 := n2_; have HB := n3_; clear n0_ n1_ n2_ n3_; (try clear hb); (try clear hb2); (try clear hk); (try clear hi); (try clear ho0); have hcz40_0 : w39.cell? ⟨gb702, 0, none⟩ = some (.int .i64 a0_0) := (blk_cell BK702.out 0).trans rfl; have hcz40_1 : w39.cell? ⟨gb702, 1, none⟩ = some (.slice A0_1 l0_1.length c0_1) := (blk_cell BK702.out 1).trans rfl; have hfz40_0 := blk_frozen BK702.out 0; have hfz40_1 := blk_frozen BK702.out 1) | (go_at_call 56; (with_reducible refine (tree_Tree.calls kj2 a0_0 _ _ l0_1 _ _ l1 t714 t717 _ ?side1 ?side2 ?side3 ?side4 A33.out).mono ?_); (case side1 => repeat (first | exact (Kd.C_below HR0_1.out HB.out) | (with_reducible refine Kd.C_alloc ?_ _) | (with_reducible refine Kd.C_drewN ?_ _) | (with_reducible refine Kd.C_drew ?_))); (case side2 => exact HC0_1.out); (case side3 => repeat (first | exact (Kd.V_reads' HO_1.out).2.2 | (with_reducible refine Kd.C_alloc ?_ _) | (with_reducible refine Kd.C_drewN ?_ _) | (with_reducible refine Kd.C_drew ?_))); (case side4 => exact (Kd.V_reads' HO_1.out).2.1); rintro e w41 ⟨v715, rfl, ho0, hb⟩; have n0_ := Aside0.mk (Kd.V_elder' (by (with_reducible repeat (first | apply Kd.V_alloc | apply Kd.V_drewN | apply Kd.V_drew)); exact HO_1.out) (Kd.R_base ho0) hb); have n1_ := Aside0.mk (Kd.R_elder' (by (with_reducible repeat (first | apply Kd.R_alloc | apply Kd.R_drewN | apply Kd.R_drew)); exact HO712.out) (Kd.R_base ho0) hb); have n2_ := Aside0.mk (Kd.R_lower (Kd.R_new' (Kd.R_newM (M := fun k_ => (w.heap.size ≤ k_)) ho0 (below_size (by repeat (first | (with_reducible first | exact HB.out | apply below_alloc | apply pw_below_drewN | apply below_drew1 | refine below_set ?_ GE702.out) | exact HB.out))) (fun k_ h_ => h_)) (Kd.R_lt (by (with_reducible repeat (first | apply Kd.R_alloc | apply Kd.R_drewN | apply Kd.R_drew)); exact HO712.out))) (below_size (by repeat (first | (with_reducible first | exact HB.out | apply below_alloc | apply pw_below_drewN | apply below_drew1 | refine below_set ?_ GE702.out) | exact HB.out)))); have n3_ := Aside0.mk (blk_below (g := gb702) (o := .cells #[.int .i64 a0_0, .slice A0_1 l0_1.length c0_1] 24 (0, 0)) (by (with_reducible repeat (first | refine blk_drewN ?_ _ | refine blk_drew ?_ | refine blk_alloc ?_ _)); exact BK702.out) hb); have n4_ := Aside0.mk (below_step (by repeat (first | (with_reducible first | exact HB.out | apply below_alloc | apply pw_below_drewN | apply below_drew1 | refine below_set ?_ GE702.out) | exact HB.out)) hb); clear HO_1; clear HO712; clear BK702; clear HB; have HO_1 := n0_; have HO712 := n1_; have HO716 := n2_; have BK702 := n3_; have HB := n4_; clear n0_ n1_ n2_ n3_ n4_; (try clear hb); (try clear hb2); (try clear hk); (try clear hi); (try clear ho0); have hcz42_0 : w41.cell? ⟨gb702, 0, none⟩ = some (.int .i64 a0_0) := (blk_cell BK702.out 0).trans rfl; have hcz42_1 : w41.cell? ⟨gb702, 1, none⟩ = some (.slice A0_1 l0_1.length c0_1) := (blk_cell BK702.out 1).trans rfl; have hfz42_0 := blk_frozen BK702.out 0; have hfz42_1 := blk_frozen BK702.out 1) | (go_at_call 57; (with_reducible refine (tree_Cycles.calls kj2 a0_0 _ _ l0_1 _ _ l1 t718 t721 _ ?side1 ?side2 ?side3 ?side4 A34.out).mono ?_); (case side1 => repeat (first | exact (Kd.C_below HR0_1.out HB.out) | (with_reducible refine Kd.C_alloc ?_ _) | (with_reducible refine Kd.C_drewN ?_ _) | (with_reducible refine Kd.C_drew ?_))); (case side2 => exact HC0_1.out); (case side3 => repeat (first | exact (Kd.V_reads' HO_1.out).2.2 | (with_reducible refine Kd.C_alloc ?_ _) | (with_reducible refine Kd.C_drewN ?_ _) | (with_reducible refine Kd.C_drew ?_))); (case side4 => exact (Kd.V_reads' HO_1.out).2.1); rintro e w43 ⟨v719, rfl, ho0, hb⟩; have n0_ := Aside0.mk (Kd.V_elder' (by (with_reducible repeat (first | apply Kd.V_alloc | apply Kd.V_drewN | apply Kd.V_drew)); exact HO_1.out) (Kd.N_base (Kd.S_N ho0)) hb); have n1_ := Aside0.mk (Kd.R_below (by (with_reducible repeat (first | apply Kd.R_alloc | apply Kd.R_drewN | apply Kd.R_drew)); exact HO712.out) hb); have n2_ := Aside0.mk (Kd.R_below (by (with_reducible repeat (first | apply Kd.R_alloc | apply Kd.R_drewN | apply Kd.R_drew)); exact HO716.out) hb); have n3_ := Aside0.mk (Kd.N_lower (Kd.N_mono (ok' := fun k_ => (P1_ k_ ∨ w.heap.size ≤ k_) ∧ some k_ ≠ (v711 : Value).ownBlock ∧ some k_ ≠ (v715 : Value).ownBlock ∧ k_ ≠ gb702) (Kd.S_N (Kd.S_bound ho0)) (fun k_ hk_ => ⟨(.inr (Nat.le_trans (below_size (by repeat (first | (with_reducible first | exact HB.out | apply below_alloc | apply pw_below_drewN | apply below_drew1 | refine below_set ?_ GE702.out) | exact HB.out))) hk_.2.1)), (Kd.fresh' (Kd.R_lt (by (with_reducible repeat (first | apply Kd.R_alloc | apply Kd.R_drewN | apply Kd.R_drew)); exact HO712.out)) k_ hk_.2.1), (Kd.fresh' (Kd.R_lt (by (with_reducible repeat (first | apply Kd.R_alloc | apply Kd.R_drewN | apply Kd.R_drew)); exact HO716.out)) k_ hk_.2.1), (Kd.freshB (g := gb702) (o := .cells #[.int .i64 a0_0, .slice A0_1 l0_1.length c0_1] 24 (0, 0)) (by (with_reducible repeat (first | refine blk_drewN ?_ _ | refine blk_drew ?_ | refine blk_alloc ?_ _)); exact BK702.out) k_ hk_.2.1)⟩)) (below_size (by repeat (first | (with_reducible first | exact HB.out | apply below_alloc | apply pw_below_drewN | apply below_drew1 | refine below_set ?_ GE702.out) | exact HB.out)))); have n4_ := Aside0.mk (blk_below (g := gb702) (o := .cells #[.int .i64 a0_0, .slice A0_1 l0_1.length c0_1] 24 (0, 0)) (by (with_reducible repeat (first | refine blk_drewN ?_ _ | refine blk_drew ?_ | refine blk_alloc ?_ _)); exact BK702.out) hb); have n5_ := Aside0.mk (below_step (by repeat (first | (with_reducible first | exact HB.out | apply below_alloc | apply pw_below_drewN | apply below_drew1 | refine below_set ?_ GE702.out) | exact HB.out)) hb); clear HO_1; clear HO712; clear HO716; clear BK702; clear HB; have HO_1 := n0_; have HO712 := n1_; have HO716 := n2_; have HO720 := n3_; have BK702 := n4_; have HB := n5_; clear n0_ n1_ n2_ n3_ n4_ n5_; (try clear hb); (try clear hb2); (try clear hk); (try clear hi); (try clear ho0); have hcz44_0 : w43.cell? ⟨gb702, 0, none⟩ = some (.int .i64 a0_0) := (blk_cell BK702.out 0).trans rfl; have hcz44_1 : w43.cell? ⟨gb702, 1, none⟩ = some (.slice A0_1 l0_1.length c0_1) := (blk_cell BK702.out 1).trans rfl; have hfz44_0 := blk_frozen BK702.out 0; have hfz44_1 := blk_frozen BK702.out 1) | (go_at_call 59; (with_reducible refine (net_In.calls a0_0 _ _ l0_1 _ _ l1 t722 t725 _ ?side1 ?side2 ?side3 ?side4 A35.out).mono ?_); (case side1 => repeat (first | exact (Kd.C_below HR0_1.out HB.out) | (with_reducible refine Kd.C_alloc ?_ _) | (with_reducible refine Kd.C_drewN ?_ _) | (with_reducible refine Kd.C_drew ?_))); (case side2 => exact HC0_1.out); (case side3 => repeat (first | exact (Kd.V_reads' HO_1.out).2.2 | (with_reducible refine Kd.C_alloc ?_ _) | (with_reducible refine Kd.C_drewN ?_ _) | (with_reducible refine Kd.C_drew ?_))); (case side4 => exact (Kd.V_reads' HO_1.out).2.1); rintro e w45 ⟨v723, rfl, ho0, hb⟩; have n0_ := Aside0.mk (Kd.V_elder' (by (with_reducible repeat (first | apply Kd.V_alloc | apply Kd.V_drewN | apply Kd.V_drew)); exact HO_1.out) (Kd.R_base ho0) hb); have n1_ := Aside0.mk (Kd.R_elder' (by (with_reducible repeat (first | apply Kd.R_alloc | apply Kd.R_drewN | apply Kd.R_drew)); exact HO712.out) (Kd.R_base ho0) hb); have n2_ := Aside0.mk (Kd.R_elder' (by (with_reducible repeat (first | apply Kd.R_alloc | apply Kd.R_drewN | apply Kd.R_drew)); exact HO716.out) (Kd.R_base ho0) hb); have n3_ := Aside0.mk (Kd.N_elder' (by (with_reducible repeat (first | apply Kd.N_alloc | apply Kd.N_drewN | apply Kd.N_drew)); exact HO720.out) (Kd.R_base ho0) hb); have n4_ := Aside0.mk (Kd.R_lower (Kd.R_new' (Kd.R_new' (Kd.R_newM (M := fun k_ => (w.heap.size ≤ k_)) ho0 (below_size (by repeat (first | (with_reducible first | exact HB.out | apply below_alloc | apply pw_below_drewN | apply below_drew1 | refine below_set ?_ GE702.out) | exact HB.out))) (fun k_ h_ => h_)) (Kd.R_lt (by (with_reducible repeat (first | apply Kd.R_alloc | apply Kd.R_drewN | apply Kd.R_drew)); exact HO712.out))) (Kd.R_lt (by (with_reducible repeat (first | apply Kd.R_alloc | apply Kd.R_drewN | apply Kd.R_drew)); exact HO716.out))) (below_size (by repeat (first | (with_reducible first | exact HB.out | apply below_alloc | apply pw_below_drewN | apply below_drew1 | refine below_set ?_ GE702.out) | exact HB.out)))); have n5_ := Aside0.mk (blk_below (g := gb702) (o := .cells #[.int .i64 a0_0, .slice A0_1 l0_1.length c0_1] 24 (0, 0)) (by (with_reducible repeat (first | refine blk_drewN ?_ _ | refine blk_drew ?_ | refine blk_alloc ?_ _)); exact BK702.out) hb); have n6_ := Aside0.mk (below_step (by repeat (first | (with_reducible first | exact HB.out | apply below_alloc | apply pw_below_drewN | apply below_drew1 | refine below_set ?_ GE702.out) | exact HB.out)) hb); clear HO_1; clear HO712; clear HO716; clear HO720; clear BK702; clear HB; have HO_1 := n0_; have HO712 := n1_; have HO716 := n2_; have HO720 := n3_; have HO724 := n4_; have BK702 := n5_; have HB := n6_; clear n0_ n1_ n2_ n3_ n4_ n5_ n6_; (try clear hb); (try clear hb2); (try clear hk); (try clear hi); (try clear ho0); have hcz46_0 : w45.cell? ⟨gb702, 0, none⟩ = some (.int .i64 a0_0) := (blk_cell BK702.out 0).trans rfl; have hcz46_1 : w45.cell? ⟨gb702, 1, none⟩ = some (.slice A0_1 l0_1.length c0_1) := (blk_cell BK702.out 1).trans rfl; have hfz46_0 := blk_frozen BK702.out 0; have hfz46_1 := blk_frozen BK702.out 1) | (go_at_call 43; (with_reducible refine (island_Count.calls kj2 a0_0 _ _ l0_1 _ _ l1 t726 t727 _ ?side1 ?side2 ?side3 ?side4 A36.out).mono ?_); (case side1 => repeat (first | exact (Kd.C_below HR0_1.out HB.out) | (with_reducible refine Kd.C_alloc ?_ _) | (with_reducible refine Kd.C_drewN ?_ _) | (with_reducible refine Kd.C_drew ?_))); (case side2 => exact HC0_1.out); (case side3 => repeat (first | exact (Kd.V_reads' HO_1.out).2.2 | (with_reducible refine Kd.C_alloc ?_ _) | (with_reducible refine Kd.C_drewN ?_ _) | (with_reducible refine Kd.C_drew ?_))); (case side4 => exact (Kd.V_reads' HO_1.out).2.1); rintro e w47 ⟨rfl, hb⟩; have n0_ := Aside0.mk (Kd.V_below (by (with_reducible repeat (first | apply Kd.V_alloc | apply Kd.V_drewN | apply Kd.V_drew)); exact HO_1.out) hb); have n1_ := Aside0.mk (Kd.R_below (by (with_reducible repeat (first | apply Kd.R_alloc | apply Kd.R_drewN | apply Kd.R_drew)); exact HO712.out) hb); have n2_ := Aside0.mk (Kd.R_below (by (with_reducible repeat (first | apply Kd.R_alloc | apply Kd.R_drewN | apply Kd.R_drew)); exact HO716.out) hb); have n3_ := Aside0.mk (Kd.N_below (by (with_reducible repeat (first | apply Kd.N_alloc | apply Kd.N_drewN | apply Kd.N_drew)); exact HO720.out) hb); have n4_ := Aside0.mk (Kd.R_below (by (with_reducible repeat (first | apply Kd.R_alloc | apply Kd.R_drewN | apply Kd.R_drew)); exact HO724.out) hb); have n5_ := Aside0.mk (blk_below (g := gb702) (o := .cells #[.int .i64 a0_0, .slice A0_1 l0_1.length c0_1] 24 (0, 0)) (by (with_reducible repeat (first | refine blk_drewN ?_ _ | refine blk_drew ?_ | refine blk_alloc ?_ _)); exact BK702.out) hb); have n6_ := Aside0.mk (below_step (by repeat (first | (with_reducible first | exact HB.out | apply below_alloc | apply pw_below_drewN | apply below_drew1 | refine below_set ?_ GE702.out) | exact HB.out)) hb); clear HO_1; clear HO712; clear HO716; clear HO720; clear HO724; clear BK702; clear HB; have HO_1 := n0_; have HO712 := n1_; have HO716 := n2_; have HO720 := n3_; have HO724 := n4_; have BK702 := n5_; have HB := n6_; clear n0_ n1_ n2_ n3_ n4_ n5_ n6_; (try clear hb); (try clear hb2); (try clear hk); (try clear hi)) | (go_quiet (fail)))
        (try simp only [Act.put, List.setIfInBounds_toArray, List.set_cons_zero, List.set_cons_succ])
        go_cut [85] (fun v85 wc => ∃ (kq : Nat) (x85_36 : Bool), v85 = .bool x85_36 ∧ Aside0 (pylonlaw16_TreeBridges.j1 kq l1 t710 t714 t718 t722 t726 x85_36 a0_0 l0_1 = some r) ∧ Aside0 (kq ≤ kj2) ∧ Aside0 (Kd.V (Kd.int .i64) 3 wc w.heap.size (fun k_ => (P1_ k_ ∨ w.heap.size ≤ k_) ∧ some k_ ≠ (v711 : Value).ownBlock ∧ some k_ ≠ (v715 : Value).ownBlock ∧ some k_ ≠ (v719 : Value).ownBlock ∧ some k_ ≠ (v723 : Value).ownBlock ∧ k_ ≠ gb702) (.slice A1 l1.length c1) l1) ∧ Aside0 (Kd.R (Kd.int .i64) 3 wc w.heap.size (fun k_ => (w.heap.size ≤ k_) ∧ some k_ ≠ (v715 : Value).ownBlock ∧ some k_ ≠ (v723 : Value).ownBlock) v711 t710) ∧ Aside0 (Kd.R (Kd.int .i64) 3 wc w.heap.size (fun k_ => (w.heap.size ≤ k_) ∧ some k_ ≠ (v711 : Value).ownBlock ∧ some k_ ≠ (v723 : Value).ownBlock) v715 t714) ∧ Aside0 (Kd.N (Kd.slice 3 (Kd.int .i64)) 25 wc w.heap.size (fun k_ => (P1_ k_ ∨ w.heap.size ≤ k_) ∧ some k_ ≠ (v711 : Value).ownBlock ∧ some k_ ≠ (v715 : Value).ownBlock ∧ some k_ ≠ (v723 : Value).ownBlock ∧ k_ ≠ gb702) v719 t718) ∧ Aside0 (Kd.R (Kd.int .i64) 3 wc w.heap.size (fun k_ => (w.heap.size ≤ k_) ∧ some k_ ≠ (v711 : Value).ownBlock ∧ some k_ ≠ (v715 : Value).ownBlock) v723 t722) ∧ Aside0 (wc.heap[gb702]? = some (.cells #[.int .i64 a0_0, (.slice A0_1 l0_1.length c0_1)] 24 (0, 0))) ∧ Aside0 (Below w.heap.size w wc))
        case first =>
          have H := HC37.out
          clear HC37
          by_cases c48 : t713 = 0
          · rw [if_pos c48] at H
            have c48b0 : (t713 == 0) = true := beq_iff_eq.mpr c48
            have c48b1 : (t713 != 0) = false := bne_eq_false_iff_eq.mpr c48
            clear c48
            (first | rw [c48b0] | (simp only [i64_w, i32_w]; rw [c48b0]) | skip)
            by_cases c49 : t717 = 0
            · rw [if_pos c49] at H
              have c49b0 : (t717 == 0) = true := beq_iff_eq.mpr c49
              have c49b1 : (t717 != 0) = false := bne_eq_false_iff_eq.mpr c49
              clear c49
              by_cases c50 : t721 = 0
              · rw [if_pos c50] at H
                have c50b0 : (t721 == 0) = true := beq_iff_eq.mpr c50
                have c50b1 : (t721 != 0) = false := bne_eq_false_iff_eq.mpr c50
                clear c50
                by_cases c51 : t725 = 0
                · rw [if_pos c51] at H
                  have c51b0 : (t725 == 0) = true := beq_iff_eq.mpr c51
                  have c51b1 : (t725 != 0) = false := bne_eq_false_iff_eq.mpr c51
                  clear c51
                  have H' := Aside0.mk H
                  clear H
                  go_wp2
                  repeat (go_quiet (fail); try go_wp2)
                  go_meet
                  case rel => exact ⟨_, ((t727 != 0)), (by first | rfl | (simp; done) | (simp [*]; done)), H', ⟨by have := HJ2.out; first | omega | exact Nat.le_refl _⟩, ⟨by (with_reducible repeat (first | apply Kd.V_alloc | apply Kd.V_drewN | apply Kd.V_drew)); exact Kd.V_mono HO_1.out (fun _ hk => ⟨hk.1.1.1.1.1, ⟨hk.1.1.1.2, ⟨hk.1.1.2, ⟨hk.1.2, ⟨hk.2, hk.1.1.1.1.2⟩⟩⟩⟩⟩)⟩, ⟨by (with_reducible repeat (first | apply Kd.R_alloc | apply Kd.R_drewN | apply Kd.R_drew)); exact Kd.R_mono HO712.out (fun _ hk => ⟨hk.1.1.1, ⟨hk.1.2, hk.2⟩⟩)⟩, ⟨by (with_reducible repeat (first | apply Kd.R_alloc | apply Kd.R_drewN | apply Kd.R_drew)); exact Kd.R_mono HO716.out (fun _ hk => ⟨hk.1.1.1, ⟨hk.1.2, hk.2⟩⟩)⟩, ⟨by (with_reducible repeat (first | apply Kd.N_alloc | apply Kd.N_drewN | apply Kd.N_drew)); exact Kd.N_mono HO720.out (fun _ hk => ⟨hk.1.1, ⟨hk.1.2.1, ⟨hk.1.2.2.1, ⟨hk.2, hk.1.2.2.2⟩⟩⟩⟩)⟩, ⟨by (with_reducible repeat (first | apply Kd.R_alloc | apply Kd.R_drewN | apply Kd.R_drew)); exact Kd.R_mono HO724.out (fun _ hk => ⟨hk.1.1.1, ⟨hk.1.2, hk.2⟩⟩)⟩, ⟨by (with_reducible repeat (first | refine blk_drewN ?_ _ | refine blk_drew ?_ | refine blk_alloc ?_ _)); exact BK702.out⟩, ⟨by repeat (first | (with_reducible first | exact HB.out | apply below_alloc | apply pw_below_drewN | apply below_drew1 | refine below_set ?_ GE702.out) | exact HB.out)⟩⟩
                · rw [if_neg c51] at H
                  have c51b0 : (t725 == 0) = false := beq_eq_false_iff_ne.mpr c51
                  have c51b1 : (t725 != 0) = true := bne_iff_ne.mpr c51
                  have H' := Aside0.mk H
                  clear H
                  go_wp2
                  repeat (go_quiet (fail); try go_wp2)
                  go_meet
                  case rel => exact ⟨_, (true), (by first | rfl | (simp; done) | (simp [*]; done)), H', ⟨by have := HJ2.out; first | omega | exact Nat.le_refl _⟩, ⟨by (with_reducible repeat (first | apply Kd.V_alloc | apply Kd.V_drewN | apply Kd.V_drew)); exact Kd.V_mono HO_1.out (fun _ hk => ⟨hk.1.1.1.1.1, ⟨hk.1.1.1.2, ⟨hk.1.1.2, ⟨hk.1.2, ⟨hk.2, hk.1.1.1.1.2⟩⟩⟩⟩⟩)⟩, ⟨by (with_reducible repeat (first | apply Kd.R_alloc | apply Kd.R_drewN | apply Kd.R_drew)); exact Kd.R_mono HO712.out (fun _ hk => ⟨hk.1.1.1, ⟨hk.1.2, hk.2⟩⟩)⟩, ⟨by (with_reducible repeat (first | apply Kd.R_alloc | apply Kd.R_drewN | apply Kd.R_drew)); exact Kd.R_mono HO716.out (fun _ hk => ⟨hk.1.1.1, ⟨hk.1.2, hk.2⟩⟩)⟩, ⟨by (with_reducible repeat (first | apply Kd.N_alloc | apply Kd.N_drewN | apply Kd.N_drew)); exact Kd.N_mono HO720.out (fun _ hk => ⟨hk.1.1, ⟨hk.1.2.1, ⟨hk.1.2.2.1, ⟨hk.2, hk.1.2.2.2⟩⟩⟩⟩)⟩, ⟨by (with_reducible repeat (first | apply Kd.R_alloc | apply Kd.R_drewN | apply Kd.R_drew)); exact Kd.R_mono HO724.out (fun _ hk => ⟨hk.1.1.1, ⟨hk.1.2, hk.2⟩⟩)⟩, ⟨by (with_reducible repeat (first | refine blk_drewN ?_ _ | refine blk_drew ?_ | refine blk_alloc ?_ _)); exact BK702.out⟩, ⟨by repeat (first | (with_reducible first | exact HB.out | apply below_alloc | apply pw_below_drewN | apply below_drew1 | refine below_set ?_ GE702.out) | exact HB.out)⟩⟩
              · rw [if_neg c50] at H
                have c50b0 : (t721 == 0) = false := beq_eq_false_iff_ne.mpr c50
                have c50b1 : (t721 != 0) = true := bne_iff_ne.mpr c50
                have H' := Aside0.mk H
                clear H
                go_wp2
                repeat (go_quiet (fail); try go_wp2)
                go_meet
                case rel => exact ⟨_, (true), (by first | rfl | (simp; done) | (simp [*]; done)), H', ⟨by have := HJ2.out; first | omega | exact Nat.le_refl _⟩, ⟨by (with_reducible repeat (first | apply Kd.V_alloc | apply Kd.V_drewN | apply Kd.V_drew)); exact Kd.V_mono HO_1.out (fun _ hk => ⟨hk.1.1.1.1.1, ⟨hk.1.1.1.2, ⟨hk.1.1.2, ⟨hk.1.2, ⟨hk.2, hk.1.1.1.1.2⟩⟩⟩⟩⟩)⟩, ⟨by (with_reducible repeat (first | apply Kd.R_alloc | apply Kd.R_drewN | apply Kd.R_drew)); exact Kd.R_mono HO712.out (fun _ hk => ⟨hk.1.1.1, ⟨hk.1.2, hk.2⟩⟩)⟩, ⟨by (with_reducible repeat (first | apply Kd.R_alloc | apply Kd.R_drewN | apply Kd.R_drew)); exact Kd.R_mono HO716.out (fun _ hk => ⟨hk.1.1.1, ⟨hk.1.2, hk.2⟩⟩)⟩, ⟨by (with_reducible repeat (first | apply Kd.N_alloc | apply Kd.N_drewN | apply Kd.N_drew)); exact Kd.N_mono HO720.out (fun _ hk => ⟨hk.1.1, ⟨hk.1.2.1, ⟨hk.1.2.2.1, ⟨hk.2, hk.1.2.2.2⟩⟩⟩⟩)⟩, ⟨by (with_reducible repeat (first | apply Kd.R_alloc | apply Kd.R_drewN | apply Kd.R_drew)); exact Kd.R_mono HO724.out (fun _ hk => ⟨hk.1.1.1, ⟨hk.1.2, hk.2⟩⟩)⟩, ⟨by (with_reducible repeat (first | refine blk_drewN ?_ _ | refine blk_drew ?_ | refine blk_alloc ?_ _)); exact BK702.out⟩, ⟨by repeat (first | (with_reducible first | exact HB.out | apply below_alloc | apply pw_below_drewN | apply below_drew1 | refine below_set ?_ GE702.out) | exact HB.out)⟩⟩
            · rw [if_neg c49] at H
              have c49b0 : (t717 == 0) = false := beq_eq_false_iff_ne.mpr c49
              have c49b1 : (t717 != 0) = true := bne_iff_ne.mpr c49
              have H' := Aside0.mk H
              clear H
              go_wp2
              repeat (go_quiet (fail); try go_wp2)
              go_meet
              case rel => exact ⟨_, (true), (by first | rfl | (simp; done) | (simp [*]; done)), H', ⟨by have := HJ2.out; first | omega | exact Nat.le_refl _⟩, ⟨by (with_reducible repeat (first | apply Kd.V_alloc | apply Kd.V_drewN | apply Kd.V_drew)); exact Kd.V_mono HO_1.out (fun _ hk => ⟨hk.1.1.1.1.1, ⟨hk.1.1.1.2, ⟨hk.1.1.2, ⟨hk.1.2, ⟨hk.2, hk.1.1.1.1.2⟩⟩⟩⟩⟩)⟩, ⟨by (with_reducible repeat (first | apply Kd.R_alloc | apply Kd.R_drewN | apply Kd.R_drew)); exact Kd.R_mono HO712.out (fun _ hk => ⟨hk.1.1.1, ⟨hk.1.2, hk.2⟩⟩)⟩, ⟨by (with_reducible repeat (first | apply Kd.R_alloc | apply Kd.R_drewN | apply Kd.R_drew)); exact Kd.R_mono HO716.out (fun _ hk => ⟨hk.1.1.1, ⟨hk.1.2, hk.2⟩⟩)⟩, ⟨by (with_reducible repeat (first | apply Kd.N_alloc | apply Kd.N_drewN | apply Kd.N_drew)); exact Kd.N_mono HO720.out (fun _ hk => ⟨hk.1.1, ⟨hk.1.2.1, ⟨hk.1.2.2.1, ⟨hk.2, hk.1.2.2.2⟩⟩⟩⟩)⟩, ⟨by (with_reducible repeat (first | apply Kd.R_alloc | apply Kd.R_drewN | apply Kd.R_drew)); exact Kd.R_mono HO724.out (fun _ hk => ⟨hk.1.1.1, ⟨hk.1.2, hk.2⟩⟩)⟩, ⟨by (with_reducible repeat (first | refine blk_drewN ?_ _ | refine blk_drew ?_ | refine blk_alloc ?_ _)); exact BK702.out⟩, ⟨by repeat (first | (with_reducible first | exact HB.out | apply below_alloc | apply pw_below_drewN | apply below_drew1 | refine below_set ?_ GE702.out) | exact HB.out)⟩⟩
          · rw [if_neg c48] at H
            have c48b0 : (t713 == 0) = false := beq_eq_false_iff_ne.mpr c48
            have c48b1 : (t713 != 0) = true := bne_iff_ne.mpr c48
            (first | rw [c48b0] | (simp only [i64_w, i32_w]; rw [c48b0]) | skip)
            have H' := Aside0.mk H
            clear H
            go_wp2
            repeat (go_quiet (fail); try go_wp2)
            go_meet
            case rel => exact ⟨_, (true), (by first | rfl | (simp; done) | (simp [*]; done)), H', ⟨by have := HJ2.out; first | omega | exact Nat.le_refl _⟩, ⟨by (with_reducible repeat (first | apply Kd.V_alloc | apply Kd.V_drewN | apply Kd.V_drew)); exact Kd.V_mono HO_1.out (fun _ hk => ⟨hk.1.1.1.1.1, ⟨hk.1.1.1.2, ⟨hk.1.1.2, ⟨hk.1.2, ⟨hk.2, hk.1.1.1.1.2⟩⟩⟩⟩⟩)⟩, ⟨by (with_reducible repeat (first | apply Kd.R_alloc | apply Kd.R_drewN | apply Kd.R_drew)); exact Kd.R_mono HO712.out (fun _ hk => ⟨hk.1.1.1, ⟨hk.1.2, hk.2⟩⟩)⟩, ⟨by (with_reducible repeat (first | apply Kd.R_alloc | apply Kd.R_drewN | apply Kd.R_drew)); exact Kd.R_mono HO716.out (fun _ hk => ⟨hk.1.1.1, ⟨hk.1.2, hk.2⟩⟩)⟩, ⟨by (with_reducible repeat (first | apply Kd.N_alloc | apply Kd.N_drewN | apply Kd.N_drew)); exact Kd.N_mono HO720.out (fun _ hk => ⟨hk.1.1, ⟨hk.1.2.1, ⟨hk.1.2.2.1, ⟨hk.2, hk.1.2.2.2⟩⟩⟩⟩)⟩, ⟨by (with_reducible repeat (first | apply Kd.R_alloc | apply Kd.R_drewN | apply Kd.R_drew)); exact Kd.R_mono HO724.out (fun _ hk => ⟨hk.1.1.1, ⟨hk.1.2, hk.2⟩⟩)⟩, ⟨by (with_reducible repeat (first | refine blk_drewN ?_ _ | refine blk_drew ?_ | refine blk_alloc ?_ _)); exact BK702.out⟩, ⟨by repeat (first | (with_reducible first | exact HB.out | apply below_alloc | apply pw_below_drewN | apply below_drew1 | refine below_set ?_ GE702.out) | exact HB.out)⟩⟩
        case rest =>
          clear HC37
          try clear c1
          try clear c2
          try clear p2
          try clear c4
          try clear c5
          try clear c6
          try clear c12
          try clear c13
          try clear c29
          try clear c48
          try clear c48b0
          try clear c48b1
          try clear c49
          try clear c49b0
          try clear c49b1
          try clear c50
          try clear c50b0
          try clear c50b1
          try clear c51
          try clear c51b0
          try clear c51b1
          try clear hcz15_0
          try clear hcz15_1
          try clear hcz21_0
          try clear hcz21_1
          try clear hcz23_0
          try clear hcz23_1
          try clear hcz38_0
          try clear hcz38_1
          try clear hcz40_0
          try clear hcz40_1
          try clear hcz42_0
          try clear hcz42_1
          try clear hcz44_0
          try clear hcz44_1
          try clear hcz46_0
          try clear hcz46_1
          try clear hcz7_0
          try clear hcz7_1
          try clear hfz15_0
          try clear hfz15_1
          try clear hfz21_0
          try clear hfz21_1
          try clear hfz23_0
          try clear hfz23_1
          try clear hfz38_0
          try clear hfz38_1
          try clear hfz40_0
          try clear hfz40_1
          try clear hfz42_0
          try clear hfz42_1
          try clear hfz44_0
          try clear hfz44_1
          try clear hfz46_0
          try clear hfz46_1
          try clear hfz7_0
          try clear hfz7_1
          try clear p2
          obtain ⟨kq, x85_36, rfl, HA, HJ36, HO_1, HO_5, HO_7, HO_9, HO_11, BK702, HB⟩ := hcut
          cases kq with
          | zero => exact absurd HA.out (by simp [pylonlaw16_TreeBridges.j1])
          | succ kj36 =>
            have H := HA.out
            clear HA
            simp only [pylonlaw16_TreeBridges.j1] at H
            by_cases c52 : x85_36 = true
            · as_aux_lemma =>
              subst c52
              have H1 : (some false) = some r := by rw [if_pos rfl] at H; exact H
              clear H
              have H := H1
              clear H1
              obtain rfl := Option.some.inj H
              go_wp2
              repeat (go_quiet (fail); try go_wp2)
              go_ret
              exact ⟨by first | rfl | (simp [errW_none, errW_some] <;> rfl) | (simp [*, errW_none, errW_some] <;> rfl), by repeat (first | (with_reducible first | exact HB.out | apply below_alloc | apply pw_below_drewN | apply below_drew1 | refine below_set ?_ GE702.out) | exact HB.out)⟩
            · as_aux_lemma =>
              replace c52 := Bool.eq_false_iff.mpr c52
              subst c52
              have H1 : (pylonlaw16_TreeBridges.l0 kj36 l1 t710 t714 t718 t722 t726 0 a0_0 l0_1) = some r := by rw [if_neg (show ¬ (false = true) by decide)] at H; exact H
              clear H
              have H := H1
              clear H1
              have H' := Aside0.mk H
              clear H
              go_wp2
              repeat (go_quiet (fail); try go_wp2)
              go_loopg [15] kj36 (fun kq v15 w' => ∃ (x15_3 : Int), v15 = .int .i64 x15_3 ∧ Aside0 (pylonlaw16_TreeBridges.l0 kq l1 t710 t714 t718 t722 t726 x15_3 a0_0 l0_1 = some r) ∧ Aside0 (kq ≤ kj36) ∧ Aside0 (Kd.V (Kd.int .i64) 3 w' w.heap.size (fun k_ => (P1_ k_ ∨ w.heap.size ≤ k_) ∧ some k_ ≠ (v711 : Value).ownBlock ∧ some k_ ≠ (v715 : Value).ownBlock ∧ some k_ ≠ (v719 : Value).ownBlock ∧ some k_ ≠ (v723 : Value).ownBlock ∧ k_ ≠ gb702) (.slice A1 l1.length c1) l1) ∧ Aside0 (Kd.R (Kd.int .i64) 3 w' w.heap.size (fun k_ => (w.heap.size ≤ k_) ∧ some k_ ≠ (v715 : Value).ownBlock ∧ some k_ ≠ (v723 : Value).ownBlock) v711 t710) ∧ Aside0 (Kd.R (Kd.int .i64) 3 w' w.heap.size (fun k_ => (w.heap.size ≤ k_) ∧ some k_ ≠ (v711 : Value).ownBlock ∧ some k_ ≠ (v723 : Value).ownBlock) v715 t714) ∧ Aside0 (Kd.N (Kd.slice 3 (Kd.int .i64)) 25 w' w.heap.size (fun k_ => (P1_ k_ ∨ w.heap.size ≤ k_) ∧ some k_ ≠ (v711 : Value).ownBlock ∧ some k_ ≠ (v715 : Value).ownBlock ∧ some k_ ≠ (v723 : Value).ownBlock ∧ k_ ≠ gb702) v719 t718) ∧ Aside0 (Kd.R (Kd.int .i64) 3 w' w.heap.size (fun k_ => (w.heap.size ≤ k_) ∧ some k_ ≠ (v711 : Value).ownBlock ∧ some k_ ≠ (v715 : Value).ownBlock) v723 t722) ∧ Aside0 (w'.heap[gb702]? = some (.cells #[.int .i64 a0_0, (.slice A0_1 l0_1.length c0_1)] 24 (0, 0))) ∧ Aside0 (Below w.heap.size w w'))
              case atStart => exact ⟨(0), (by first | rfl | (simp; done) | (simp [*]; done)), H', ⟨Nat.le_refl _⟩, ⟨by (with_reducible repeat (first | apply Kd.V_alloc | apply Kd.V_drewN | apply Kd.V_drew)); exact HO_1.out⟩, ⟨by (with_reducible repeat (first | apply Kd.R_alloc | apply Kd.R_drewN | apply Kd.R_drew)); exact HO_5.out⟩, ⟨by (with_reducible repeat (first | apply Kd.R_alloc | apply Kd.R_drewN | apply Kd.R_drew)); exact HO_7.out⟩, ⟨by (with_reducible repeat (first | apply Kd.N_alloc | apply Kd.N_drewN | apply Kd.N_drew)); exact HO_9.out⟩, ⟨by (with_reducible repeat (first | apply Kd.R_alloc | apply Kd.R_drewN | apply Kd.R_drew)); exact HO_11.out⟩, ⟨by (with_reducible repeat (first | refine blk_drewN ?_ _ | refine blk_drew ?_ | refine blk_alloc ?_ _)); exact BK702.out⟩, ⟨by repeat (first | (with_reducible first | exact HB.out | apply below_alloc | apply pw_below_drewN | apply below_drew1 | refine below_set ?_ GE702.out) | exact HB.out)⟩⟩
              case round => as_aux_lemma =>
                clear H'
                try clear c1
                try clear c2
                try clear p2
                try clear c4
                try clear c5
                try clear c6
                try clear c12
                try clear c13
                try clear c29
                try clear c48
                try clear c48b0
                try clear c48b1
                try clear c49
                try clear c49b0
                try clear c49b1
                try clear c50
                try clear c50b0
                try clear c50b1
                try clear c51
                try clear c51b0
                try clear c51b1
                try clear c52
                try clear hcz15_0
                try clear hcz15_1
                try clear hcz21_0
                try clear hcz21_1
                try clear hcz23_0
                try clear hcz23_1
                try clear hcz38_0
                try clear hcz38_1
                try clear hcz40_0
                try clear hcz40_1
                try clear hcz42_0
                try clear hcz42_1
                try clear hcz44_0
                try clear hcz44_1
                try clear hcz46_0
                try clear hcz46_1
                try clear hcz7_0
                try clear hcz7_1
                try clear hfz15_0
                try clear hfz15_1
                try clear hfz21_0
                try clear hfz21_1
                try clear hfz23_0
                try clear hfz23_1
                try clear hfz38_0
                try clear hfz38_1
                try clear hfz40_0
                try clear hfz40_1
                try clear hfz42_0
                try clear hfz42_1
                try clear hfz44_0
                try clear hfz44_1
                try clear hfz46_0
                try clear hfz46_1
                try clear hfz7_0
                try clear hfz7_1
                try clear p2
                obtain ⟨x15_3, rfl, HA, HK3, HO_1, HO_5, HO_7, HO_9, HO_11, BK702, HB⟩ := hrel
                cases gk with
                | zero => exact absurd HA.out (by simp [pylonlaw16_TreeBridges.l0])
                | succ k3 =>
                  have H := HA.out
                  clear HA
                  simp only [pylonlaw16_TreeBridges.l0] at H
                  by_cases c53 : x15_3 < (t722.length : Int)
                  · rw [if_pos c53] at H
                    have c53b0 : decide (x15_3 < (t722.length : Int)) = true := decide_eq_true c53
                    clear c53
                    have H' := Aside0.mk H
                    clear H
                    obtain ⟨Ao54, co54, eo54⟩ := Kd.R_slice HO_11.out
                    subst eo54
                    go_wp2
                    repeat (go_quiet (fail); try go_wp2)
                    go_loopg [16, 17] k3 (fun kq v16 v17 w' => ∃ (x16_4 : Bool) (x17_4 : Int), v16 = .bool x16_4 ∧ v17 = .int .i64 x17_4 ∧ Aside0 (pylonlaw16_TreeBridges.l1 kq l1 t710 t714 t718 t722 t726 x15_3 x16_4 x17_4 a0_0 l0_1 = some r) ∧ Aside0 (kq ≤ k3) ∧ Aside0 (Kd.V (Kd.int .i64) 3 w' w.heap.size (fun k_ => (P1_ k_ ∨ w.heap.size ≤ k_) ∧ some k_ ≠ (v711 : Value).ownBlock ∧ some k_ ≠ (v715 : Value).ownBlock ∧ some k_ ≠ (v719 : Value).ownBlock ∧ some k_ ≠ ((.slice Ao54 t722.length co54) : Value).ownBlock ∧ k_ ≠ gb702) (.slice A1 l1.length c1) l1) ∧ Aside0 (Kd.R (Kd.int .i64) 3 w' w.heap.size (fun k_ => (w.heap.size ≤ k_) ∧ some k_ ≠ (v715 : Value).ownBlock ∧ some k_ ≠ ((.slice Ao54 t722.length co54) : Value).ownBlock) v711 t710) ∧ Aside0 (Kd.R (Kd.int .i64) 3 w' w.heap.size (fun k_ => (w.heap.size ≤ k_) ∧ some k_ ≠ (v711 : Value).ownBlock ∧ some k_ ≠ ((.slice Ao54 t722.length co54) : Value).ownBlock) v715 t714) ∧ Aside0 (Kd.N (Kd.slice 3 (Kd.int .i64)) 25 w' w.heap.size (fun k_ => (P1_ k_ ∨ w.heap.size ≤ k_) ∧ some k_ ≠ (v711 : Value).ownBlock ∧ some k_ ≠ (v715 : Value).ownBlock ∧ some k_ ≠ ((.slice Ao54 t722.length co54) : Value).ownBlock ∧ k_ ≠ gb702) v719 t718) ∧ Aside0 (Kd.R (Kd.int .i64) 3 w' w.heap.size (fun k_ => (w.heap.size ≤ k_) ∧ some k_ ≠ (v711 : Value).ownBlock ∧ some k_ ≠ (v715 : Value).ownBlock) (.slice Ao54 t722.length co54) t722) ∧ Aside0 (w'.heap[gb702]? = some (.cells #[.int .i64 a0_0, (.slice A0_1 l0_1.length c0_1)] 24 (0, 0))) ∧ Aside0 (Below w.heap.size w w'))
                    case atStart => exact ⟨(false), (0), (by first | rfl | (simp; done) | (simp [*]; done)), (by first | rfl | (simp; done) | (simp [*]; done)), H', ⟨Nat.le_refl _⟩, ⟨by (with_reducible repeat (first | apply Kd.V_alloc | apply Kd.V_drewN | apply Kd.V_drew)); exact HO_1.out⟩, ⟨by (with_reducible repeat (first | apply Kd.R_alloc | apply Kd.R_drewN | apply Kd.R_drew)); exact HO_5.out⟩, ⟨by (with_reducible repeat (first | apply Kd.R_alloc | apply Kd.R_drewN | apply Kd.R_drew)); exact HO_7.out⟩, ⟨by (with_reducible repeat (first | apply Kd.N_alloc | apply Kd.N_drewN | apply Kd.N_drew)); exact HO_9.out⟩, ⟨by (with_reducible repeat (first | apply Kd.R_alloc | apply Kd.R_drewN | apply Kd.R_drew)); exact HO_11.out⟩, ⟨by (with_reducible repeat (first | refine blk_drewN ?_ _ | refine blk_drew ?_ | refine blk_alloc ?_ _)); exact BK702.out⟩, ⟨by repeat (first | (with_reducible first | exact HB.out | apply below_alloc | apply pw_below_drewN | apply below_drew1 | refine below_set ?_ GE702.out) | exact HB.out)⟩⟩
                    case round => as_aux_lemma =>
                      clear H'
                      try clear c1
                      try clear c2
                      try clear p2
                      try clear c4
                      try clear c5
                      try clear c6
                      try clear c12
                      try clear c13
                      try clear c29
                      try clear c48
                      try clear c48b0
                      try clear c48b1
                      try clear c49
                      try clear c49b0
                      try clear c49b1
                      try clear c50
                      try clear c50b0
                      try clear c50b1
                      try clear c51
                      try clear c51b0
                      try clear c51b1
                      try clear c52
                      try clear c53
                      try clear c53b0
                      try clear hcz15_0
                      try clear hcz15_1
                      try clear hcz21_0
                      try clear hcz21_1
                      try clear hcz23_0
                      try clear hcz23_1
                      try clear hcz38_0
                      try clear hcz38_1
                      try clear hcz40_0
                      try clear hcz40_1
                      try clear hcz42_0
                      try clear hcz42_1
                      try clear hcz44_0
                      try clear hcz44_1
                      try clear hcz46_0
                      try clear hcz46_1
                      try clear hcz7_0
                      try clear hcz7_1
                      try clear hfz15_0
                      try clear hfz15_1
                      try clear hfz21_0
                      try clear hfz21_1
                      try clear hfz23_0
                      try clear hfz23_1
                      try clear hfz38_0
                      try clear hfz38_1
                      try clear hfz40_0
                      try clear hfz40_1
                      try clear hfz42_0
                      try clear hfz42_1
                      try clear hfz44_0
                      try clear hfz44_1
                      try clear hfz46_0
                      try clear hfz46_1
                      try clear hfz7_0
                      try clear hfz7_1
                      try clear p2
                      obtain ⟨x16_4, x17_4, rfl, rfl, HA, HK4, HO_1, HO_5, HO_7, HO_9, HO_11, BK702, HB⟩ := hrel
                      cases gk with
                      | zero => exact absurd HA.out (by simp [pylonlaw16_TreeBridges.l1])
                      | succ k4 =>
                        have H := HA.out
                        clear HA
                        simp only [pylonlaw16_TreeBridges.l1] at H
                        by_cases c55 : x17_4 < (t718.length : Int)
                        · rw [if_pos c55] at H
                          have c55b0 : decide (x17_4 < (t718.length : Int)) = true := decide_eq_true c55
                          clear c55
                          by_cases c56 : 0 ≤ x17_4
                          · rw [if_pos c56] at H
                            have c56b0 : decide (0 ≤ x17_4) = true := decide_eq_true c56
                            clear c56
                            by_cases c57 : ((rd_L1 t718 x17_4).length : Int) = (l0_1.length : Int)
                            · rw [if_pos c57] at H
                              have c57b0 : (((rd_L1 t718 x17_4).length : Int) == (l0_1.length : Int)) = true := beq_iff_eq.mpr c57
                              have c57b1 : (((rd_L1 t718 x17_4).length : Int) != (l0_1.length : Int)) = false := bne_eq_false_iff_eq.mpr c57
                              have c57b2 : ((rd_L1 t718 x17_4).length == l0_1.length) = true := by first | simpa using c57 | (simp at c57 ⊢; omega)
                              clear c57
                              by_cases c58 : 0 ≤ x15_3
                              · rw [if_pos c58] at H
                                have c58b0 : decide (0 ≤ x15_3) = true := decide_eq_true c58
                                clear c58
                                by_cases c59 : x15_3 < (t722.length : Int)
                                · rw [if_pos c59] at H
                                  have c59b0 : decide (x15_3 < (t722.length : Int)) = true := decide_eq_true c59
                                  clear c59
                                  by_cases c60 : (rd t722 x15_3) < 0
                                  · rw [if_pos c60] at H
                                    have c60b0 : decide ((rd t722 x15_3) < 0) = true := decide_eq_true c60
                                    clear c60
                                    obtain rfl := Option.some.inj H
                                    obtain ⟨Ao61, co61, eo61⟩ := Kd.N_slice HO_9.out
                                    subst eo61
                                    have p728 : 0 ≤ (x17_4 : Int) := of_decide_eq_true (by first | (with_reducible assumption) | assumption)
                                    have q728 : x17_4 < (t718.length : Int) := of_decide_eq_true (by first | (with_reducible assumption) | assumption)
                                    obtain ⟨ad728, A728_0, c728_0, e728, hx728_0, hl728_0, hi728_0⟩ := at_L1 (Kd.N_reads' HO_9.out).2.2 x17_4 p728 q728
                                    cases e728
                                    obtain ⟨ce728, hce728, hMe728, hcc728⟩ := Kd.N_get HO_9.out [] x17_4 p728 (by first | exact q728 | exact of_decide_eq_true (by first | (with_reducible assumption) | assumption) | (have e_ := (Kd.N_reads' HO_9.out).1; omega))
                                    obtain ⟨ua728_0, uc728_0, rfl, ul728_0, ge728_0⟩ := Kd.FK_slice_open hMe728
                                    have hv728_0 := hcc728 0 _ rfl
                                    rw [Nat.add_zero, show ((Kd.slice 3 (Kd.int .i64))).sz = 1 from rfl, Nat.mul_one] at hv728_0
                                    replace hv728_0 := Option.some.inj (hv728_0.symm.trans hx728_0)
                                    injection hv728_0 with hva_ hvn_ hvc_
                                    rw [hva_] at ge728_0
                                    rw [hvc_] at ul728_0
                                    have HL728_0 := Aside0.mk (show Kd.V (Kd.int .i64) 3 _ w.heap.size _ _ (rd_L1 t718 x17_4) from Kd.V_mk ul728_0 ge728_0)
                                    clear hva_ hvn_ hvc_ ge728_0 ul728_0
                                    clear hcc728 hce728
                                    have HR728_0 := Aside0.mk hi728_0
                                    have HC728_0 := Aside0.mk hl728_0
                                    clear hi728_0 hl728_0
                                    replace p728 := eq_true p728
                                    replace q728 := eq_true q728
                                    have hcz62_0 : wr.cell? ⟨gb702, 0, none⟩ = some (.int .i64 a0_0) := (blk_cell BK702.out 0).trans rfl
                                    have hcz62_1 : wr.cell? ⟨gb702, 1, none⟩ = some (.slice A0_1 l0_1.length c0_1) := (blk_cell BK702.out 1).trans rfl
                                    have hfz62_0 := blk_frozen BK702.out 0
                                    have hfz62_1 := blk_frozen BK702.out 1
                                    have p729 : 0 ≤ (x15_3 : Int) := of_decide_eq_true (by first | (with_reducible assumption) | assumption)
                                    have q729 : x15_3 < (t722.length : Int) := of_decide_eq_true (by first | (with_reducible assumption) | assumption)
                                    obtain ⟨ad729, e729, hx729_0⟩ := Kd.at_int (Kd.R_reads' HO_11.out).2.2 x15_3 p729 q729
                                    cases e729
                                    replace p729 := eq_true p729
                                    replace q729 := eq_true q729
                                    go_wp2
                                    repeat (go_quiet (fail); try go_wp2)
                                    go_ret
                                    exact ⟨by first | rfl | (simp [errW_none, errW_some] <;> rfl) | (simp [*, errW_none, errW_some] <;> rfl), by repeat (first | (with_reducible first | exact HB.out | apply below_alloc | apply pw_below_drewN | apply below_drew1 | refine below_set ?_ GE702.out) | exact HB.out)⟩
                                  · rw [if_neg c60] at H
                                    have c60b0 : decide ((rd t722 x15_3) < 0) = false := decide_eq_false c60
                                    clear c60
                                    by_cases c63 : (rd t722 x15_3) ≥ (l0_1.length : Int)
                                    · rw [if_pos c63] at H
                                      have c63b0 : decide ((l0_1.length : Int) ≤ (rd t722 x15_3)) = true := decide_eq_true c63
                                      clear c63
                                      obtain rfl := Option.some.inj H
                                      obtain ⟨Ao64, co64, eo64⟩ := Kd.N_slice HO_9.out
                                      subst eo64
                                      have p728 : 0 ≤ (x17_4 : Int) := of_decide_eq_true (by first | (with_reducible assumption) | assumption)
                                      have q728 : x17_4 < (t718.length : Int) := of_decide_eq_true (by first | (with_reducible assumption) | assumption)
                                      obtain ⟨ad728, A728_0, c728_0, e728, hx728_0, hl728_0, hi728_0⟩ := at_L1 (Kd.N_reads' HO_9.out).2.2 x17_4 p728 q728
                                      cases e728
                                      obtain ⟨ce728, hce728, hMe728, hcc728⟩ := Kd.N_get HO_9.out [] x17_4 p728 (by first | exact q728 | exact of_decide_eq_true (by first | (with_reducible assumption) | assumption) | (have e_ := (Kd.N_reads' HO_9.out).1; omega))
                                      obtain ⟨ua728_0, uc728_0, rfl, ul728_0, ge728_0⟩ := Kd.FK_slice_open hMe728
                                      have hv728_0 := hcc728 0 _ rfl
                                      rw [Nat.add_zero, show ((Kd.slice 3 (Kd.int .i64))).sz = 1 from rfl, Nat.mul_one] at hv728_0
                                      replace hv728_0 := Option.some.inj (hv728_0.symm.trans hx728_0)
                                      injection hv728_0 with hva_ hvn_ hvc_
                                      rw [hva_] at ge728_0
                                      rw [hvc_] at ul728_0
                                      have HL728_0 := Aside0.mk (show Kd.V (Kd.int .i64) 3 _ w.heap.size _ _ (rd_L1 t718 x17_4) from Kd.V_mk ul728_0 ge728_0)
                                      clear hva_ hvn_ hvc_ ge728_0 ul728_0
                                      clear hcc728 hce728
                                      have HR728_0 := Aside0.mk hi728_0
                                      have HC728_0 := Aside0.mk hl728_0
                                      clear hi728_0 hl728_0
                                      replace p728 := eq_true p728
                                      replace q728 := eq_true q728
                                      have hcz65_0 : wr.cell? ⟨gb702, 0, none⟩ = some (.int .i64 a0_0) := (blk_cell BK702.out 0).trans rfl
                                      have hcz65_1 : wr.cell? ⟨gb702, 1, none⟩ = some (.slice A0_1 l0_1.length c0_1) := (blk_cell BK702.out 1).trans rfl
                                      have hfz65_0 := blk_frozen BK702.out 0
                                      have hfz65_1 := blk_frozen BK702.out 1
                                      have p729 : 0 ≤ (x15_3 : Int) := of_decide_eq_true (by first | (with_reducible assumption) | assumption)
                                      have q729 : x15_3 < (t722.length : Int) := of_decide_eq_true (by first | (with_reducible assumption) | assumption)
                                      obtain ⟨ad729, e729, hx729_0⟩ := Kd.at_int (Kd.R_reads' HO_11.out).2.2 x15_3 p729 q729
                                      cases e729
                                      replace p729 := eq_true p729
                                      replace q729 := eq_true q729
                                      have p730 : 0 ≤ (x15_3 : Int) := of_decide_eq_true (by first | (with_reducible assumption) | assumption)
                                      have q730 : x15_3 < (t722.length : Int) := of_decide_eq_true (by first | (with_reducible assumption) | assumption)
                                      obtain ⟨ad730, e730, hx730_0⟩ := Kd.at_int (Kd.R_reads' HO_11.out).2.2 x15_3 p730 q730
                                      obtain rfl : ad729 = ad730 := (by injection e730)
                                      replace p730 := eq_true p730
                                      replace q730 := eq_true q730
                                      go_wp2
                                      repeat (go_quiet (fail); try go_wp2)
                                      go_ret
                                      exact ⟨by first | rfl | (simp [errW_none, errW_some] <;> rfl) | (simp [*, errW_none, errW_some] <;> rfl), by repeat (first | (with_reducible first | exact HB.out | apply below_alloc | apply pw_below_drewN | apply below_drew1 | refine below_set ?_ GE702.out) | exact HB.out)⟩
                                    · rw [if_neg c63] at H
                                      have c63b0 : decide ((l0_1.length : Int) ≤ (rd t722 x15_3)) = false := decide_eq_false c63
                                      clear c63
                                      by_cases c66 : x16_4 = true
                                      · as_aux_lemma =>
                                        subst c66
                                        have H1 : (pylonlaw16_TreeBridges.l1 k4 l1 t710 t714 t718 t722 t726 x15_3 true (wrap64 (x17_4 + 1)) a0_0 l0_1) = some r := by rw [if_pos rfl] at H; exact H
                                        clear H
                                        have H := H1
                                        clear H1
                                        have H' := Aside0.mk H
                                        clear H
                                        obtain ⟨Ao67, co67, eo67⟩ := Kd.N_slice HO_9.out
                                        subst eo67
                                        have p728 : 0 ≤ (x17_4 : Int) := of_decide_eq_true (by first | (with_reducible assumption) | assumption)
                                        have q728 : x17_4 < (t718.length : Int) := of_decide_eq_true (by first | (with_reducible assumption) | assumption)
                                        obtain ⟨ad728, A728_0, c728_0, e728, hx728_0, hl728_0, hi728_0⟩ := at_L1 (Kd.N_reads' HO_9.out).2.2 x17_4 p728 q728
                                        cases e728
                                        obtain ⟨ce728, hce728, hMe728, hcc728⟩ := Kd.N_get HO_9.out [] x17_4 p728 (by first | exact q728 | exact of_decide_eq_true (by first | (with_reducible assumption) | assumption) | (have e_ := (Kd.N_reads' HO_9.out).1; omega))
                                        obtain ⟨ua728_0, uc728_0, rfl, ul728_0, ge728_0⟩ := Kd.FK_slice_open hMe728
                                        have hv728_0 := hcc728 0 _ rfl
                                        rw [Nat.add_zero, show ((Kd.slice 3 (Kd.int .i64))).sz = 1 from rfl, Nat.mul_one] at hv728_0
                                        replace hv728_0 := Option.some.inj (hv728_0.symm.trans hx728_0)
                                        injection hv728_0 with hva_ hvn_ hvc_
                                        rw [hva_] at ge728_0
                                        rw [hvc_] at ul728_0
                                        have HL728_0 := Aside0.mk (show Kd.V (Kd.int .i64) 3 _ w.heap.size _ _ (rd_L1 t718 x17_4) from Kd.V_mk ul728_0 ge728_0)
                                        clear hva_ hvn_ hvc_ ge728_0 ul728_0
                                        clear hcc728 hce728
                                        have HR728_0 := Aside0.mk hi728_0
                                        have HC728_0 := Aside0.mk hl728_0
                                        clear hi728_0 hl728_0
                                        replace p728 := eq_true p728
                                        replace q728 := eq_true q728
                                        have hcz68_0 : wr.cell? ⟨gb702, 0, none⟩ = some (.int .i64 a0_0) := (blk_cell BK702.out 0).trans rfl
                                        have hcz68_1 : wr.cell? ⟨gb702, 1, none⟩ = some (.slice A0_1 l0_1.length c0_1) := (blk_cell BK702.out 1).trans rfl
                                        have hfz68_0 := blk_frozen BK702.out 0
                                        have hfz68_1 := blk_frozen BK702.out 1
                                        have p729 : 0 ≤ (x15_3 : Int) := of_decide_eq_true (by first | (with_reducible assumption) | assumption)
                                        have q729 : x15_3 < (t722.length : Int) := of_decide_eq_true (by first | (with_reducible assumption) | assumption)
                                        obtain ⟨ad729, e729, hx729_0⟩ := Kd.at_int (Kd.R_reads' HO_11.out).2.2 x15_3 p729 q729
                                        cases e729
                                        replace p729 := eq_true p729
                                        replace q729 := eq_true q729
                                        have p730 : 0 ≤ (x15_3 : Int) := of_decide_eq_true (by first | (with_reducible assumption) | assumption)
                                        have q730 : x15_3 < (t722.length : Int) := of_decide_eq_true (by first | (with_reducible assumption) | assumption)
                                        obtain ⟨ad730, e730, hx730_0⟩ := Kd.at_int (Kd.R_reads' HO_11.out).2.2 x15_3 p730 q730
                                        obtain rfl : ad729 = ad730 := (by injection e730)
                                        replace p730 := eq_true p730
                                        replace q730 := eq_true q730
                                        go_wp2
                                        repeat (go_quiet (fail); try go_wp2)
                                        go_roundg k4
                                        case measure => have := HJ2.out; have := HJ36.out; have := HK3.out; have := HK4.out; omega
                                        case rel => exact ⟨(true), (wrap64 (x17_4 + 1)), (by first | rfl | (simp; done) | (simp [*]; done)), (by first | rfl | (simp; done) | (simp [*]; done)), H', ⟨by have := HJ2.out; have := HJ36.out; have := HK3.out; have := HK4.out; omega⟩, ⟨by (with_reducible repeat (first | apply Kd.V_alloc | apply Kd.V_drewN | apply Kd.V_drew)); exact HO_1.out⟩, ⟨by (with_reducible repeat (first | apply Kd.R_alloc | apply Kd.R_drewN | apply Kd.R_drew)); exact HO_5.out⟩, ⟨by (with_reducible repeat (first | apply Kd.R_alloc | apply Kd.R_drewN | apply Kd.R_drew)); exact HO_7.out⟩, ⟨by (with_reducible repeat (first | apply Kd.N_alloc | apply Kd.N_drewN | apply Kd.N_drew)); exact HO_9.out⟩, ⟨by (with_reducible repeat (first | apply Kd.R_alloc | apply Kd.R_drewN | apply Kd.R_drew)); exact HO_11.out⟩, ⟨by (with_reducible repeat (first | refine blk_drewN ?_ _ | refine blk_drew ?_ | refine blk_alloc ?_ _)); exact BK702.out⟩, ⟨by repeat (first | (with_reducible first | exact HB.out | apply below_alloc | apply pw_below_drewN | apply below_drew1 | refine below_set ?_ GE702.out) | exact HB.out)⟩⟩
                                      · as_aux_lemma =>
                                        replace c66 := Bool.eq_false_iff.mpr c66
                                        subst c66
                                        have H1 : (if 0 ≤ (rd t722 x15_3) then (if (rd t722 x15_3) < ((rd_L1 t718 x17_4).length : Int) then (pylonlaw16_TreeBridges.l1 k4 l1 t710 t714 t718 t722 t726 x15_3 ((rd (rd_L1 t718 x17_4) (rd t722 x15_3)) != 0) (wrap64 (x17_4 + 1)) a0_0 l0_1) else (none)) else (none)) = some r := by rw [if_neg (show ¬ (false = true) by decide)] at H; exact H
                                        clear H
                                        have H := H1
                                        clear H1
                                        by_cases c69 : 0 ≤ (rd t722 x15_3)
                                        · rw [if_pos c69] at H
                                          have c69b0 : decide (0 ≤ (rd t722 x15_3)) = true := decide_eq_true c69
                                          clear c69
                                          by_cases c70 : (rd t722 x15_3) < ((rd_L1 t718 x17_4).length : Int)
                                          · rw [if_pos c70] at H
                                            have c70b0 : decide ((rd t722 x15_3) < ((rd_L1 t718 x17_4).length : Int)) = true := decide_eq_true c70
                                            clear c70
                                            have H' := Aside0.mk H
                                            clear H
                                            obtain ⟨Ao71, co71, eo71⟩ := Kd.N_slice HO_9.out
                                            subst eo71
                                            have p728 : 0 ≤ (x17_4 : Int) := of_decide_eq_true (by first | (with_reducible assumption) | assumption)
                                            have q728 : x17_4 < (t718.length : Int) := of_decide_eq_true (by first | (with_reducible assumption) | assumption)
                                            obtain ⟨ad728, A728_0, c728_0, e728, hx728_0, hl728_0, hi728_0⟩ := at_L1 (Kd.N_reads' HO_9.out).2.2 x17_4 p728 q728
                                            cases e728
                                            obtain ⟨ce728, hce728, hMe728, hcc728⟩ := Kd.N_get HO_9.out [] x17_4 p728 (by first | exact q728 | exact of_decide_eq_true (by first | (with_reducible assumption) | assumption) | (have e_ := (Kd.N_reads' HO_9.out).1; omega))
                                            obtain ⟨ua728_0, uc728_0, rfl, ul728_0, ge728_0⟩ := Kd.FK_slice_open hMe728
                                            have hv728_0 := hcc728 0 _ rfl
                                            rw [Nat.add_zero, show ((Kd.slice 3 (Kd.int .i64))).sz = 1 from rfl, Nat.mul_one] at hv728_0
                                            replace hv728_0 := Option.some.inj (hv728_0.symm.trans hx728_0)
                                            injection hv728_0 with hva_ hvn_ hvc_
                                            rw [hva_] at ge728_0
                                            rw [hvc_] at ul728_0
                                            have HL728_0 := Aside0.mk (show Kd.V (Kd.int .i64) 3 _ w.heap.size _ _ (rd_L1 t718 x17_4) from Kd.V_mk ul728_0 ge728_0)
                                            clear hva_ hvn_ hvc_ ge728_0 ul728_0
                                            clear hcc728 hce728
                                            have HR728_0 := Aside0.mk hi728_0
                                            have HC728_0 := Aside0.mk hl728_0
                                            clear hi728_0 hl728_0
                                            replace p728 := eq_true p728
                                            replace q728 := eq_true q728
                                            have hcz72_0 : wr.cell? ⟨gb702, 0, none⟩ = some (.int .i64 a0_0) := (blk_cell BK702.out 0).trans rfl
                                            have hcz72_1 : wr.cell? ⟨gb702, 1, none⟩ = some (.slice A0_1 l0_1.length c0_1) := (blk_cell BK702.out 1).trans rfl
                                            have hfz72_0 := blk_frozen BK702.out 0
                                            have hfz72_1 := blk_frozen BK702.out 1
                                            have p729 : 0 ≤ (x15_3 : Int) := of_decide_eq_true (by first | (with_reducible assumption) | assumption)
                                            have q729 : x15_3 < (t722.length : Int) := of_decide_eq_true (by first | (with_reducible assumption) | assumption)
                                            obtain ⟨ad729, e729, hx729_0⟩ := Kd.at_int (Kd.R_reads' HO_11.out).2.2 x15_3 p729 q729
                                            cases e729
                                            replace p729 := eq_true p729
                                            replace q729 := eq_true q729
                                            have p730 : 0 ≤ (x15_3 : Int) := of_decide_eq_true (by first | (with_reducible assumption) | assumption)
                                            have q730 : x15_3 < (t722.length : Int) := of_decide_eq_true (by first | (with_reducible assumption) | assumption)
                                            obtain ⟨ad730, e730, hx730_0⟩ := Kd.at_int (Kd.R_reads' HO_11.out).2.2 x15_3 p730 q730
                                            obtain rfl : ad729 = ad730 := (by injection e730)
                                            replace p730 := eq_true p730
                                            replace q730 := eq_true q730
                                            have p731 : 0 ≤ (x17_4 : Int) := of_decide_eq_true (by first | (with_reducible assumption) | assumption)
                                            have q731 : x17_4 < (t718.length : Int) := of_decide_eq_true (by first | (with_reducible assumption) | assumption)
                                            obtain ⟨ad731, A731_0, c731_0, e731, hx731_0, hl731_0, hi731_0⟩ := at_L1 (Kd.N_reads' HO_9.out).2.2 x17_4 p731 q731
                                            obtain rfl : ad728 = ad731 := (by injection e731)
                                            obtain ⟨ce731, hce731, hMe731, hcc731⟩ := Kd.N_get HO_9.out [] x17_4 p731 (by first | exact q731 | exact of_decide_eq_true (by first | (with_reducible assumption) | assumption) | (have e_ := (Kd.N_reads' HO_9.out).1; omega))
                                            obtain ⟨ua731_0, uc731_0, rfl, ul731_0, ge731_0⟩ := Kd.FK_slice_open hMe731
                                            have hv731_0 := hcc731 0 _ rfl
                                            rw [Nat.add_zero, show ((Kd.slice 3 (Kd.int .i64))).sz = 1 from rfl, Nat.mul_one] at hv731_0
                                            replace hv731_0 := Option.some.inj (hv731_0.symm.trans hx731_0)
                                            injection hv731_0 with hva_ hvn_ hvc_
                                            rw [hva_] at ge731_0
                                            rw [hvc_] at ul731_0
                                            have HL731_0 := Aside0.mk (show Kd.V (Kd.int .i64) 3 _ w.heap.size _ _ (rd_L1 t718 x17_4) from Kd.V_mk ul731_0 ge731_0)
                                            clear hva_ hvn_ hvc_ ge731_0 ul731_0
                                            clear hcc731 hce731
                                            have HR731_0 := Aside0.mk hi731_0
                                            have HC731_0 := Aside0.mk hl731_0
                                            clear hi731_0 hl731_0
                                            replace p731 := eq_true p731
                                            replace q731 := eq_true q731
                                            have ea_ := Option.some.inj (hx728_0.symm.trans hx731_0)
                                            injection ea_ with ea_ en_ ec_
                                            subst ea_
                                            subst ec_
                                            clear en_
                                            have p732 : 0 ≤ (x15_3 : Int) := of_decide_eq_true (by first | (with_reducible assumption) | assumption)
                                            have q732 : x15_3 < (t722.length : Int) := of_decide_eq_true (by first | (with_reducible assumption) | assumption)
                                            obtain ⟨ad732, e732, hx732_0⟩ := Kd.at_int (Kd.R_reads' HO_11.out).2.2 x15_3 p732 q732
                                            obtain rfl : ad729 = ad732 := (by injection e732)
                                            replace p732 := eq_true p732
                                            replace q732 := eq_true q732
                                            have p733 : 0 ≤ ((rd t722 x15_3) : Int) := of_decide_eq_true (by first | (with_reducible assumption) | assumption)
                                            have q733 : (rd t722 x15_3) < ((rd_L1 t718 x17_4).length : Int) := of_decide_eq_true (by first | (with_reducible assumption) | assumption)
                                            obtain ⟨ad733, e733, hx733_0⟩ := Kd.at_int (by repeat (first | (with_reducible exact HR731_0.out) | (with_reducible refine Kd.C_alloc ?_ _) | (with_reducible refine Kd.C_drewN ?_ _) | (with_reducible refine Kd.C_drew ?_) | exact HR731_0.out)) (rd t722 x15_3) p733 q733
                                            cases e733
                                            replace p733 := eq_true p733
                                            replace q733 := eq_true q733
                                            go_wp2
                                            repeat (go_quiet (fail); try go_wp2)
                                            go_roundg k4
                                            case measure => have := HJ2.out; have := HJ36.out; have := HK3.out; have := HK4.out; omega
                                            case rel => exact ⟨(((rd (rd_L1 t718 x17_4) (rd t722 x15_3)) != 0)), (wrap64 (x17_4 + 1)), (by first | rfl | (simp; done) | (simp [*]; done)), (by first | rfl | (simp; done) | (simp [*]; done)), H', ⟨by have := HJ2.out; have := HJ36.out; have := HK3.out; have := HK4.out; omega⟩, ⟨by (with_reducible repeat (first | apply Kd.V_alloc | apply Kd.V_drewN | apply Kd.V_drew)); exact HO_1.out⟩, ⟨by (with_reducible repeat (first | apply Kd.R_alloc | apply Kd.R_drewN | apply Kd.R_drew)); exact HO_5.out⟩, ⟨by (with_reducible repeat (first | apply Kd.R_alloc | apply Kd.R_drewN | apply Kd.R_drew)); exact HO_7.out⟩, ⟨by (with_reducible repeat (first | apply Kd.N_alloc | apply Kd.N_drewN | apply Kd.N_drew)); exact HO_9.out⟩, ⟨by (with_reducible repeat (first | apply Kd.R_alloc | apply Kd.R_drewN | apply Kd.R_drew)); exact HO_11.out⟩, ⟨by (with_reducible repeat (first | refine blk_drewN ?_ _ | refine blk_drew ?_ | refine blk_alloc ?_ _)); exact BK702.out⟩, ⟨by repeat (first | (with_reducible first | exact HB.out | apply below_alloc | apply pw_below_drewN | apply below_drew1 | refine below_set ?_ GE702.out) | exact HB.out)⟩⟩
                                          · rw [if_neg c70] at H
                                            exact absurd H (by simp)
                                        · rw [if_neg c69] at H
                                          exact absurd H (by simp)
                                · rw [if_neg c59] at H
                                  exact absurd H (by simp)
                              · rw [if_neg c58] at H
                                exact absurd H (by simp)
                            · rw [if_neg c57] at H
                              have c57b0 : (((rd_L1 t718 x17_4).length : Int) == (l0_1.length : Int)) = false := beq_eq_false_iff_ne.mpr c57
                              have c57b1 : (((rd_L1 t718 x17_4).length : Int) != (l0_1.length : Int)) = true := bne_iff_ne.mpr c57
                              have c57b2 : ((rd_L1 t718 x17_4).length == l0_1.length) = false := by first | simpa using c57 | (simp at c57 ⊢; omega)
                              obtain rfl := Option.some.inj H
                              obtain ⟨Ao73, co73, eo73⟩ := Kd.N_slice HO_9.out
                              subst eo73
                              have p728 : 0 ≤ (x17_4 : Int) := of_decide_eq_true (by first | (with_reducible assumption) | assumption)
                              have q728 : x17_4 < (t718.length : Int) := of_decide_eq_true (by first | (with_reducible assumption) | assumption)
                              obtain ⟨ad728, A728_0, c728_0, e728, hx728_0, hl728_0, hi728_0⟩ := at_L1 (Kd.N_reads' HO_9.out).2.2 x17_4 p728 q728
                              cases e728
                              obtain ⟨ce728, hce728, hMe728, hcc728⟩ := Kd.N_get HO_9.out [] x17_4 p728 (by first | exact q728 | exact of_decide_eq_true (by first | (with_reducible assumption) | assumption) | (have e_ := (Kd.N_reads' HO_9.out).1; omega))
                              obtain ⟨ua728_0, uc728_0, rfl, ul728_0, ge728_0⟩ := Kd.FK_slice_open hMe728
                              have hv728_0 := hcc728 0 _ rfl
                              rw [Nat.add_zero, show ((Kd.slice 3 (Kd.int .i64))).sz = 1 from rfl, Nat.mul_one] at hv728_0
                              replace hv728_0 := Option.some.inj (hv728_0.symm.trans hx728_0)
                              injection hv728_0 with hva_ hvn_ hvc_
                              rw [hva_] at ge728_0
                              rw [hvc_] at ul728_0
                              have HL728_0 := Aside0.mk (show Kd.V (Kd.int .i64) 3 _ w.heap.size _ _ (rd_L1 t718 x17_4) from Kd.V_mk ul728_0 ge728_0)
                              clear hva_ hvn_ hvc_ ge728_0 ul728_0
                              clear hcc728 hce728
                              have HR728_0 := Aside0.mk hi728_0
                              have HC728_0 := Aside0.mk hl728_0
                              clear hi728_0 hl728_0
                              replace p728 := eq_true p728
                              replace q728 := eq_true q728
                              have hcz74_0 : wr.cell? ⟨gb702, 0, none⟩ = some (.int .i64 a0_0) := (blk_cell BK702.out 0).trans rfl
                              have hcz74_1 : wr.cell? ⟨gb702, 1, none⟩ = some (.slice A0_1 l0_1.length c0_1) := (blk_cell BK702.out 1).trans rfl
                              have hfz74_0 := blk_frozen BK702.out 0
                              have hfz74_1 := blk_frozen BK702.out 1
                              go_wp2
                              repeat (go_quiet (fail); try go_wp2)
                              go_ret
                              exact ⟨by first | rfl | (simp [errW_none, errW_some] <;> rfl) | (simp [*, errW_none, errW_some] <;> rfl), by repeat (first | (with_reducible first | exact HB.out | apply below_alloc | apply pw_below_drewN | apply below_drew1 | refine below_set ?_ GE702.out) | exact HB.out)⟩
                          · rw [if_neg c56] at H
                            exact absurd H (by simp)
                        · rw [if_neg c55] at H
                          have c55b0 : decide (x17_4 < (t718.length : Int)) = false := decide_eq_false c55
                          clear c55
                          by_cases c75 : 0 ≤ x15_3
                          · rw [if_pos c75] at H
                            have c75b0 : decide (0 ≤ x15_3) = true := decide_eq_true c75
                            clear c75
                            by_cases c76 : x15_3 < (t722.length : Int)
                            · rw [if_pos c76] at H
                              have c76b0 : decide (x15_3 < (t722.length : Int)) = true := decide_eq_true c76
                              clear c76
                              obtain ⟨y735, hy735⟩ : ∃ y_ : List Int, y_ = (([rd t722 x15_3] : List Int)) := ⟨_, rfl⟩
                              replace H : ((net_Union.f l1 y735).bind fun bt738 => ((island_Count.f k4 a0_0 l0_1 bt738.1).bind fun bt742 => (if bt738.2 = 0 then (if bt742.2 = 0 then ((pylonlaw16_has.f k4 t710 (rd t722 x15_3)).bind fun t745 => (if (t745 != (bt742.1 == (wrap64 (t726 + 1)))) = true then (some false) else ((pylonlaw16_has.f k4 t710 (rd t722 x15_3)).bind fun t747 => (if (t747 == x16_4) = true then (some false) else ((pylonlaw16_has.f k4 t710 (rd t722 x15_3)).bind fun t749 => (if t749 = true then ((pylonlaw16_has.f k4 t714 (rd t722 x15_3)).bind fun t751 => (if t751 = true then (pylonlaw16_TreeBridges.l0 k4 l1 t710 t714 t718 t722 t726 (wrap64 (x15_3 + 1)) a0_0 l0_1) else (some false))) else (pylonlaw16_TreeBridges.l0 k4 l1 t710 t714 t718 t722 t726 (wrap64 (x15_3 + 1)) a0_0 l0_1))))))) else (some false)) else (some false)))) = some r := by first | (rw [hy735]; with_reducible exact H) | (have H2_ := (Option.bind_some _ _).symm.trans H; rw [hy735]; with_reducible exact H2_) | (have H2_ := (Option.bind_some _ _).symm.trans H; with_reducible exact H2_) | with_reducible exact H | (rw [hy735]; exact H) | exact H
                              have Ny735 := Aside0.mk hy735
                              clear hy735
                              replace H := Option.bind_eq_some_iff.mp H
                              obtain ⟨⟨t738, t739⟩, A770, H⟩ := H
                              replace H : ((island_Count.f k4 a0_0 l0_1 t738).bind fun bt742 => (if t739 = 0 then (if bt742.2 = 0 then ((pylonlaw16_has.f k4 t710 (rd t722 x15_3)).bind fun t745 => (if (t745 != (bt742.1 == (wrap64 (t726 + 1)))) = true then (some false) else ((pylonlaw16_has.f k4 t710 (rd t722 x15_3)).bind fun t747 => (if (t747 == x16_4) = true then (some false) else ((pylonlaw16_has.f k4 t710 (rd t722 x15_3)).bind fun t749 => (if t749 = true then ((pylonlaw16_has.f k4 t714 (rd t722 x15_3)).bind fun t751 => (if t751 = true then (pylonlaw16_TreeBridges.l0 k4 l1 t710 t714 t718 t722 t726 (wrap64 (x15_3 + 1)) a0_0 l0_1) else (some false))) else (pylonlaw16_TreeBridges.l0 k4 l1 t710 t714 t718 t722 t726 (wrap64 (x15_3 + 1)) a0_0 l0_1))))))) else (some false)) else (some false))) = some r := H
                              have A77 := Aside0.mk A770
                              clear A770
                              replace H := Option.bind_eq_some_iff.mp H
                              obtain ⟨⟨t742, t743⟩, A780, H⟩ := H
                              replace H : (if t739 = 0 then (if t743 = 0 then ((pylonlaw16_has.f k4 t710 (rd t722 x15_3)).bind fun t745 => (if (t745 != (t742 == (wrap64 (t726 + 1)))) = true then (some false) else ((pylonlaw16_has.f k4 t710 (rd t722 x15_3)).bind fun t747 => (if (t747 == x16_4) = true then (some false) else ((pylonlaw16_has.f k4 t710 (rd t722 x15_3)).bind fun t749 => (if t749 = true then ((pylonlaw16_has.f k4 t714 (rd t722 x15_3)).bind fun t751 => (if t751 = true then (pylonlaw16_TreeBridges.l0 k4 l1 t710 t714 t718 t722 t726 (wrap64 (x15_3 + 1)) a0_0 l0_1) else (some false))) else (pylonlaw16_TreeBridges.l0 k4 l1 t710 t714 t718 t722 t726 (wrap64 (x15_3 + 1)) a0_0 l0_1))))))) else (some false)) else (some false)) = some r := H
                              have A78 := Aside0.mk A780
                              clear A780
                              by_cases c79 : t739 = 0
                              · rw [if_pos c79] at H
                                have c79b0 : (t739 == 0) = true := beq_iff_eq.mpr c79
                                have c79b1 : (t739 != 0) = false := bne_eq_false_iff_eq.mpr c79
                                clear c79
                                by_cases c80 : t743 = 0
                                · rw [if_pos c80] at H
                                  have c80b0 : (t743 == 0) = true := beq_iff_eq.mpr c80
                                  have c80b1 : (t743 != 0) = false := bne_eq_false_iff_eq.mpr c80
                                  clear c80
                                  replace H := Option.bind_eq_some_iff.mp H
                                  obtain ⟨t745, A810, H⟩ := H
                                  replace H : (if (t745 != (t742 == (wrap64 (t726 + 1)))) = true then (some false) else ((pylonlaw16_has.f k4 t710 (rd t722 x15_3)).bind fun t747 => (if (t747 == x16_4) = true then (some false) else ((pylonlaw16_has.f k4 t710 (rd t722 x15_3)).bind fun t749 => (if t749 = true then ((pylonlaw16_has.f k4 t714 (rd t722 x15_3)).bind fun t751 => (if t751 = true then (pylonlaw16_TreeBridges.l0 k4 l1 t710 t714 t718 t722 t726 (wrap64 (x15_3 + 1)) a0_0 l0_1) else (some false))) else (pylonlaw16_TreeBridges.l0 k4 l1 t710 t714 t718 t722 t726 (wrap64 (x15_3 + 1)) a0_0 l0_1)))))) = some r := H
                                  have A81 := Aside0.mk A810
                                  clear A810
                                  by_cases c82 : (t745 != (t742 == (wrap64 (t726 + 1)))) = true
                                  · rw [if_pos c82] at H
                                    have c82b0 : (t745 != (t742 == (wrap64 (t726 + 1)))) = true := c82
                                    (try (have c82b1 : decide (t745 = (t742 == (wrap64 (t726 + 1)))) = false := by simpa using c82))
                                    (try (have c82b2 : (t745 == (t742 == (wrap64 (t726 + 1)))) = false := by simpa using c82))
                                    (try (have c82b3 : ¬ (t745 = (t742 == (wrap64 (t726 + 1)))) := by simpa using c82))
                                    clear c82
                                    obtain rfl := Option.some.inj H
                                    obtain ⟨Ao83, co83, eo83⟩ := Kd.N_slice HO_9.out
                                    subst eo83
                                    have p734 : 0 ≤ (x15_3 : Int) := of_decide_eq_true (by first | (with_reducible assumption) | assumption)
                                    have q734 : x15_3 < (t722.length : Int) := of_decide_eq_true (by first | (with_reducible assumption) | assumption)
                                    obtain ⟨ad734, e734, hx734_0⟩ := Kd.at_int (Kd.R_reads' HO_11.out).2.2 x15_3 p734 q734
                                    cases e734
                                    replace p734 := eq_true p734
                                    replace q734 := eq_true q734
                                    go_wp2_with (first | ((with_reducible refine gate_dst (N := 144) rfl ?_); (try (refine gate_guard (by rfl) ?_; dsimp only)); refine Kd.R_lit (Kd.int .i64) _ 3 ?hg (N := 144) ?hd (xs := ([rd t722 x15_3] : List Int)) (inner := [.int .i64 (rd t722 x15_3)]) (ok := fun _ => True) (okp := fun _ => True) ?hr ?hp (fun _ hk => hk) trivial (Below.refl _ _) (Nat.le_refl _) (by simp) ?_; (case hd => rfl); (case hg => rfl); (case hr => first | (go_simp; done) | (go_simp; rfl)); (case hp => exact (Reps.one (show Kd.M (Kd.int .i64) _ _ _ (rd t722 x15_3) [.int .i64 (rd t722 x15_3)] from rfl) (Reps.none _ _))); intro v736 w84 ho85 hb hg_ hnew_; clear hg_ hnew_; (first | rw [← Ny735.out] at ho85 | (simp only [Int.reduceToNat] at ho85; rw [← Ny735.out] at ho85)); have n0_ := Aside0.mk (Kd.V_elder' (by (with_reducible repeat (first | apply Kd.V_alloc | apply Kd.V_drewN | apply Kd.V_drew)); exact HO_1.out) (Kd.R_base ho85) hb); have n1_ := Aside0.mk (Kd.R_elder' (by (with_reducible repeat (first | apply Kd.R_alloc | apply Kd.R_drewN | apply Kd.R_drew)); exact HO_5.out) (Kd.R_base ho85) hb); have n2_ := Aside0.mk (Kd.R_elder' (by (with_reducible repeat (first | apply Kd.R_alloc | apply Kd.R_drewN | apply Kd.R_drew)); exact HO_7.out) (Kd.R_base ho85) hb); have n3_ := Aside0.mk (Kd.N_elder' (by (with_reducible repeat (first | apply Kd.N_alloc | apply Kd.N_drewN | apply Kd.N_drew)); exact HO_9.out) (Kd.R_base ho85) hb); have n4_ := Aside0.mk (Kd.R_elder' (by (with_reducible repeat (first | apply Kd.R_alloc | apply Kd.R_drewN | apply Kd.R_drew)); exact HO_11.out) (Kd.R_base ho85) hb); have n5_ := Aside0.mk (Kd.R_lower (Kd.R_new' (Kd.R_new' (Kd.R_new' (Kd.R_newM (M := fun k_ => (w.heap.size ≤ k_)) ho85 (below_size (by repeat (first | (with_reducible first | exact HB.out | apply below_alloc | apply pw_below_drewN | apply below_drew1 | refine below_set ?_ GE702.out) | exact HB.out))) (fun k_ h_ => h_)) (Kd.R_lt (by (with_reducible repeat (first | apply Kd.R_alloc | apply Kd.R_drewN | apply Kd.R_drew)); exact HO_5.out))) (Kd.R_lt (by (with_reducible repeat (first | apply Kd.R_alloc | apply Kd.R_drewN | apply Kd.R_drew)); exact HO_7.out))) (Kd.R_lt (by (with_reducible repeat (first | apply Kd.R_alloc | apply Kd.R_drewN | apply Kd.R_drew)); exact HO_11.out))) (below_size (by repeat (first | (with_reducible first | exact HB.out | apply below_alloc | apply pw_below_drewN | apply below_drew1 | refine below_set ?_ GE702.out) | exact HB.out)))); have n6_ := Aside0.mk (blk_below (g := gb702) (o := .cells #[.int .i64 a0_0, .slice A0_1 l0_1.length c0_1] 24 (0, 0)) (by (with_reducible repeat (first | refine blk_drewN ?_ _ | refine blk_drew ?_ | refine blk_alloc ?_ _)); exact BK702.out) hb); have n7_ := Aside0.mk (below_step (by repeat (first | (with_reducible first | exact HB.out | apply below_alloc | apply pw_below_drewN | apply below_drew1 | refine below_set ?_ GE702.out) | exact HB.out)) hb); clear HO_1; clear HO_5; clear HO_7; clear HO_9; clear HO_11; clear BK702; clear HB; have HO_1 := n0_; have HO_5 := n1_; have HO_7 := n2_; have HO_9 := n3_; have HO_11 := n4_; have HO737 := n5_; have BK702 := n6_; have HB := n7_; clear n0_ n1_ n2_ n3_ n4_ n5_ n6_ n7_; clear hb ho85; obtain ⟨Ao86, co86, eo86⟩ := Kd.R_slice HO737.out; subst eo86) | (go_at_call 49; (with_reducible refine (net_Union.calls _ _ l1 _ _ y735 t738 t739 _ ?side1 ?side2 ?side3 ?side4 A77.out).mono ?_); (case side1 => repeat (first | exact (Kd.V_reads' HO_1.out).2.2 | (with_reducible refine Kd.C_alloc ?_ _) | (with_reducible refine Kd.C_drewN ?_ _) | (with_reducible refine Kd.C_drew ?_))); (case side2 => exact (Kd.V_reads' HO_1.out).2.1); (case side3 => repeat (first | exact (Kd.R_reads' HO737.out).2.2 | (with_reducible refine Kd.C_alloc ?_ _) | (with_reducible refine Kd.C_drewN ?_ _) | (with_reducible refine Kd.C_drew ?_))); (case side4 => exact (Kd.R_reads' HO737.out).2.1); rintro e w87 ⟨v740, rfl, ho0, hb⟩; have n0_ := Aside0.mk (Kd.V_elder' (by (with_reducible repeat (first | apply Kd.V_alloc | apply Kd.V_drewN | apply Kd.V_drew)); exact HO_1.out) (Kd.R_base ho0) hb); have n1_ := Aside0.mk (Kd.R_elder' (by (with_reducible repeat (first | apply Kd.R_alloc | apply Kd.R_drewN | apply Kd.R_drew)); exact HO_5.out) (Kd.R_base ho0) hb); have n2_ := Aside0.mk (Kd.R_elder' (by (with_reducible repeat (first | apply Kd.R_alloc | apply Kd.R_drewN | apply Kd.R_drew)); exact HO_7.out) (Kd.R_base ho0) hb); have n3_ := Aside0.mk (Kd.N_elder' (by (with_reducible repeat (first | apply Kd.N_alloc | apply Kd.N_drewN | apply Kd.N_drew)); exact HO_9.out) (Kd.R_base ho0) hb); have n4_ := Aside0.mk (Kd.R_elder' (by (with_reducible repeat (first | apply Kd.R_alloc | apply Kd.R_drewN | apply Kd.R_drew)); exact HO_11.out) (Kd.R_base ho0) hb); have n5_ := Aside0.mk (Kd.R_elder' (by (with_reducible repeat (first | apply Kd.R_alloc | apply Kd.R_drewN | apply Kd.R_drew)); exact HO737.out) (Kd.R_base ho0) hb); have n6_ := Aside0.mk (Kd.R_lower (Kd.R_new' (Kd.R_new' (Kd.R_new' (Kd.R_new' (Kd.R_newM (M := fun k_ => (w.heap.size ≤ k_)) ho0 (below_size (by repeat (first | (with_reducible first | exact HB.out | apply below_alloc | apply pw_below_drewN | apply below_drew1 | refine below_set ?_ GE702.out) | exact HB.out))) (fun k_ h_ => h_)) (Kd.R_lt (by (with_reducible repeat (first | apply Kd.R_alloc | apply Kd.R_drewN | apply Kd.R_drew)); exact HO_5.out))) (Kd.R_lt (by (with_reducible repeat (first | apply Kd.R_alloc | apply Kd.R_drewN | apply Kd.R_drew)); exact HO_7.out))) (Kd.R_lt (by (with_reducible repeat (first | apply Kd.R_alloc | apply Kd.R_drewN | apply Kd.R_drew)); exact HO_11.out))) (Kd.R_lt (by (with_reducible repeat (first | apply Kd.R_alloc | apply Kd.R_drewN | apply Kd.R_drew)); exact HO737.out))) (below_size (by repeat (first | (with_reducible first | exact HB.out | apply below_alloc | apply pw_below_drewN | apply below_drew1 | refine below_set ?_ GE702.out) | exact HB.out)))); have n7_ := Aside0.mk (blk_below (g := gb702) (o := .cells #[.int .i64 a0_0, .slice A0_1 l0_1.length c0_1] 24 (0, 0)) (by (with_reducible repeat (first | refine blk_drewN ?_ _ | refine blk_drew ?_ | refine blk_alloc ?_ _)); exact BK702.out) hb); have n8_ := Aside0.mk (below_step (by repeat (first | (with_reducible first | exact HB.out | apply below_alloc | apply pw_below_drewN | apply below_drew1 | refine below_set ?_ GE702.out) | exact HB.out)) hb); clear HO_1; clear HO_5; clear HO_7; clear HO_9; clear HO_11; clear HO737; clear BK702; clear HB; have HO_1 := n0_; have HO_5 := n1_; have HO_7 := n2_; have HO_9 := n3_; have HO_11 := n4_; have HO737 := n5_; have HO741 := n6_; have BK702 := n7_; have HB := n8_; clear n0_ n1_ n2_ n3_ n4_ n5_ n6_ n7_ n8_; (try clear hb); (try clear hb2); (try clear hk); (try clear hi); (try clear ho0); have hcz88_0 : w87.cell? ⟨gb702, 0, none⟩ = some (.int .i64 a0_0) := (blk_cell BK702.out 0).trans rfl; have hcz88_1 : w87.cell? ⟨gb702, 1, none⟩ = some (.slice A0_1 l0_1.length c0_1) := (blk_cell BK702.out 1).trans rfl; have hfz88_0 := blk_frozen BK702.out 0; have hfz88_1 := blk_frozen BK702.out 1; obtain ⟨Ao89, co89, eo89⟩ := Kd.R_slice HO741.out; subst eo89) | (go_at_call 43; (with_reducible refine (island_Count.calls k4 a0_0 _ _ l0_1 _ _ t738 t742 t743 _ ?side1 ?side2 ?side3 ?side4 A78.out).mono ?_); (case side1 => repeat (first | exact (Kd.C_below HR0_1.out HB.out) | (with_reducible refine Kd.C_alloc ?_ _) | (with_reducible refine Kd.C_drewN ?_ _) | (with_reducible refine Kd.C_drew ?_))); (case side2 => exact HC0_1.out); (case side3 => repeat (first | exact (Kd.R_reads' HO741.out).2.2 | (with_reducible refine Kd.C_alloc ?_ _) | (with_reducible refine Kd.C_drewN ?_ _) | (with_reducible refine Kd.C_drew ?_))); (case side4 => exact (Kd.R_reads' HO741.out).2.1); rintro e w90 ⟨rfl, hb⟩; have n0_ := Aside0.mk (Kd.V_below (by (with_reducible repeat (first | apply Kd.V_alloc | apply Kd.V_drewN | apply Kd.V_drew)); exact HO_1.out) hb); have n1_ := Aside0.mk (Kd.R_below (by (with_reducible repeat (first | apply Kd.R_alloc | apply Kd.R_drewN | apply Kd.R_drew)); exact HO_5.out) hb); have n2_ := Aside0.mk (Kd.R_below (by (with_reducible repeat (first | apply Kd.R_alloc | apply Kd.R_drewN | apply Kd.R_drew)); exact HO_7.out) hb); have n3_ := Aside0.mk (Kd.N_below (by (with_reducible repeat (first | apply Kd.N_alloc | apply Kd.N_drewN | apply Kd.N_drew)); exact HO_9.out) hb); have n4_ := Aside0.mk (Kd.R_below (by (with_reducible repeat (first | apply Kd.R_alloc | apply Kd.R_drewN | apply Kd.R_drew)); exact HO_11.out) hb); have n5_ := Aside0.mk (Kd.R_below (by (with_reducible repeat (first | apply Kd.R_alloc | apply Kd.R_drewN | apply Kd.R_drew)); exact HO737.out) hb); have n6_ := Aside0.mk (Kd.R_below (by (with_reducible repeat (first | apply Kd.R_alloc | apply Kd.R_drewN | apply Kd.R_drew)); exact HO741.out) hb); have n7_ := Aside0.mk (blk_below (g := gb702) (o := .cells #[.int .i64 a0_0, .slice A0_1 l0_1.length c0_1] 24 (0, 0)) (by (with_reducible repeat (first | refine blk_drewN ?_ _ | refine blk_drew ?_ | refine blk_alloc ?_ _)); exact BK702.out) hb); have n8_ := Aside0.mk (below_step (by repeat (first | (with_reducible first | exact HB.out | apply below_alloc | apply pw_below_drewN | apply below_drew1 | refine below_set ?_ GE702.out) | exact HB.out)) hb); clear HO_1; clear HO_5; clear HO_7; clear HO_9; clear HO_11; clear HO737; clear HO741; clear BK702; clear HB; have HO_1 := n0_; have HO_5 := n1_; have HO_7 := n2_; have HO_9 := n3_; have HO_11 := n4_; have HO737 := n5_; have HO741 := n6_; have BK702 := n7_; have HB := n8_; clear n0_ n1_ n2_ n3_ n4_ n5_ n6_ n7_ n8_; (try clear hb); (try clear hb2); (try clear hk); (try clear hi); have p744 : 0 ≤ (x15_3 : Int) := of_decide_eq_true (by first | (with_reducible assumption) | assumption); have q744 : x15_3 < (t722.length : Int) := of_decide_eq_true (by first | (with_reducible assumption) | assumption); obtain ⟨ad744, e744, hx744_0⟩ := Kd.at_int (Kd.R_reads' HO_11.out).2.2 x15_3 p744 q744; obtain rfl : ad734 = ad744 := (by injection e744); replace p744 := eq_true p744; replace q744 := eq_true q744; obtain ⟨Ao91, co91, eo91⟩ := Kd.R_slice HO_5.out; subst eo91) | (go_at_call 60; (with_reducible refine (pylonlaw16_has.calls k4 _ _ t710 (rd t722 x15_3) t745 _ ?side1 ?side2 A81.out).mono ?_); (case side1 => repeat (first | exact (Kd.R_reads' HO_5.out).2.2 | (with_reducible refine Kd.C_alloc ?_ _) | (with_reducible refine Kd.C_drewN ?_ _) | (with_reducible refine Kd.C_drew ?_))); (case side2 => exact (Kd.R_reads' HO_5.out).2.1); rintro e w' ⟨rfl, ⟨nd, rfl⟩⟩; clear A81; (try first | exact ⟨rfl, _, World.drewN_drewN _ _ _⟩ | exact ⟨rfl, _, Eq.trans (World.drewN_drewN _ _ _) (congrArg (World.drewN _) (Nat.add_assoc _ _ _))⟩)) | (go_quiet (first | (go_at_call 60; (with_reducible refine (pylonlaw16_has.calls k4 _ _ t710 (rd t722 x15_3) t745 _ ?side1 ?side2 A81.out).mono ?_); (case side1 => repeat (first | exact (Kd.R_reads' HO_5.out).2.2 | (with_reducible refine Kd.C_alloc ?_ _) | (with_reducible refine Kd.C_drewN ?_ _) | (with_reducible refine Kd.C_drew ?_))); (case side2 => exact (Kd.R_reads' HO_5.out).2.1); rintro e w' ⟨rfl, ⟨nd, rfl⟩⟩; clear A81; (try first | exact ⟨rfl, _, World.drewN_drewN _ _ _⟩ | exact ⟨rfl, _, Eq.trans (World.drewN_drewN _ _ _) (congrArg (World.drewN _) (Nat.add_assoc _ _ _))⟩)))))
                                    go_ret
                                    exact ⟨by first | rfl | (simp [errW_none, errW_some] <;> rfl) | (simp [*, errW_none, errW_some] <;> rfl), by repeat (first | (with_reducible first | exact HB.out | apply below_alloc | apply pw_below_drewN | apply below_drew1 | refine below_set ?_ GE702.out) | exact HB.out)⟩
                                  · rw [if_neg c82] at H
                                    have c82b0 : (t745 != (t742 == (wrap64 (t726 + 1)))) = false := by simpa using c82
                                    (try (have c82b1 : decide (t745 = (t742 == (wrap64 (t726 + 1)))) = true := by simpa using c82))
                                    (try (have c82b2 : (t745 == (t742 == (wrap64 (t726 + 1)))) = true := by simpa using c82))
                                    clear c82
                                    replace H := Option.bind_eq_some_iff.mp H
                                    obtain ⟨t747, A920, H⟩ := H
                                    replace H : (if (t747 == x16_4) = true then (some false) else ((pylonlaw16_has.f k4 t710 (rd t722 x15_3)).bind fun t749 => (if t749 = true then ((pylonlaw16_has.f k4 t714 (rd t722 x15_3)).bind fun t751 => (if t751 = true then (pylonlaw16_TreeBridges.l0 k4 l1 t710 t714 t718 t722 t726 (wrap64 (x15_3 + 1)) a0_0 l0_1) else (some false))) else (pylonlaw16_TreeBridges.l0 k4 l1 t710 t714 t718 t722 t726 (wrap64 (x15_3 + 1)) a0_0 l0_1)))) = some r := H
                                    have A92 := Aside0.mk A920
                                    clear A920
                                    by_cases c93 : (t747 == x16_4) = true
                                    · rw [if_pos c93] at H
                                      have c93b0 : (t747 == x16_4) = true := c93
                                      (try (have c93b1 : decide (t747 = x16_4) = true := by simpa using c93))
                                      (try (have c93b2 : (t747 == x16_4) = true := by simpa using c93))
                                      clear c93
                                      obtain rfl := Option.some.inj H
                                      obtain ⟨Ao94, co94, eo94⟩ := Kd.N_slice HO_9.out
                                      subst eo94
                                      have p734 : 0 ≤ (x15_3 : Int) := of_decide_eq_true (by first | (with_reducible assumption) | assumption)
                                      have q734 : x15_3 < (t722.length : Int) := of_decide_eq_true (by first | (with_reducible assumption) | assumption)
                                      obtain ⟨ad734, e734, hx734_0⟩ := Kd.at_int (Kd.R_reads' HO_11.out).2.2 x15_3 p734 q734
                                      cases e734
                                      replace p734 := eq_true p734
                                      replace q734 := eq_true q734
                                      go_wp2_with (first | ((with_reducible refine gate_dst (N := 144) rfl ?_); (try (refine gate_guard (by rfl) ?_; dsimp only)); refine Kd.R_lit (Kd.int .i64) _ 3 ?hg (N := 144) ?hd (xs := ([rd t722 x15_3] : List Int)) (inner := [.int .i64 (rd t722 x15_3)]) (ok := fun _ => True) (okp := fun _ => True) ?hr ?hp (fun _ hk => hk) trivial (Below.refl _ _) (Nat.le_refl _) (by simp) ?_; (case hd => rfl); (case hg => rfl); (case hr => first | (go_simp; done) | (go_simp; rfl)); (case hp => exact (Reps.one (show Kd.M (Kd.int .i64) _ _ _ (rd t722 x15_3) [.int .i64 (rd t722 x15_3)] from rfl) (Reps.none _ _))); intro v736 w95 ho96 hb hg_ hnew_; clear hg_ hnew_; (first | rw [← Ny735.out] at ho96 | (simp only [Int.reduceToNat] at ho96; rw [← Ny735.out] at ho96)); have n0_ := Aside0.mk (Kd.V_elder' (by (with_reducible repeat (first | apply Kd.V_alloc | apply Kd.V_drewN | apply Kd.V_drew)); exact HO_1.out) (Kd.R_base ho96) hb); have n1_ := Aside0.mk (Kd.R_elder' (by (with_reducible repeat (first | apply Kd.R_alloc | apply Kd.R_drewN | apply Kd.R_drew)); exact HO_5.out) (Kd.R_base ho96) hb); have n2_ := Aside0.mk (Kd.R_elder' (by (with_reducible repeat (first | apply Kd.R_alloc | apply Kd.R_drewN | apply Kd.R_drew)); exact HO_7.out) (Kd.R_base ho96) hb); have n3_ := Aside0.mk (Kd.N_elder' (by (with_reducible repeat (first | apply Kd.N_alloc | apply Kd.N_drewN | apply Kd.N_drew)); exact HO_9.out) (Kd.R_base ho96) hb); have n4_ := Aside0.mk (Kd.R_elder' (by (with_reducible repeat (first | apply Kd.R_alloc | apply Kd.R_drewN | apply Kd.R_drew)); exact HO_11.out) (Kd.R_base ho96) hb); have n5_ := Aside0.mk (Kd.R_lower (Kd.R_new' (Kd.R_new' (Kd.R_new' (Kd.R_newM (M := fun k_ => (w.heap.size ≤ k_)) ho96 (below_size (by repeat (first | (with_reducible first | exact HB.out | apply below_alloc | apply pw_below_drewN | apply below_drew1 | refine below_set ?_ GE702.out) | exact HB.out))) (fun k_ h_ => h_)) (Kd.R_lt (by (with_reducible repeat (first | apply Kd.R_alloc | apply Kd.R_drewN | apply Kd.R_drew)); exact HO_5.out))) (Kd.R_lt (by (with_reducible repeat (first | apply Kd.R_alloc | apply Kd.R_drewN | apply Kd.R_drew)); exact HO_7.out))) (Kd.R_lt (by (with_reducible repeat (first | apply Kd.R_alloc | apply Kd.R_drewN | apply Kd.R_drew)); exact HO_11.out))) (below_size (by repeat (first | (with_reducible first | exact HB.out | apply below_alloc | apply pw_below_drewN | apply below_drew1 | refine below_set ?_ GE702.out) | exact HB.out)))); have n6_ := Aside0.mk (blk_below (g := gb702) (o := .cells #[.int .i64 a0_0, .slice A0_1 l0_1.length c0_1] 24 (0, 0)) (by (with_reducible repeat (first | refine blk_drewN ?_ _ | refine blk_drew ?_ | refine blk_alloc ?_ _)); exact BK702.out) hb); have n7_ := Aside0.mk (below_step (by repeat (first | (with_reducible first | exact HB.out | apply below_alloc | apply pw_below_drewN | apply below_drew1 | refine below_set ?_ GE702.out) | exact HB.out)) hb); clear HO_1; clear HO_5; clear HO_7; clear HO_9; clear HO_11; clear BK702; clear HB; have HO_1 := n0_; have HO_5 := n1_; have HO_7 := n2_; have HO_9 := n3_; have HO_11 := n4_; have HO737 := n5_; have BK702 := n6_; have HB := n7_; clear n0_ n1_ n2_ n3_ n4_ n5_ n6_ n7_; clear hb ho96; obtain ⟨Ao97, co97, eo97⟩ := Kd.R_slice HO737.out; subst eo97) | (go_at_call 49; (with_reducible refine (net_Union.calls _ _ l1 _ _ y735 t738 t739 _ ?side1 ?side2 ?side3 ?side4 A77.out).mono ?_); (case side1 => repeat (first | exact (Kd.V_reads' HO_1.out).2.2 | (with_reducible refine Kd.C_alloc ?_ _) | (with_reducible refine Kd.C_drewN ?_ _) | (with_reducible refine Kd.C_drew ?_))); (case side2 => exact (Kd.V_reads' HO_1.out).2.1); (case side3 => repeat (first | exact (Kd.R_reads' HO737.out).2.2 | (with_reducible refine Kd.C_alloc ?_ _) | (with_reducible refine Kd.C_drewN ?_ _) | (with_reducible refine Kd.C_drew ?_))); (case side4 => exact (Kd.R_reads' HO737.out).2.1); rintro e w98 ⟨v740, rfl, ho0, hb⟩; have n0_ := Aside0.mk (Kd.V_elder' (by (with_reducible repeat (first | apply Kd.V_alloc | apply Kd.V_drewN | apply Kd.V_drew)); exact HO_1.out) (Kd.R_base ho0) hb); have n1_ := Aside0.mk (Kd.R_elder' (by (with_reducible repeat (first | apply Kd.R_alloc | apply Kd.R_drewN | apply Kd.R_drew)); exact HO_5.out) (Kd.R_base ho0) hb); have n2_ := Aside0.mk (Kd.R_elder' (by (with_reducible repeat (first | apply Kd.R_alloc | apply Kd.R_drewN | apply Kd.R_drew)); exact HO_7.out) (Kd.R_base ho0) hb); have n3_ := Aside0.mk (Kd.N_elder' (by (with_reducible repeat (first | apply Kd.N_alloc | apply Kd.N_drewN | apply Kd.N_drew)); exact HO_9.out) (Kd.R_base ho0) hb); have n4_ := Aside0.mk (Kd.R_elder' (by (with_reducible repeat (first | apply Kd.R_alloc | apply Kd.R_drewN | apply Kd.R_drew)); exact HO_11.out) (Kd.R_base ho0) hb); have n5_ := Aside0.mk (Kd.R_elder' (by (with_reducible repeat (first | apply Kd.R_alloc | apply Kd.R_drewN | apply Kd.R_drew)); exact HO737.out) (Kd.R_base ho0) hb); have n6_ := Aside0.mk (Kd.R_lower (Kd.R_new' (Kd.R_new' (Kd.R_new' (Kd.R_new' (Kd.R_newM (M := fun k_ => (w.heap.size ≤ k_)) ho0 (below_size (by repeat (first | (with_reducible first | exact HB.out | apply below_alloc | apply pw_below_drewN | apply below_drew1 | refine below_set ?_ GE702.out) | exact HB.out))) (fun k_ h_ => h_)) (Kd.R_lt (by (with_reducible repeat (first | apply Kd.R_alloc | apply Kd.R_drewN | apply Kd.R_drew)); exact HO_5.out))) (Kd.R_lt (by (with_reducible repeat (first | apply Kd.R_alloc | apply Kd.R_drewN | apply Kd.R_drew)); exact HO_7.out))) (Kd.R_lt (by (with_reducible repeat (first | apply Kd.R_alloc | apply Kd.R_drewN | apply Kd.R_drew)); exact HO_11.out))) (Kd.R_lt (by (with_reducible repeat (first | apply Kd.R_alloc | apply Kd.R_drewN | apply Kd.R_drew)); exact HO737.out))) (below_size (by repeat (first | (with_reducible first | exact HB.out | apply below_alloc | apply pw_below_drewN | apply below_drew1 | refine below_set ?_ GE702.out) | exact HB.out)))); have n7_ := Aside0.mk (blk_below (g := gb702) (o := .cells #[.int .i64 a0_0, .slice A0_1 l0_1.length c0_1] 24 (0, 0)) (by (with_reducible repeat (first | refine blk_drewN ?_ _ | refine blk_drew ?_ | refine blk_alloc ?_ _)); exact BK702.out) hb); have n8_ := Aside0.mk (below_step (by repeat (first | (with_reducible first | exact HB.out | apply below_alloc | apply pw_below_drewN | apply below_drew1 | refine below_set ?_ GE702.out) | exact HB.out)) hb); clear HO_1; clear HO_5; clear HO_7; clear HO_9; clear HO_11; clear HO737; clear BK702; clear HB; have HO_1 := n0_; have HO_5 := n1_; have HO_7 := n2_; have HO_9 := n3_; have HO_11 := n4_; have HO737 := n5_; have HO741 := n6_; have BK702 := n7_; have HB := n8_; clear n0_ n1_ n2_ n3_ n4_ n5_ n6_ n7_ n8_; (try clear hb); (try clear hb2); (try clear hk); (try clear hi); (try clear ho0); have hcz99_0 : w98.cell? ⟨gb702, 0, none⟩ = some (.int .i64 a0_0) := (blk_cell BK702.out 0).trans rfl; have hcz99_1 : w98.cell? ⟨gb702, 1, none⟩ = some (.slice A0_1 l0_1.length c0_1) := (blk_cell BK702.out 1).trans rfl; have hfz99_0 := blk_frozen BK702.out 0; have hfz99_1 := blk_frozen BK702.out 1; obtain ⟨Ao100, co100, eo100⟩ := Kd.R_slice HO741.out; subst eo100) | (go_at_call 43; (with_reducible refine (island_Count.calls k4 a0_0 _ _ l0_1 _ _ t738 t742 t743 _ ?side1 ?side2 ?side3 ?side4 A78.out).mono ?_); (case side1 => repeat (first | exact (Kd.C_below HR0_1.out HB.out) | (with_reducible refine Kd.C_alloc ?_ _) | (with_reducible refine Kd.C_drewN ?_ _) | (with_reducible refine Kd.C_drew ?_))); (case side2 => exact HC0_1.out); (case side3 => repeat (first | exact (Kd.R_reads' HO741.out).2.2 | (with_reducible refine Kd.C_alloc ?_ _) | (with_reducible refine Kd.C_drewN ?_ _) | (with_reducible refine Kd.C_drew ?_))); (case side4 => exact (Kd.R_reads' HO741.out).2.1); rintro e w101 ⟨rfl, hb⟩; have n0_ := Aside0.mk (Kd.V_below (by (with_reducible repeat (first | apply Kd.V_alloc | apply Kd.V_drewN | apply Kd.V_drew)); exact HO_1.out) hb); have n1_ := Aside0.mk (Kd.R_below (by (with_reducible repeat (first | apply Kd.R_alloc | apply Kd.R_drewN | apply Kd.R_drew)); exact HO_5.out) hb); have n2_ := Aside0.mk (Kd.R_below (by (with_reducible repeat (first | apply Kd.R_alloc | apply Kd.R_drewN | apply Kd.R_drew)); exact HO_7.out) hb); have n3_ := Aside0.mk (Kd.N_below (by (with_reducible repeat (first | apply Kd.N_alloc | apply Kd.N_drewN | apply Kd.N_drew)); exact HO_9.out) hb); have n4_ := Aside0.mk (Kd.R_below (by (with_reducible repeat (first | apply Kd.R_alloc | apply Kd.R_drewN | apply Kd.R_drew)); exact HO_11.out) hb); have n5_ := Aside0.mk (Kd.R_below (by (with_reducible repeat (first | apply Kd.R_alloc | apply Kd.R_drewN | apply Kd.R_drew)); exact HO737.out) hb); have n6_ := Aside0.mk (Kd.R_below (by (with_reducible repeat (first | apply Kd.R_alloc | apply Kd.R_drewN | apply Kd.R_drew)); exact HO741.out) hb); have n7_ := Aside0.mk (blk_below (g := gb702) (o := .cells #[.int .i64 a0_0, .slice A0_1 l0_1.length c0_1] 24 (0, 0)) (by (with_reducible repeat (first | refine blk_drewN ?_ _ | refine blk_drew ?_ | refine blk_alloc ?_ _)); exact BK702.out) hb); have n8_ := Aside0.mk (below_step (by repeat (first | (with_reducible first | exact HB.out | apply below_alloc | apply pw_below_drewN | apply below_drew1 | refine below_set ?_ GE702.out) | exact HB.out)) hb); clear HO_1; clear HO_5; clear HO_7; clear HO_9; clear HO_11; clear HO737; clear HO741; clear BK702; clear HB; have HO_1 := n0_; have HO_5 := n1_; have HO_7 := n2_; have HO_9 := n3_; have HO_11 := n4_; have HO737 := n5_; have HO741 := n6_; have BK702 := n7_; have HB := n8_; clear n0_ n1_ n2_ n3_ n4_ n5_ n6_ n7_ n8_; (try clear hb); (try clear hb2); (try clear hk); (try clear hi); have p744 : 0 ≤ (x15_3 : Int) := of_decide_eq_true (by first | (with_reducible assumption) | assumption); have q744 : x15_3 < (t722.length : Int) := of_decide_eq_true (by first | (with_reducible assumption) | assumption); obtain ⟨ad744, e744, hx744_0⟩ := Kd.at_int (Kd.R_reads' HO_11.out).2.2 x15_3 p744 q744; obtain rfl : ad734 = ad744 := (by injection e744); replace p744 := eq_true p744; replace q744 := eq_true q744; obtain ⟨Ao102, co102, eo102⟩ := Kd.R_slice HO_5.out; subst eo102) | (go_at_call 60; (with_reducible refine (pylonlaw16_has.calls k4 _ _ t710 (rd t722 x15_3) t745 _ ?side1 ?side2 A81.out).mono ?_); (case side1 => repeat (first | exact (Kd.R_reads' HO_5.out).2.2 | (with_reducible refine Kd.C_alloc ?_ _) | (with_reducible refine Kd.C_drewN ?_ _) | (with_reducible refine Kd.C_drew ?_))); (case side2 => exact (Kd.R_reads' HO_5.out).2.1); rintro e w' ⟨rfl, ⟨nd, rfl⟩⟩; clear A81; (try first | exact ⟨rfl, _, World.drewN_drewN _ _ _⟩ | exact ⟨rfl, _, Eq.trans (World.drewN_drewN _ _ _) (congrArg (World.drewN _) (Nat.add_assoc _ _ _))⟩); have p746 : 0 ≤ (x15_3 : Int) := of_decide_eq_true (by first | (with_reducible assumption) | assumption); have q746 : x15_3 < (t722.length : Int) := of_decide_eq_true (by first | (with_reducible assumption) | assumption); obtain ⟨ad746, e746, hx746_0⟩ := Kd.at_int (Kd.R_reads' HO_11.out).2.2 x15_3 p746 q746; obtain rfl : ad734 = ad746 := (by injection e746); replace p746 := eq_true p746; replace q746 := eq_true q746) | (go_at_call 60; (with_reducible refine (pylonlaw16_has.calls k4 _ _ t710 (rd t722 x15_3) t747 _ ?side1 ?side2 A92.out).mono ?_); (case side1 => repeat (first | exact (Kd.R_reads' HO_5.out).2.2 | (with_reducible refine Kd.C_alloc ?_ _) | (with_reducible refine Kd.C_drewN ?_ _) | (with_reducible refine Kd.C_drew ?_))); (case side2 => exact (Kd.R_reads' HO_5.out).2.1); rintro e w' ⟨rfl, ⟨nd, rfl⟩⟩; clear A92; (try first | exact ⟨rfl, _, World.drewN_drewN _ _ _⟩ | exact ⟨rfl, _, Eq.trans (World.drewN_drewN _ _ _) (congrArg (World.drewN _) (Nat.add_assoc _ _ _))⟩)) | (go_quiet (first | (go_at_call 60; (with_reducible refine (pylonlaw16_has.calls k4 _ _ t710 (rd t722 x15_3) t745 _ ?side1 ?side2 A81.out).mono ?_); (case side1 => repeat (first | exact (Kd.R_reads' HO_5.out).2.2 | (with_reducible refine Kd.C_alloc ?_ _) | (with_reducible refine Kd.C_drewN ?_ _) | (with_reducible refine Kd.C_drew ?_))); (case side2 => exact (Kd.R_reads' HO_5.out).2.1); rintro e w' ⟨rfl, ⟨nd, rfl⟩⟩; clear A81; (try first | exact ⟨rfl, _, World.drewN_drewN _ _ _⟩ | exact ⟨rfl, _, Eq.trans (World.drewN_drewN _ _ _) (congrArg (World.drewN _) (Nat.add_assoc _ _ _))⟩); have p746 : 0 ≤ (x15_3 : Int) := of_decide_eq_true (by first | (with_reducible assumption) | assumption); have q746 : x15_3 < (t722.length : Int) := of_decide_eq_true (by first | (with_reducible assumption) | assumption); obtain ⟨ad746, e746, hx746_0⟩ := Kd.at_int (Kd.R_reads' HO_11.out).2.2 x15_3 p746 q746; obtain rfl : ad734 = ad746 := (by injection e746); replace p746 := eq_true p746; replace q746 := eq_true q746) | (go_at_call 60; (with_reducible refine (pylonlaw16_has.calls k4 _ _ t710 (rd t722 x15_3) t747 _ ?side1 ?side2 A92.out).mono ?_); (case side1 => repeat (first | exact (Kd.R_reads' HO_5.out).2.2 | (with_reducible refine Kd.C_alloc ?_ _) | (with_reducible refine Kd.C_drewN ?_ _) | (with_reducible refine Kd.C_drew ?_))); (case side2 => exact (Kd.R_reads' HO_5.out).2.1); rintro e w' ⟨rfl, ⟨nd, rfl⟩⟩; clear A92; (try first | exact ⟨rfl, _, World.drewN_drewN _ _ _⟩ | exact ⟨rfl, _, Eq.trans (World.drewN_drewN _ _ _) (congrArg (World.drewN _) (Nat.add_assoc _ _ _))⟩)))))
                                      go_ret
                                      exact ⟨by first | rfl | (simp [errW_none, errW_some] <;> rfl) | (simp [*, errW_none, errW_some] <;> rfl), by repeat (first | (with_reducible first | exact HB.out | apply below_alloc | apply pw_below_drewN | apply below_drew1 | refine below_set ?_ GE702.out) | exact HB.out)⟩
                                    · rw [if_neg c93] at H
                                      have c93b0 : (t747 == x16_4) = false := by simpa using c93
                                      (try (have c93b1 : decide (t747 = x16_4) = false := by simpa using c93))
                                      (try (have c93b2 : (t747 == x16_4) = false := by simpa using c93))
                                      (try (have c93b3 : ¬ (t747 = x16_4) := by simpa using c93))
                                      clear c93
                                      replace H := Option.bind_eq_some_iff.mp H
                                      obtain ⟨t749, A1030, H⟩ := H
                                      replace H : (if t749 = true then ((pylonlaw16_has.f k4 t714 (rd t722 x15_3)).bind fun t751 => (if t751 = true then (pylonlaw16_TreeBridges.l0 k4 l1 t710 t714 t718 t722 t726 (wrap64 (x15_3 + 1)) a0_0 l0_1) else (some false))) else (pylonlaw16_TreeBridges.l0 k4 l1 t710 t714 t718 t722 t726 (wrap64 (x15_3 + 1)) a0_0 l0_1)) = some r := H
                                      have A103 := Aside0.mk A1030
                                      clear A1030
                                      by_cases c104 : t749 = true
                                      · as_aux_lemma =>
                                        subst c104
                                        have H1 : ((pylonlaw16_has.f k4 t714 (rd t722 x15_3)).bind fun t751 => (if t751 = true then (pylonlaw16_TreeBridges.l0 k4 l1 t710 t714 t718 t722 t726 (wrap64 (x15_3 + 1)) a0_0 l0_1) else (some false))) = some r := by rw [if_pos rfl] at H; exact H
                                        clear H
                                        have H := H1
                                        clear H1
                                        replace H := Option.bind_eq_some_iff.mp H
                                        obtain ⟨t751, A1050, H⟩ := H
                                        replace H : (if t751 = true then (pylonlaw16_TreeBridges.l0 k4 l1 t710 t714 t718 t722 t726 (wrap64 (x15_3 + 1)) a0_0 l0_1) else (some false)) = some r := H
                                        have A105 := Aside0.mk A1050
                                        clear A1050
                                        by_cases c106 : t751 = true
                                        · as_aux_lemma =>
                                          subst c106
                                          have H1 : (pylonlaw16_TreeBridges.l0 k4 l1 t710 t714 t718 t722 t726 (wrap64 (x15_3 + 1)) a0_0 l0_1) = some r := by rw [if_pos rfl] at H; exact H
                                          clear H
                                          have H := H1
                                          clear H1
                                          have H' := Aside0.mk H
                                          clear H
                                          obtain ⟨Ao107, co107, eo107⟩ := Kd.N_slice HO_9.out
                                          subst eo107
                                          have p734 : 0 ≤ (x15_3 : Int) := of_decide_eq_true (by first | (with_reducible assumption) | assumption)
                                          have q734 : x15_3 < (t722.length : Int) := of_decide_eq_true (by first | (with_reducible assumption) | assumption)
                                          obtain ⟨ad734, e734, hx734_0⟩ := Kd.at_int (Kd.R_reads' HO_11.out).2.2 x15_3 p734 q734
                                          cases e734
                                          replace p734 := eq_true p734
                                          replace q734 := eq_true q734
                                          go_wp2_with (first | ((with_reducible refine gate_dst (N := 144) rfl ?_); (try (refine gate_guard (by rfl) ?_; dsimp only)); refine Kd.R_lit (Kd.int .i64) _ 3 ?hg (N := 144) ?hd (xs := ([rd t722 x15_3] : List Int)) (inner := [.int .i64 (rd t722 x15_3)]) (ok := fun _ => True) (okp := fun _ => True) ?hr ?hp (fun _ hk => hk) trivial (Below.refl _ _) (Nat.le_refl _) (by simp) ?_; (case hd => rfl); (case hg => rfl); (case hr => first | (go_simp; done) | (go_simp; rfl)); (case hp => exact (Reps.one (show Kd.M (Kd.int .i64) _ _ _ (rd t722 x15_3) [.int .i64 (rd t722 x15_3)] from rfl) (Reps.none _ _))); intro v736 w108 ho109 hb hg_ hnew_; clear hg_ hnew_; (first | rw [← Ny735.out] at ho109 | (simp only [Int.reduceToNat] at ho109; rw [← Ny735.out] at ho109)); have n0_ := Aside0.mk (Kd.V_elder' (by (with_reducible repeat (first | apply Kd.V_alloc | apply Kd.V_drewN | apply Kd.V_drew)); exact HO_1.out) (Kd.R_base ho109) hb); have n1_ := Aside0.mk (Kd.R_elder' (by (with_reducible repeat (first | apply Kd.R_alloc | apply Kd.R_drewN | apply Kd.R_drew)); exact HO_5.out) (Kd.R_base ho109) hb); have n2_ := Aside0.mk (Kd.R_elder' (by (with_reducible repeat (first | apply Kd.R_alloc | apply Kd.R_drewN | apply Kd.R_drew)); exact HO_7.out) (Kd.R_base ho109) hb); have n3_ := Aside0.mk (Kd.N_elder' (by (with_reducible repeat (first | apply Kd.N_alloc | apply Kd.N_drewN | apply Kd.N_drew)); exact HO_9.out) (Kd.R_base ho109) hb); have n4_ := Aside0.mk (Kd.R_elder' (by (with_reducible repeat (first | apply Kd.R_alloc | apply Kd.R_drewN | apply Kd.R_drew)); exact HO_11.out) (Kd.R_base ho109) hb); have n5_ := Aside0.mk (Kd.R_lower (Kd.R_new' (Kd.R_new' (Kd.R_new' (Kd.R_newM (M := fun k_ => (w.heap.size ≤ k_)) ho109 (below_size (by repeat (first | (with_reducible first | exact HB.out | apply below_alloc | apply pw_below_drewN | apply below_drew1 | refine below_set ?_ GE702.out) | exact HB.out))) (fun k_ h_ => h_)) (Kd.R_lt (by (with_reducible repeat (first | apply Kd.R_alloc | apply Kd.R_drewN | apply Kd.R_drew)); exact HO_5.out))) (Kd.R_lt (by (with_reducible repeat (first | apply Kd.R_alloc | apply Kd.R_drewN | apply Kd.R_drew)); exact HO_7.out))) (Kd.R_lt (by (with_reducible repeat (first | apply Kd.R_alloc | apply Kd.R_drewN | apply Kd.R_drew)); exact HO_11.out))) (below_size (by repeat (first | (with_reducible first | exact HB.out | apply below_alloc | apply pw_below_drewN | apply below_drew1 | refine below_set ?_ GE702.out) | exact HB.out)))); have n6_ := Aside0.mk (blk_below (g := gb702) (o := .cells #[.int .i64 a0_0, .slice A0_1 l0_1.length c0_1] 24 (0, 0)) (by (with_reducible repeat (first | refine blk_drewN ?_ _ | refine blk_drew ?_ | refine blk_alloc ?_ _)); exact BK702.out) hb); have n7_ := Aside0.mk (below_step (by repeat (first | (with_reducible first | exact HB.out | apply below_alloc | apply pw_below_drewN | apply below_drew1 | refine below_set ?_ GE702.out) | exact HB.out)) hb); clear HO_1; clear HO_5; clear HO_7; clear HO_9; clear HO_11; clear BK702; clear HB; have HO_1 := n0_; have HO_5 := n1_; have HO_7 := n2_; have HO_9 := n3_; have HO_11 := n4_; have HO737 := n5_; have BK702 := n6_; have HB := n7_; clear n0_ n1_ n2_ n3_ n4_ n5_ n6_ n7_; clear hb ho109; obtain ⟨Ao110, co110, eo110⟩ := Kd.R_slice HO737.out; subst eo110) | (go_at_call 49; (with_reducible refine (net_Union.calls _ _ l1 _ _ y735 t738 t739 _ ?side1 ?side2 ?side3 ?side4 A77.out).mono ?_); (case side1 => repeat (first | exact (Kd.V_reads' HO_1.out).2.2 | (with_reducible refine Kd.C_alloc ?_ _) | (with_reducible refine Kd.C_drewN ?_ _) | (with_reducible refine Kd.C_drew ?_))); (case side2 => exact (Kd.V_reads' HO_1.out).2.1); (case side3 => repeat (first | exact (Kd.R_reads' HO737.out).2.2 | (with_reducible refine Kd.C_alloc ?_ _) | (with_reducible refine Kd.C_drewN ?_ _) | (with_reducible refine Kd.C_drew ?_))); (case side4 => exact (Kd.R_reads' HO737.out).2.1); rintro e w111 ⟨v740, rfl, ho0, hb⟩; have n0_ := Aside0.mk (Kd.V_elder' (by (with_reducible repeat (first | apply Kd.V_alloc | apply Kd.V_drewN | apply Kd.V_drew)); exact HO_1.out) (Kd.R_base ho0) hb); have n1_ := Aside0.mk (Kd.R_elder' (by (with_reducible repeat (first | apply Kd.R_alloc | apply Kd.R_drewN | apply Kd.R_drew)); exact HO_5.out) (Kd.R_base ho0) hb); have n2_ := Aside0.mk (Kd.R_elder' (by (with_reducible repeat (first | apply Kd.R_alloc | apply Kd.R_drewN | apply Kd.R_drew)); exact HO_7.out) (Kd.R_base ho0) hb); have n3_ := Aside0.mk (Kd.N_elder' (by (with_reducible repeat (first | apply Kd.N_alloc | apply Kd.N_drewN | apply Kd.N_drew)); exact HO_9.out) (Kd.R_base ho0) hb); have n4_ := Aside0.mk (Kd.R_elder' (by (with_reducible repeat (first | apply Kd.R_alloc | apply Kd.R_drewN | apply Kd.R_drew)); exact HO_11.out) (Kd.R_base ho0) hb); have n5_ := Aside0.mk (Kd.R_elder' (by (with_reducible repeat (first | apply Kd.R_alloc | apply Kd.R_drewN | apply Kd.R_drew)); exact HO737.out) (Kd.R_base ho0) hb); have n6_ := Aside0.mk (Kd.R_lower (Kd.R_new' (Kd.R_new' (Kd.R_new' (Kd.R_new' (Kd.R_newM (M := fun k_ => (w.heap.size ≤ k_)) ho0 (below_size (by repeat (first | (with_reducible first | exact HB.out | apply below_alloc | apply pw_below_drewN | apply below_drew1 | refine below_set ?_ GE702.out) | exact HB.out))) (fun k_ h_ => h_)) (Kd.R_lt (by (with_reducible repeat (first | apply Kd.R_alloc | apply Kd.R_drewN | apply Kd.R_drew)); exact HO_5.out))) (Kd.R_lt (by (with_reducible repeat (first | apply Kd.R_alloc | apply Kd.R_drewN | apply Kd.R_drew)); exact HO_7.out))) (Kd.R_lt (by (with_reducible repeat (first | apply Kd.R_alloc | apply Kd.R_drewN | apply Kd.R_drew)); exact HO_11.out))) (Kd.R_lt (by (with_reducible repeat (first | apply Kd.R_alloc | apply Kd.R_drewN | apply Kd.R_drew)); exact HO737.out))) (below_size (by repeat (first | (with_reducible first | exact HB.out | apply below_alloc | apply pw_below_drewN | apply below_drew1 | refine below_set ?_ GE702.out) | exact HB.out)))); have n7_ := Aside0.mk (blk_below (g := gb702) (o := .cells #[.int .i64 a0_0, .slice A0_1 l0_1.length c0_1] 24 (0, 0)) (by (with_reducible repeat (first | refine blk_drewN ?_ _ | refine blk_drew ?_ | refine blk_alloc ?_ _)); exact BK702.out) hb); have n8_ := Aside0.mk (below_step (by repeat (first | (with_reducible first | exact HB.out | apply below_alloc | apply pw_below_drewN | apply below_drew1 | refine below_set ?_ GE702.out) | exact HB.out)) hb); clear HO_1; clear HO_5; clear HO_7; clear HO_9; clear HO_11; clear HO737; clear BK702; clear HB; have HO_1 := n0_; have HO_5 := n1_; have HO_7 := n2_; have HO_9 := n3_; have HO_11 := n4_; have HO737 := n5_; have HO741 := n6_; have BK702 := n7_; have HB := n8_; clear n0_ n1_ n2_ n3_ n4_ n5_ n6_ n7_ n8_; (try clear hb); (try clear hb2); (try clear hk); (try clear hi); (try clear ho0); have hcz112_0 : w111.cell? ⟨gb702, 0, none⟩ = some (.int .i64 a0_0) := (blk_cell BK702.out 0).trans rfl; have hcz112_1 : w111.cell? ⟨gb702, 1, none⟩ = some (.slice A0_1 l0_1.length c0_1) := (blk_cell BK702.out 1).trans rfl; have hfz112_0 := blk_frozen BK702.out 0; have hfz112_1 := blk_frozen BK702.out 1; obtain ⟨Ao113, co113, eo113⟩ := Kd.R_slice HO741.out; subst eo113) | (go_at_call 43; (with_reducible refine (island_Count.calls k4 a0_0 _ _ l0_1 _ _ t738 t742 t743 _ ?side1 ?side2 ?side3 ?side4 A78.out).mono ?_); (case side1 => repeat (first | exact (Kd.C_below HR0_1.out HB.out) | (with_reducible refine Kd.C_alloc ?_ _) | (with_reducible refine Kd.C_drewN ?_ _) | (with_reducible refine Kd.C_drew ?_))); (case side2 => exact HC0_1.out); (case side3 => repeat (first | exact (Kd.R_reads' HO741.out).2.2 | (with_reducible refine Kd.C_alloc ?_ _) | (with_reducible refine Kd.C_drewN ?_ _) | (with_reducible refine Kd.C_drew ?_))); (case side4 => exact (Kd.R_reads' HO741.out).2.1); rintro e w114 ⟨rfl, hb⟩; have n0_ := Aside0.mk (Kd.V_below (by (with_reducible repeat (first | apply Kd.V_alloc | apply Kd.V_drewN | apply Kd.V_drew)); exact HO_1.out) hb); have n1_ := Aside0.mk (Kd.R_below (by (with_reducible repeat (first | apply Kd.R_alloc | apply Kd.R_drewN | apply Kd.R_drew)); exact HO_5.out) hb); have n2_ := Aside0.mk (Kd.R_below (by (with_reducible repeat (first | apply Kd.R_alloc | apply Kd.R_drewN | apply Kd.R_drew)); exact HO_7.out) hb); have n3_ := Aside0.mk (Kd.N_below (by (with_reducible repeat (first | apply Kd.N_alloc | apply Kd.N_drewN | apply Kd.N_drew)); exact HO_9.out) hb); have n4_ := Aside0.mk (Kd.R_below (by (with_reducible repeat (first | apply Kd.R_alloc | apply Kd.R_drewN | apply Kd.R_drew)); exact HO_11.out) hb); have n5_ := Aside0.mk (Kd.R_below (by (with_reducible repeat (first | apply Kd.R_alloc | apply Kd.R_drewN | apply Kd.R_drew)); exact HO737.out) hb); have n6_ := Aside0.mk (Kd.R_below (by (with_reducible repeat (first | apply Kd.R_alloc | apply Kd.R_drewN | apply Kd.R_drew)); exact HO741.out) hb); have n7_ := Aside0.mk (blk_below (g := gb702) (o := .cells #[.int .i64 a0_0, .slice A0_1 l0_1.length c0_1] 24 (0, 0)) (by (with_reducible repeat (first | refine blk_drewN ?_ _ | refine blk_drew ?_ | refine blk_alloc ?_ _)); exact BK702.out) hb); have n8_ := Aside0.mk (below_step (by repeat (first | (with_reducible first | exact HB.out | apply below_alloc | apply pw_below_drewN | apply below_drew1 | refine below_set ?_ GE702.out) | exact HB.out)) hb); clear HO_1; clear HO_5; clear HO_7; clear HO_9; clear HO_11; clear HO737; clear HO741; clear BK702; clear HB; have HO_1 := n0_; have HO_5 := n1_; have HO_7 := n2_; have HO_9 := n3_; have HO_11 := n4_; have HO737 := n5_; have HO741 := n6_; have BK702 := n7_; have HB := n8_; clear n0_ n1_ n2_ n3_ n4_ n5_ n6_ n7_ n8_; (try clear hb); (try clear hb2); (try clear hk); (try clear hi); have p744 : 0 ≤ (x15_3 : Int) := of_decide_eq_true (by first | (with_reducible assumption) | assumption); have q744 : x15_3 < (t722.length : Int) := of_decide_eq_true (by first | (with_reducible assumption) | assumption); obtain ⟨ad744, e744, hx744_0⟩ := Kd.at_int (Kd.R_reads' HO_11.out).2.2 x15_3 p744 q744; obtain rfl : ad734 = ad744 := (by injection e744); replace p744 := eq_true p744; replace q744 := eq_true q744; obtain ⟨Ao115, co115, eo115⟩ := Kd.R_slice HO_5.out; subst eo115) | (go_at_call 60; (with_reducible refine (pylonlaw16_has.calls k4 _ _ t710 (rd t722 x15_3) t745 _ ?side1 ?side2 A81.out).mono ?_); (case side1 => repeat (first | exact (Kd.R_reads' HO_5.out).2.2 | (with_reducible refine Kd.C_alloc ?_ _) | (with_reducible refine Kd.C_drewN ?_ _) | (with_reducible refine Kd.C_drew ?_))); (case side2 => exact (Kd.R_reads' HO_5.out).2.1); rintro e w' ⟨rfl, ⟨nd, rfl⟩⟩; clear A81; (try first | exact ⟨rfl, _, World.drewN_drewN _ _ _⟩ | exact ⟨rfl, _, Eq.trans (World.drewN_drewN _ _ _) (congrArg (World.drewN _) (Nat.add_assoc _ _ _))⟩); have p746 : 0 ≤ (x15_3 : Int) := of_decide_eq_true (by first | (with_reducible assumption) | assumption); have q746 : x15_3 < (t722.length : Int) := of_decide_eq_true (by first | (with_reducible assumption) | assumption); obtain ⟨ad746, e746, hx746_0⟩ := Kd.at_int (Kd.R_reads' HO_11.out).2.2 x15_3 p746 q746; obtain rfl : ad734 = ad746 := (by injection e746); replace p746 := eq_true p746; replace q746 := eq_true q746) | (go_at_call 60; (with_reducible refine (pylonlaw16_has.calls k4 _ _ t710 (rd t722 x15_3) t747 _ ?side1 ?side2 A92.out).mono ?_); (case side1 => repeat (first | exact (Kd.R_reads' HO_5.out).2.2 | (with_reducible refine Kd.C_alloc ?_ _) | (with_reducible refine Kd.C_drewN ?_ _) | (with_reducible refine Kd.C_drew ?_))); (case side2 => exact (Kd.R_reads' HO_5.out).2.1); rintro e w' ⟨rfl, ⟨nd, rfl⟩⟩; clear A92; (try first | exact ⟨rfl, _, World.drewN_drewN _ _ _⟩ | exact ⟨rfl, _, Eq.trans (World.drewN_drewN _ _ _) (congrArg (World.drewN _) (Nat.add_assoc _ _ _))⟩); have p748 : 0 ≤ (x15_3 : Int) := of_decide_eq_true (by first | (with_reducible assumption) | assumption); have q748 : x15_3 < (t722.length : Int) := of_decide_eq_true (by first | (with_reducible assumption) | assumption); obtain ⟨ad748, e748, hx748_0⟩ := Kd.at_int (Kd.R_reads' HO_11.out).2.2 x15_3 p748 q748; obtain rfl : ad734 = ad748 := (by injection e748); replace p748 := eq_true p748; replace q748 := eq_true q748) | (go_at_call 60; (with_reducible refine (pylonlaw16_has.calls k4 _ _ t710 (rd t722 x15_3) true _ ?side1 ?side2 A103.out).mono ?_); (case side1 => repeat (first | exact (Kd.R_reads' HO_5.out).2.2 | (with_reducible refine Kd.C_alloc ?_ _) | (with_reducible refine Kd.C_drewN ?_ _) | (with_reducible refine Kd.C_drew ?_))); (case side2 => exact (Kd.R_reads' HO_5.out).2.1); rintro e w' ⟨rfl, ⟨nd, rfl⟩⟩; clear A103; (try first | exact ⟨rfl, _, World.drewN_drewN _ _ _⟩ | exact ⟨rfl, _, Eq.trans (World.drewN_drewN _ _ _) (congrArg (World.drewN _) (Nat.add_assoc _ _ _))⟩); have p750 : 0 ≤ (x15_3 : Int) := of_decide_eq_true (by first | (with_reducible assumption) | assumption); have q750 : x15_3 < (t722.length : Int) := of_decide_eq_true (by first | (with_reducible assumption) | assumption); obtain ⟨ad750, e750, hx750_0⟩ := Kd.at_int (Kd.R_reads' HO_11.out).2.2 x15_3 p750 q750; obtain rfl : ad734 = ad750 := (by injection e750); replace p750 := eq_true p750; replace q750 := eq_true q750; obtain ⟨Ao116, co116, eo116⟩ := Kd.R_slice HO_7.out; subst eo116) | (go_at_call 60; (with_reducible refine (pylonlaw16_has.calls k4 _ _ t714 (rd t722 x15_3) true _ ?side1 ?side2 A105.out).mono ?_); (case side1 => repeat (first | exact (Kd.R_reads' HO_7.out).2.2 | (with_reducible refine Kd.C_alloc ?_ _) | (with_reducible refine Kd.C_drewN ?_ _) | (with_reducible refine Kd.C_drew ?_))); (case side2 => exact (Kd.R_reads' HO_7.out).2.1); rintro e w' ⟨rfl, ⟨nd, rfl⟩⟩; clear A105; (try first | exact ⟨rfl, _, World.drewN_drewN _ _ _⟩ | exact ⟨rfl, _, Eq.trans (World.drewN_drewN _ _ _) (congrArg (World.drewN _) (Nat.add_assoc _ _ _))⟩)) | (go_quiet (first | (go_at_call 60; (with_reducible refine (pylonlaw16_has.calls k4 _ _ t710 (rd t722 x15_3) t745 _ ?side1 ?side2 A81.out).mono ?_); (case side1 => repeat (first | exact (Kd.R_reads' HO_5.out).2.2 | (with_reducible refine Kd.C_alloc ?_ _) | (with_reducible refine Kd.C_drewN ?_ _) | (with_reducible refine Kd.C_drew ?_))); (case side2 => exact (Kd.R_reads' HO_5.out).2.1); rintro e w' ⟨rfl, ⟨nd, rfl⟩⟩; clear A81; (try first | exact ⟨rfl, _, World.drewN_drewN _ _ _⟩ | exact ⟨rfl, _, Eq.trans (World.drewN_drewN _ _ _) (congrArg (World.drewN _) (Nat.add_assoc _ _ _))⟩); have p746 : 0 ≤ (x15_3 : Int) := of_decide_eq_true (by first | (with_reducible assumption) | assumption); have q746 : x15_3 < (t722.length : Int) := of_decide_eq_true (by first | (with_reducible assumption) | assumption); obtain ⟨ad746, e746, hx746_0⟩ := Kd.at_int (Kd.R_reads' HO_11.out).2.2 x15_3 p746 q746; obtain rfl : ad734 = ad746 := (by injection e746); replace p746 := eq_true p746; replace q746 := eq_true q746) | (go_at_call 60; (with_reducible refine (pylonlaw16_has.calls k4 _ _ t710 (rd t722 x15_3) t747 _ ?side1 ?side2 A92.out).mono ?_); (case side1 => repeat (first | exact (Kd.R_reads' HO_5.out).2.2 | (with_reducible refine Kd.C_alloc ?_ _) | (with_reducible refine Kd.C_drewN ?_ _) | (with_reducible refine Kd.C_drew ?_))); (case side2 => exact (Kd.R_reads' HO_5.out).2.1); rintro e w' ⟨rfl, ⟨nd, rfl⟩⟩; clear A92; (try first | exact ⟨rfl, _, World.drewN_drewN _ _ _⟩ | exact ⟨rfl, _, Eq.trans (World.drewN_drewN _ _ _) (congrArg (World.drewN _) (Nat.add_assoc _ _ _))⟩); have p748 : 0 ≤ (x15_3 : Int) := of_decide_eq_true (by first | (with_reducible assumption) | assumption); have q748 : x15_3 < (t722.length : Int) := of_decide_eq_true (by first | (with_reducible assumption) | assumption); obtain ⟨ad748, e748, hx748_0⟩ := Kd.at_int (Kd.R_reads' HO_11.out).2.2 x15_3 p748 q748; obtain rfl : ad734 = ad748 := (by injection e748); replace p748 := eq_true p748; replace q748 := eq_true q748) | (go_at_call 60; (with_reducible refine (pylonlaw16_has.calls k4 _ _ t710 (rd t722 x15_3) true _ ?side1 ?side2 A103.out).mono ?_); (case side1 => repeat (first | exact (Kd.R_reads' HO_5.out).2.2 | (with_reducible refine Kd.C_alloc ?_ _) | (with_reducible refine Kd.C_drewN ?_ _) | (with_reducible refine Kd.C_drew ?_))); (case side2 => exact (Kd.R_reads' HO_5.out).2.1); rintro e w' ⟨rfl, ⟨nd, rfl⟩⟩; clear A103; (try first | exact ⟨rfl, _, World.drewN_drewN _ _ _⟩ | exact ⟨rfl, _, Eq.trans (World.drewN_drewN _ _ _) (congrArg (World.drewN _) (Nat.add_assoc _ _ _))⟩); have p750 : 0 ≤ (x15_3 : Int) := of_decide_eq_true (by first | (with_reducible assumption) | assumption); have q750 : x15_3 < (t722.length : Int) := of_decide_eq_true (by first | (with_reducible assumption) | assumption); obtain ⟨ad750, e750, hx750_0⟩ := Kd.at_int (Kd.R_reads' HO_11.out).2.2 x15_3 p750 q750; obtain rfl : ad734 = ad750 := (by injection e750); replace p750 := eq_true p750; replace q750 := eq_true q750; obtain ⟨Ao116, co116, eo116⟩ := Kd.R_slice HO_7.out; subst eo116) | (go_at_call 60; (with_reducible refine (pylonlaw16_has.calls k4 _ _ t714 (rd t722 x15_3) true _ ?side1 ?side2 A105.out).mono ?_); (case side1 => repeat (first | exact (Kd.R_reads' HO_7.out).2.2 | (with_reducible refine Kd.C_alloc ?_ _) | (with_reducible refine Kd.C_drewN ?_ _) | (with_reducible refine Kd.C_drew ?_))); (case side2 => exact (Kd.R_reads' HO_7.out).2.1); rintro e w' ⟨rfl, ⟨nd, rfl⟩⟩; clear A105; (try first | exact ⟨rfl, _, World.drewN_drewN _ _ _⟩ | exact ⟨rfl, _, Eq.trans (World.drewN_drewN _ _ _) (congrArg (World.drewN _) (Nat.add_assoc _ _ _))⟩)))))
                                          go_roundg k4
                                          case measure => have := HJ2.out; have := HJ36.out; have := HK3.out; have := HK4.out; omega
                                          case rel => exact ⟨(wrap64 (x15_3 + 1)), (by first | rfl | (simp; done) | (simp [*]; done)), H', ⟨by have := HJ2.out; have := HJ36.out; have := HK3.out; have := HK4.out; omega⟩, ⟨by (with_reducible repeat (first | apply Kd.V_alloc | apply Kd.V_drewN | apply Kd.V_drew)); exact Kd.V_mono HO_1.out (fun _ hk => ⟨hk.1.1.1, ⟨hk.1.1.2.1, ⟨hk.1.1.2.2.1, ⟨hk.1.1.2.2.2.1, ⟨hk.1.1.2.2.2.2.1, hk.1.1.2.2.2.2.2⟩⟩⟩⟩⟩)⟩, ⟨by (with_reducible repeat (first | apply Kd.R_alloc | apply Kd.R_drewN | apply Kd.R_drew)); exact Kd.R_mono HO_5.out (fun _ hk => ⟨hk.1.1.1, ⟨hk.1.1.2.1, hk.1.1.2.2⟩⟩)⟩, ⟨by (with_reducible repeat (first | apply Kd.R_alloc | apply Kd.R_drewN | apply Kd.R_drew)); exact Kd.R_mono HO_7.out (fun _ hk => ⟨hk.1.1.1, ⟨hk.1.1.2.1, hk.1.1.2.2⟩⟩)⟩, ⟨by (with_reducible repeat (first | apply Kd.N_alloc | apply Kd.N_drewN | apply Kd.N_drew)); exact Kd.N_mono HO_9.out (fun _ hk => ⟨hk.1.1.1, ⟨hk.1.1.2.1, ⟨hk.1.1.2.2.1, ⟨hk.1.1.2.2.2.1, hk.1.1.2.2.2.2⟩⟩⟩⟩)⟩, ⟨by (with_reducible repeat (first | apply Kd.R_alloc | apply Kd.R_drewN | apply Kd.R_drew)); exact Kd.R_mono HO_11.out (fun _ hk => ⟨hk.1.1.1, ⟨hk.1.1.2.1, hk.1.1.2.2⟩⟩)⟩, ⟨by (with_reducible repeat (first | refine blk_drewN ?_ _ | refine blk_drew ?_ | refine blk_alloc ?_ _)); exact BK702.out⟩, ⟨by repeat (first | (with_reducible first | exact HB.out | apply below_alloc | apply pw_below_drewN | apply below_drew1 | refine below_set ?_ GE702.out) | exact HB.out)⟩⟩
                                        · as_aux_lemma =>
                                          replace c106 := Bool.eq_false_iff.mpr c106
                                          subst c106
                                          have H1 : (some false) = some r := by rw [if_neg (show ¬ (false = true) by decide)] at H; exact H
                                          clear H
                                          have H := H1
                                          clear H1
                                          obtain rfl := Option.some.inj H
                                          obtain ⟨Ao117, co117, eo117⟩ := Kd.N_slice HO_9.out
                                          subst eo117
                                          have p734 : 0 ≤ (x15_3 : Int) := of_decide_eq_true (by first | (with_reducible assumption) | assumption)
                                          have q734 : x15_3 < (t722.length : Int) := of_decide_eq_true (by first | (with_reducible assumption) | assumption)
                                          obtain ⟨ad734, e734, hx734_0⟩ := Kd.at_int (Kd.R_reads' HO_11.out).2.2 x15_3 p734 q734
                                          cases e734
                                          replace p734 := eq_true p734
                                          replace q734 := eq_true q734
                                          go_wp2_with (first | ((with_reducible refine gate_dst (N := 144) rfl ?_); (try (refine gate_guard (by rfl) ?_; dsimp only)); refine Kd.R_lit (Kd.int .i64) _ 3 ?hg (N := 144) ?hd (xs := ([rd t722 x15_3] : List Int)) (inner := [.int .i64 (rd t722 x15_3)]) (ok := fun _ => True) (okp := fun _ => True) ?hr ?hp (fun _ hk => hk) trivial (Below.refl _ _) (Nat.le_refl _) (by simp) ?_; (case hd => rfl); (case hg => rfl); (case hr => first | (go_simp; done) | (go_simp; rfl)); (case hp => exact (Reps.one (show Kd.M (Kd.int .i64) _ _ _ (rd t722 x15_3) [.int .i64 (rd t722 x15_3)] from rfl) (Reps.none _ _))); intro v736 w118 ho119 hb hg_ hnew_; clear hg_ hnew_; (first | rw [← Ny735.out] at ho119 | (simp only [Int.reduceToNat] at ho119; rw [← Ny735.out] at ho119)); have n0_ := Aside0.mk (Kd.V_elder' (by (with_reducible repeat (first | apply Kd.V_alloc | apply Kd.V_drewN | apply Kd.V_drew)); exact HO_1.out) (Kd.R_base ho119) hb); have n1_ := Aside0.mk (Kd.R_elder' (by (with_reducible repeat (first | apply Kd.R_alloc | apply Kd.R_drewN | apply Kd.R_drew)); exact HO_5.out) (Kd.R_base ho119) hb); have n2_ := Aside0.mk (Kd.R_elder' (by (with_reducible repeat (first | apply Kd.R_alloc | apply Kd.R_drewN | apply Kd.R_drew)); exact HO_7.out) (Kd.R_base ho119) hb); have n3_ := Aside0.mk (Kd.N_elder' (by (with_reducible repeat (first | apply Kd.N_alloc | apply Kd.N_drewN | apply Kd.N_drew)); exact HO_9.out) (Kd.R_base ho119) hb); have n4_ := Aside0.mk (Kd.R_elder' (by (with_reducible repeat (first | apply Kd.R_alloc | apply Kd.R_drewN | apply Kd.R_drew)); exact HO_11.out) (Kd.R_base ho119) hb); have n5_ := Aside0.mk (Kd.R_lower (Kd.R_new' (Kd.R_new' (Kd.R_new' (Kd.R_newM (M := fun k_ => (w.heap.size ≤ k_)) ho119 (below_size (by repeat (first | (with_reducible first | exact HB.out | apply below_alloc | apply pw_below_drewN | apply below_drew1 | refine below_set ?_ GE702.out) | exact HB.out))) (fun k_ h_ => h_)) (Kd.R_lt (by (with_reducible repeat (first | apply Kd.R_alloc | apply Kd.R_drewN | apply Kd.R_drew)); exact HO_5.out))) (Kd.R_lt (by (with_reducible repeat (first | apply Kd.R_alloc | apply Kd.R_drewN | apply Kd.R_drew)); exact HO_7.out))) (Kd.R_lt (by (with_reducible repeat (first | apply Kd.R_alloc | apply Kd.R_drewN | apply Kd.R_drew)); exact HO_11.out))) (below_size (by repeat (first | (with_reducible first | exact HB.out | apply below_alloc | apply pw_below_drewN | apply below_drew1 | refine below_set ?_ GE702.out) | exact HB.out)))); have n6_ := Aside0.mk (blk_below (g := gb702) (o := .cells #[.int .i64 a0_0, .slice A0_1 l0_1.length c0_1] 24 (0, 0)) (by (with_reducible repeat (first | refine blk_drewN ?_ _ | refine blk_drew ?_ | refine blk_alloc ?_ _)); exact BK702.out) hb); have n7_ := Aside0.mk (below_step (by repeat (first | (with_reducible first | exact HB.out | apply below_alloc | apply pw_below_drewN | apply below_drew1 | refine below_set ?_ GE702.out) | exact HB.out)) hb); clear HO_1; clear HO_5; clear HO_7; clear HO_9; clear HO_11; clear BK702; clear HB; have HO_1 := n0_; have HO_5 := n1_; have HO_7 := n2_; have HO_9 := n3_; have HO_11 := n4_; have HO737 := n5_; have BK702 := n6_; have HB := n7_; clear n0_ n1_ n2_ n3_ n4_ n5_ n6_ n7_; clear hb ho119; obtain ⟨Ao120, co120, eo120⟩ := Kd.R_slice HO737.out; subst eo120) | (go_at_call 49; (with_reducible refine (net_Union.calls _ _ l1 _ _ y735 t738 t739 _ ?side1 ?side2 ?side3 ?side4 A77.out).mono ?_); (case side1 => repeat (first | exact (Kd.V_reads' HO_1.out).2.2 | (with_reducible refine Kd.C_alloc ?_ _) | (with_reducible refine Kd.C_drewN ?_ _) | (with_reducible refine Kd.C_drew ?_))); (case side2 => exact (Kd.V_reads' HO_1.out).2.1); (case side3 => repeat (first | exact (Kd.R_reads' HO737.out).2.2 | (with_reducible refine Kd.C_alloc ?_ _) | (with_reducible refine Kd.C_drewN ?_ _) | (with_reducible refine Kd.C_drew ?_))); (case side4 => exact (Kd.R_reads' HO737.out).2.1); rintro e w121 ⟨v740, rfl, ho0, hb⟩; have n0_ := Aside0.mk (Kd.V_elder' (by (with_reducible repeat (first | apply Kd.V_alloc | apply Kd.V_drewN | apply Kd.V_drew)); exact HO_1.out) (Kd.R_base ho0) hb); have n1_ := Aside0.mk (Kd.R_elder' (by (with_reducible repeat (first | apply Kd.R_alloc | apply Kd.R_drewN | apply Kd.R_drew)); exact HO_5.out) (Kd.R_base ho0) hb); have n2_ := Aside0.mk (Kd.R_elder' (by (with_reducible repeat (first | apply Kd.R_alloc | apply Kd.R_drewN | apply Kd.R_drew)); exact HO_7.out) (Kd.R_base ho0) hb); have n3_ := Aside0.mk (Kd.N_elder' (by (with_reducible repeat (first | apply Kd.N_alloc | apply Kd.N_drewN | apply Kd.N_drew)); exact HO_9.out) (Kd.R_base ho0) hb); have n4_ := Aside0.mk (Kd.R_elder' (by (with_reducible repeat (first | apply Kd.R_alloc | apply Kd.R_drewN | apply Kd.R_drew)); exact HO_11.out) (Kd.R_base ho0) hb); have n5_ := Aside0.mk (Kd.R_elder' (by (with_reducible repeat (first | apply Kd.R_alloc | apply Kd.R_drewN | apply Kd.R_drew)); exact HO737.out) (Kd.R_base ho0) hb); have n6_ := Aside0.mk (Kd.R_lower (Kd.R_new' (Kd.R_new' (Kd.R_new' (Kd.R_new' (Kd.R_newM (M := fun k_ => (w.heap.size ≤ k_)) ho0 (below_size (by repeat (first | (with_reducible first | exact HB.out | apply below_alloc | apply pw_below_drewN | apply below_drew1 | refine below_set ?_ GE702.out) | exact HB.out))) (fun k_ h_ => h_)) (Kd.R_lt (by (with_reducible repeat (first | apply Kd.R_alloc | apply Kd.R_drewN | apply Kd.R_drew)); exact HO_5.out))) (Kd.R_lt (by (with_reducible repeat (first | apply Kd.R_alloc | apply Kd.R_drewN | apply Kd.R_drew)); exact HO_7.out))) (Kd.R_lt (by (with_reducible repeat (first | apply Kd.R_alloc | apply Kd.R_drewN | apply Kd.R_drew)); exact HO_11.out))) (Kd.R_lt (by (with_reducible repeat (first | apply Kd.R_alloc | apply Kd.R_drewN | apply Kd.R_drew)); exact HO737.out))) (below_size (by repeat (first | (with_reducible first | exact HB.out | apply below_alloc | apply pw_below_drewN | apply below_drew1 | refine below_set ?_ GE702.out) | exact HB.out)))); have n7_ := Aside0.mk (blk_below (g := gb702) (o := .cells #[.int .i64 a0_0, .slice A0_1 l0_1.length c0_1] 24 (0, 0)) (by (with_reducible repeat (first | refine blk_drewN ?_ _ | refine blk_drew ?_ | refine blk_alloc ?_ _)); exact BK702.out) hb); have n8_ := Aside0.mk (below_step (by repeat (first | (with_reducible first | exact HB.out | apply below_alloc | apply pw_below_drewN | apply below_drew1 | refine below_set ?_ GE702.out) | exact HB.out)) hb); clear HO_1; clear HO_5; clear HO_7; clear HO_9; clear HO_11; clear HO737; clear BK702; clear HB; have HO_1 := n0_; have HO_5 := n1_; have HO_7 := n2_; have HO_9 := n3_; have HO_11 := n4_; have HO737 := n5_; have HO741 := n6_; have BK702 := n7_; have HB := n8_; clear n0_ n1_ n2_ n3_ n4_ n5_ n6_ n7_ n8_; (try clear hb); (try clear hb2); (try clear hk); (try clear hi); (try clear ho0); have hcz122_0 : w121.cell? ⟨gb702, 0, none⟩ = some (.int .i64 a0_0) := (blk_cell BK702.out 0).trans rfl; have hcz122_1 : w121.cell? ⟨gb702, 1, none⟩ = some (.slice A0_1 l0_1.length c0_1) := (blk_cell BK702.out 1).trans rfl; have hfz122_0 := blk_frozen BK702.out 0; have hfz122_1 := blk_frozen BK702.out 1; obtain ⟨Ao123, co123, eo123⟩ := Kd.R_slice HO741.out; subst eo123) | (go_at_call 43; (with_reducible refine (island_Count.calls k4 a0_0 _ _ l0_1 _ _ t738 t742 t743 _ ?side1 ?side2 ?side3 ?side4 A78.out).mono ?_); (case side1 => repeat (first | exact (Kd.C_below HR0_1.out HB.out) | (with_reducible refine Kd.C_alloc ?_ _) | (with_reducible refine Kd.C_drewN ?_ _) | (with_reducible refine Kd.C_drew ?_))); (case side2 => exact HC0_1.out); (case side3 => repeat (first | exact (Kd.R_reads' HO741.out).2.2 | (with_reducible refine Kd.C_alloc ?_ _) | (with_reducible refine Kd.C_drewN ?_ _) | (with_reducible refine Kd.C_drew ?_))); (case side4 => exact (Kd.R_reads' HO741.out).2.1); rintro e w124 ⟨rfl, hb⟩; have n0_ := Aside0.mk (Kd.V_below (by (with_reducible repeat (first | apply Kd.V_alloc | apply Kd.V_drewN | apply Kd.V_drew)); exact HO_1.out) hb); have n1_ := Aside0.mk (Kd.R_below (by (with_reducible repeat (first | apply Kd.R_alloc | apply Kd.R_drewN | apply Kd.R_drew)); exact HO_5.out) hb); have n2_ := Aside0.mk (Kd.R_below (by (with_reducible repeat (first | apply Kd.R_alloc | apply Kd.R_drewN | apply Kd.R_drew)); exact HO_7.out) hb); have n3_ := Aside0.mk (Kd.N_below (by (with_reducible repeat (first | apply Kd.N_alloc | apply Kd.N_drewN | apply Kd.N_drew)); exact HO_9.out) hb); have n4_ := Aside0.mk (Kd.R_below (by (with_reducible repeat (first | apply Kd.R_alloc | apply Kd.R_drewN | apply Kd.R_drew)); exact HO_11.out) hb); have n5_ := Aside0.mk (Kd.R_below (by (with_reducible repeat (first | apply Kd.R_alloc | apply Kd.R_drewN | apply Kd.R_drew)); exact HO737.out) hb); have n6_ := Aside0.mk (Kd.R_below (by (with_reducible repeat (first | apply Kd.R_alloc | apply Kd.R_drewN | apply Kd.R_drew)); exact HO741.out) hb); have n7_ := Aside0.mk (blk_below (g := gb702) (o := .cells #[.int .i64 a0_0, .slice A0_1 l0_1.length c0_1] 24 (0, 0)) (by (with_reducible repeat (first | refine blk_drewN ?_ _ | refine blk_drew ?_ | refine blk_alloc ?_ _)); exact BK702.out) hb); have n8_ := Aside0.mk (below_step (by repeat (first | (with_reducible first | exact HB.out | apply below_alloc | apply pw_below_drewN | apply below_drew1 | refine below_set ?_ GE702.out) | exact HB.out)) hb); clear HO_1; clear HO_5; clear HO_7; clear HO_9; clear HO_11; clear HO737; clear HO741; clear BK702; clear HB; have HO_1 := n0_; have HO_5 := n1_; have HO_7 := n2_; have HO_9 := n3_; have HO_11 := n4_; have HO737 := n5_; have HO741 := n6_; have BK702 := n7_; have HB := n8_; clear n0_ n1_ n2_ n3_ n4_ n5_ n6_ n7_ n8_; (try clear hb); (try clear hb2); (try clear hk); (try clear hi); have p744 : 0 ≤ (x15_3 : Int) := of_decide_eq_true (by first | (with_reducible assumption) | assumption); have q744 : x15_3 < (t722.length : Int) := of_decide_eq_true (by first | (with_reducible assumption) | assumption); obtain ⟨ad744, e744, hx744_0⟩ := Kd.at_int (Kd.R_reads' HO_11.out).2.2 x15_3 p744 q744; obtain rfl : ad734 = ad744 := (by injection e744); replace p744 := eq_true p744; replace q744 := eq_true q744; obtain ⟨Ao125, co125, eo125⟩ := Kd.R_slice HO_5.out; subst eo125) | (go_at_call 60; (with_reducible refine (pylonlaw16_has.calls k4 _ _ t710 (rd t722 x15_3) t745 _ ?side1 ?side2 A81.out).mono ?_); (case side1 => repeat (first | exact (Kd.R_reads' HO_5.out).2.2 | (with_reducible refine Kd.C_alloc ?_ _) | (with_reducible refine Kd.C_drewN ?_ _) | (with_reducible refine Kd.C_drew ?_))); (case side2 => exact (Kd.R_reads' HO_5.out).2.1); rintro e w' ⟨rfl, ⟨nd, rfl⟩⟩; clear A81; (try first | exact ⟨rfl, _, World.drewN_drewN _ _ _⟩ | exact ⟨rfl, _, Eq.trans (World.drewN_drewN _ _ _) (congrArg (World.drewN _) (Nat.add_assoc _ _ _))⟩); have p746 : 0 ≤ (x15_3 : Int) := of_decide_eq_true (by first | (with_reducible assumption) | assumption); have q746 : x15_3 < (t722.length : Int) := of_decide_eq_true (by first | (with_reducible assumption) | assumption); obtain ⟨ad746, e746, hx746_0⟩ := Kd.at_int (Kd.R_reads' HO_11.out).2.2 x15_3 p746 q746; obtain rfl : ad734 = ad746 := (by injection e746); replace p746 := eq_true p746; replace q746 := eq_true q746) | (go_at_call 60; (with_reducible refine (pylonlaw16_has.calls k4 _ _ t710 (rd t722 x15_3) t747 _ ?side1 ?side2 A92.out).mono ?_); (case side1 => repeat (first | exact (Kd.R_reads' HO_5.out).2.2 | (with_reducible refine Kd.C_alloc ?_ _) | (with_reducible refine Kd.C_drewN ?_ _) | (with_reducible refine Kd.C_drew ?_))); (case side2 => exact (Kd.R_reads' HO_5.out).2.1); rintro e w' ⟨rfl, ⟨nd, rfl⟩⟩; clear A92; (try first | exact ⟨rfl, _, World.drewN_drewN _ _ _⟩ | exact ⟨rfl, _, Eq.trans (World.drewN_drewN _ _ _) (congrArg (World.drewN _) (Nat.add_assoc _ _ _))⟩); have p748 : 0 ≤ (x15_3 : Int) := of_decide_eq_true (by first | (with_reducible assumption) | assumption); have q748 : x15_3 < (t722.length : Int) := of_decide_eq_true (by first | (with_reducible assumption) | assumption); obtain ⟨ad748, e748, hx748_0⟩ := Kd.at_int (Kd.R_reads' HO_11.out).2.2 x15_3 p748 q748; obtain rfl : ad734 = ad748 := (by injection e748); replace p748 := eq_true p748; replace q748 := eq_true q748) | (go_at_call 60; (with_reducible refine (pylonlaw16_has.calls k4 _ _ t710 (rd t722 x15_3) true _ ?side1 ?side2 A103.out).mono ?_); (case side1 => repeat (first | exact (Kd.R_reads' HO_5.out).2.2 | (with_reducible refine Kd.C_alloc ?_ _) | (with_reducible refine Kd.C_drewN ?_ _) | (with_reducible refine Kd.C_drew ?_))); (case side2 => exact (Kd.R_reads' HO_5.out).2.1); rintro e w' ⟨rfl, ⟨nd, rfl⟩⟩; clear A103; (try first | exact ⟨rfl, _, World.drewN_drewN _ _ _⟩ | exact ⟨rfl, _, Eq.trans (World.drewN_drewN _ _ _) (congrArg (World.drewN _) (Nat.add_assoc _ _ _))⟩); have p750 : 0 ≤ (x15_3 : Int) := of_decide_eq_true (by first | (with_reducible assumption) | assumption); have q750 : x15_3 < (t722.length : Int) := of_decide_eq_true (by first | (with_reducible assumption) | assumption); obtain ⟨ad750, e750, hx750_0⟩ := Kd.at_int (Kd.R_reads' HO_11.out).2.2 x15_3 p750 q750; obtain rfl : ad734 = ad750 := (by injection e750); replace p750 := eq_true p750; replace q750 := eq_true q750; obtain ⟨Ao126, co126, eo126⟩ := Kd.R_slice HO_7.out; subst eo126) | (go_at_call 60; (with_reducible refine (pylonlaw16_has.calls k4 _ _ t714 (rd t722 x15_3) false _ ?side1 ?side2 A105.out).mono ?_); (case side1 => repeat (first | exact (Kd.R_reads' HO_7.out).2.2 | (with_reducible refine Kd.C_alloc ?_ _) | (with_reducible refine Kd.C_drewN ?_ _) | (with_reducible refine Kd.C_drew ?_))); (case side2 => exact (Kd.R_reads' HO_7.out).2.1); rintro e w' ⟨rfl, ⟨nd, rfl⟩⟩; clear A105; (try first | exact ⟨rfl, _, World.drewN_drewN _ _ _⟩ | exact ⟨rfl, _, Eq.trans (World.drewN_drewN _ _ _) (congrArg (World.drewN _) (Nat.add_assoc _ _ _))⟩)) | (go_quiet (first | (go_at_call 60; (with_reducible refine (pylonlaw16_has.calls k4 _ _ t710 (rd t722 x15_3) t745 _ ?side1 ?side2 A81.out).mono ?_); (case side1 => repeat (first | exact (Kd.R_reads' HO_5.out).2.2 | (with_reducible refine Kd.C_alloc ?_ _) | (with_reducible refine Kd.C_drewN ?_ _) | (with_reducible refine Kd.C_drew ?_))); (case side2 => exact (Kd.R_reads' HO_5.out).2.1); rintro e w' ⟨rfl, ⟨nd, rfl⟩⟩; clear A81; (try first | exact ⟨rfl, _, World.drewN_drewN _ _ _⟩ | exact ⟨rfl, _, Eq.trans (World.drewN_drewN _ _ _) (congrArg (World.drewN _) (Nat.add_assoc _ _ _))⟩); have p746 : 0 ≤ (x15_3 : Int) := of_decide_eq_true (by first | (with_reducible assumption) | assumption); have q746 : x15_3 < (t722.length : Int) := of_decide_eq_true (by first | (with_reducible assumption) | assumption); obtain ⟨ad746, e746, hx746_0⟩ := Kd.at_int (Kd.R_reads' HO_11.out).2.2 x15_3 p746 q746; obtain rfl : ad734 = ad746 := (by injection e746); replace p746 := eq_true p746; replace q746 := eq_true q746) | (go_at_call 60; (with_reducible refine (pylonlaw16_has.calls k4 _ _ t710 (rd t722 x15_3) t747 _ ?side1 ?side2 A92.out).mono ?_); (case side1 => repeat (first | exact (Kd.R_reads' HO_5.out).2.2 | (with_reducible refine Kd.C_alloc ?_ _) | (with_reducible refine Kd.C_drewN ?_ _) | (with_reducible refine Kd.C_drew ?_))); (case side2 => exact (Kd.R_reads' HO_5.out).2.1); rintro e w' ⟨rfl, ⟨nd, rfl⟩⟩; clear A92; (try first | exact ⟨rfl, _, World.drewN_drewN _ _ _⟩ | exact ⟨rfl, _, Eq.trans (World.drewN_drewN _ _ _) (congrArg (World.drewN _) (Nat.add_assoc _ _ _))⟩); have p748 : 0 ≤ (x15_3 : Int) := of_decide_eq_true (by first | (with_reducible assumption) | assumption); have q748 : x15_3 < (t722.length : Int) := of_decide_eq_true (by first | (with_reducible assumption) | assumption); obtain ⟨ad748, e748, hx748_0⟩ := Kd.at_int (Kd.R_reads' HO_11.out).2.2 x15_3 p748 q748; obtain rfl : ad734 = ad748 := (by injection e748); replace p748 := eq_true p748; replace q748 := eq_true q748) | (go_at_call 60; (with_reducible refine (pylonlaw16_has.calls k4 _ _ t710 (rd t722 x15_3) true _ ?side1 ?side2 A103.out).mono ?_); (case side1 => repeat (first | exact (Kd.R_reads' HO_5.out).2.2 | (with_reducible refine Kd.C_alloc ?_ _) | (with_reducible refine Kd.C_drewN ?_ _) | (with_reducible refine Kd.C_drew ?_))); (case side2 => exact (Kd.R_reads' HO_5.out).2.1); rintro e w' ⟨rfl, ⟨nd, rfl⟩⟩; clear A103; (try first | exact ⟨rfl, _, World.drewN_drewN _ _ _⟩ | exact ⟨rfl, _, Eq.trans (World.drewN_drewN _ _ _) (congrArg (World.drewN _) (Nat.add_assoc _ _ _))⟩); have p750 : 0 ≤ (x15_3 : Int) := of_decide_eq_true (by first | (with_reducible assumption) | assumption); have q750 : x15_3 < (t722.length : Int) := of_decide_eq_true (by first | (with_reducible assumption) | assumption); obtain ⟨ad750, e750, hx750_0⟩ := Kd.at_int (Kd.R_reads' HO_11.out).2.2 x15_3 p750 q750; obtain rfl : ad734 = ad750 := (by injection e750); replace p750 := eq_true p750; replace q750 := eq_true q750; obtain ⟨Ao126, co126, eo126⟩ := Kd.R_slice HO_7.out; subst eo126) | (go_at_call 60; (with_reducible refine (pylonlaw16_has.calls k4 _ _ t714 (rd t722 x15_3) false _ ?side1 ?side2 A105.out).mono ?_); (case side1 => repeat (first | exact (Kd.R_reads' HO_7.out).2.2 | (with_reducible refine Kd.C_alloc ?_ _) | (with_reducible refine Kd.C_drewN ?_ _) | (with_reducible refine Kd.C_drew ?_))); (case side2 => exact (Kd.R_reads' HO_7.out).2.1); rintro e w' ⟨rfl, ⟨nd, rfl⟩⟩; clear A105; (try first | exact ⟨rfl, _, World.drewN_drewN _ _ _⟩ | exact ⟨rfl, _, Eq.trans (World.drewN_drewN _ _ _) (congrArg (World.drewN _) (Nat.add_assoc _ _ _))⟩)))))
                                          go_ret
                                          exact ⟨by first | rfl | (simp [errW_none, errW_some] <;> rfl) | (simp [*, errW_none, errW_some] <;> rfl), by repeat (first | (with_reducible first | exact HB.out | apply below_alloc | apply pw_below_drewN | apply below_drew1 | refine below_set ?_ GE702.out) | exact HB.out)⟩
                                      · as_aux_lemma =>
                                        replace c104 := Bool.eq_false_iff.mpr c104
                                        subst c104
                                        have H1 : (pylonlaw16_TreeBridges.l0 k4 l1 t710 t714 t718 t722 t726 (wrap64 (x15_3 + 1)) a0_0 l0_1) = some r := by rw [if_neg (show ¬ (false = true) by decide)] at H; exact H
                                        clear H
                                        have H := H1
                                        clear H1
                                        have H' := Aside0.mk H
                                        clear H
                                        obtain ⟨Ao127, co127, eo127⟩ := Kd.N_slice HO_9.out
                                        subst eo127
                                        have p734 : 0 ≤ (x15_3 : Int) := of_decide_eq_true (by first | (with_reducible assumption) | assumption)
                                        have q734 : x15_3 < (t722.length : Int) := of_decide_eq_true (by first | (with_reducible assumption) | assumption)
                                        obtain ⟨ad734, e734, hx734_0⟩ := Kd.at_int (Kd.R_reads' HO_11.out).2.2 x15_3 p734 q734
                                        cases e734
                                        replace p734 := eq_true p734
                                        replace q734 := eq_true q734
                                        go_wp2_with (first | ((with_reducible refine gate_dst (N := 144) rfl ?_); (try (refine gate_guard (by rfl) ?_; dsimp only)); refine Kd.R_lit (Kd.int .i64) _ 3 ?hg (N := 144) ?hd (xs := ([rd t722 x15_3] : List Int)) (inner := [.int .i64 (rd t722 x15_3)]) (ok := fun _ => True) (okp := fun _ => True) ?hr ?hp (fun _ hk => hk) trivial (Below.refl _ _) (Nat.le_refl _) (by simp) ?_; (case hd => rfl); (case hg => rfl); (case hr => first | (go_simp; done) | (go_simp; rfl)); (case hp => exact (Reps.one (show Kd.M (Kd.int .i64) _ _ _ (rd t722 x15_3) [.int .i64 (rd t722 x15_3)] from rfl) (Reps.none _ _))); intro v736 w128 ho129 hb hg_ hnew_; clear hg_ hnew_; (first | rw [← Ny735.out] at ho129 | (simp only [Int.reduceToNat] at ho129; rw [← Ny735.out] at ho129)); have n0_ := Aside0.mk (Kd.V_elder' (by (with_reducible repeat (first | apply Kd.V_alloc | apply Kd.V_drewN | apply Kd.V_drew)); exact HO_1.out) (Kd.R_base ho129) hb); have n1_ := Aside0.mk (Kd.R_elder' (by (with_reducible repeat (first | apply Kd.R_alloc | apply Kd.R_drewN | apply Kd.R_drew)); exact HO_5.out) (Kd.R_base ho129) hb); have n2_ := Aside0.mk (Kd.R_elder' (by (with_reducible repeat (first | apply Kd.R_alloc | apply Kd.R_drewN | apply Kd.R_drew)); exact HO_7.out) (Kd.R_base ho129) hb); have n3_ := Aside0.mk (Kd.N_elder' (by (with_reducible repeat (first | apply Kd.N_alloc | apply Kd.N_drewN | apply Kd.N_drew)); exact HO_9.out) (Kd.R_base ho129) hb); have n4_ := Aside0.mk (Kd.R_elder' (by (with_reducible repeat (first | apply Kd.R_alloc | apply Kd.R_drewN | apply Kd.R_drew)); exact HO_11.out) (Kd.R_base ho129) hb); have n5_ := Aside0.mk (Kd.R_lower (Kd.R_new' (Kd.R_new' (Kd.R_new' (Kd.R_newM (M := fun k_ => (w.heap.size ≤ k_)) ho129 (below_size (by repeat (first | (with_reducible first | exact HB.out | apply below_alloc | apply pw_below_drewN | apply below_drew1 | refine below_set ?_ GE702.out) | exact HB.out))) (fun k_ h_ => h_)) (Kd.R_lt (by (with_reducible repeat (first | apply Kd.R_alloc | apply Kd.R_drewN | apply Kd.R_drew)); exact HO_5.out))) (Kd.R_lt (by (with_reducible repeat (first | apply Kd.R_alloc | apply Kd.R_drewN | apply Kd.R_drew)); exact HO_7.out))) (Kd.R_lt (by (with_reducible repeat (first | apply Kd.R_alloc | apply Kd.R_drewN | apply Kd.R_drew)); exact HO_11.out))) (below_size (by repeat (first | (with_reducible first | exact HB.out | apply below_alloc | apply pw_below_drewN | apply below_drew1 | refine below_set ?_ GE702.out) | exact HB.out)))); have n6_ := Aside0.mk (blk_below (g := gb702) (o := .cells #[.int .i64 a0_0, .slice A0_1 l0_1.length c0_1] 24 (0, 0)) (by (with_reducible repeat (first | refine blk_drewN ?_ _ | refine blk_drew ?_ | refine blk_alloc ?_ _)); exact BK702.out) hb); have n7_ := Aside0.mk (below_step (by repeat (first | (with_reducible first | exact HB.out | apply below_alloc | apply pw_below_drewN | apply below_drew1 | refine below_set ?_ GE702.out) | exact HB.out)) hb); clear HO_1; clear HO_5; clear HO_7; clear HO_9; clear HO_11; clear BK702; clear HB; have HO_1 := n0_; have HO_5 := n1_; have HO_7 := n2_; have HO_9 := n3_; have HO_11 := n4_; have HO737 := n5_; have BK702 := n6_; have HB := n7_; clear n0_ n1_ n2_ n3_ n4_ n5_ n6_ n7_; clear hb ho129; obtain ⟨Ao130, co130, eo130⟩ := Kd.R_slice HO737.out; subst eo130) | (go_at_call 49; (with_reducible refine (net_Union.calls _ _ l1 _ _ y735 t738 t739 _ ?side1 ?side2 ?side3 ?side4 A77.out).mono ?_); (case side1 => repeat (first | exact (Kd.V_reads' HO_1.out).2.2 | (with_reducible refine Kd.C_alloc ?_ _) | (with_reducible refine Kd.C_drewN ?_ _) | (with_reducible refine Kd.C_drew ?_))); (case side2 => exact (Kd.V_reads' HO_1.out).2.1); (case side3 => repeat (first | exact (Kd.R_reads' HO737.out).2.2 | (with_reducible refine Kd.C_alloc ?_ _) | (with_reducible refine Kd.C_drewN ?_ _) | (with_reducible refine Kd.C_drew ?_))); (case side4 => exact (Kd.R_reads' HO737.out).2.1); rintro e w131 ⟨v740, rfl, ho0, hb⟩; have n0_ := Aside0.mk (Kd.V_elder' (by (with_reducible repeat (first | apply Kd.V_alloc | apply Kd.V_drewN | apply Kd.V_drew)); exact HO_1.out) (Kd.R_base ho0) hb); have n1_ := Aside0.mk (Kd.R_elder' (by (with_reducible repeat (first | apply Kd.R_alloc | apply Kd.R_drewN | apply Kd.R_drew)); exact HO_5.out) (Kd.R_base ho0) hb); have n2_ := Aside0.mk (Kd.R_elder' (by (with_reducible repeat (first | apply Kd.R_alloc | apply Kd.R_drewN | apply Kd.R_drew)); exact HO_7.out) (Kd.R_base ho0) hb); have n3_ := Aside0.mk (Kd.N_elder' (by (with_reducible repeat (first | apply Kd.N_alloc | apply Kd.N_drewN | apply Kd.N_drew)); exact HO_9.out) (Kd.R_base ho0) hb); have n4_ := Aside0.mk (Kd.R_elder' (by (with_reducible repeat (first | apply Kd.R_alloc | apply Kd.R_drewN | apply Kd.R_drew)); exact HO_11.out) (Kd.R_base ho0) hb); have n5_ := Aside0.mk (Kd.R_elder' (by (with_reducible repeat (first | apply Kd.R_alloc | apply Kd.R_drewN | apply Kd.R_drew)); exact HO737.out) (Kd.R_base ho0) hb); have n6_ := Aside0.mk (Kd.R_lower (Kd.R_new' (Kd.R_new' (Kd.R_new' (Kd.R_new' (Kd.R_newM (M := fun k_ => (w.heap.size ≤ k_)) ho0 (below_size (by repeat (first | (with_reducible first | exact HB.out | apply below_alloc | apply pw_below_drewN | apply below_drew1 | refine below_set ?_ GE702.out) | exact HB.out))) (fun k_ h_ => h_)) (Kd.R_lt (by (with_reducible repeat (first | apply Kd.R_alloc | apply Kd.R_drewN | apply Kd.R_drew)); exact HO_5.out))) (Kd.R_lt (by (with_reducible repeat (first | apply Kd.R_alloc | apply Kd.R_drewN | apply Kd.R_drew)); exact HO_7.out))) (Kd.R_lt (by (with_reducible repeat (first | apply Kd.R_alloc | apply Kd.R_drewN | apply Kd.R_drew)); exact HO_11.out))) (Kd.R_lt (by (with_reducible repeat (first | apply Kd.R_alloc | apply Kd.R_drewN | apply Kd.R_drew)); exact HO737.out))) (below_size (by repeat (first | (with_reducible first | exact HB.out | apply below_alloc | apply pw_below_drewN | apply below_drew1 | refine below_set ?_ GE702.out) | exact HB.out)))); have n7_ := Aside0.mk (blk_below (g := gb702) (o := .cells #[.int .i64 a0_0, .slice A0_1 l0_1.length c0_1] 24 (0, 0)) (by (with_reducible repeat (first | refine blk_drewN ?_ _ | refine blk_drew ?_ | refine blk_alloc ?_ _)); exact BK702.out) hb); have n8_ := Aside0.mk (below_step (by repeat (first | (with_reducible first | exact HB.out | apply below_alloc | apply pw_below_drewN | apply below_drew1 | refine below_set ?_ GE702.out) | exact HB.out)) hb); clear HO_1; clear HO_5; clear HO_7; clear HO_9; clear HO_11; clear HO737; clear BK702; clear HB; have HO_1 := n0_; have HO_5 := n1_; have HO_7 := n2_; have HO_9 := n3_; have HO_11 := n4_; have HO737 := n5_; have HO741 := n6_; have BK702 := n7_; have HB := n8_; clear n0_ n1_ n2_ n3_ n4_ n5_ n6_ n7_ n8_; (try clear hb); (try clear hb2); (try clear hk); (try clear hi); (try clear ho0); have hcz132_0 : w131.cell? ⟨gb702, 0, none⟩ = some (.int .i64 a0_0) := (blk_cell BK702.out 0).trans rfl; have hcz132_1 : w131.cell? ⟨gb702, 1, none⟩ = some (.slice A0_1 l0_1.length c0_1) := (blk_cell BK702.out 1).trans rfl; have hfz132_0 := blk_frozen BK702.out 0; have hfz132_1 := blk_frozen BK702.out 1; obtain ⟨Ao133, co133, eo133⟩ := Kd.R_slice HO741.out; subst eo133) | (go_at_call 43; (with_reducible refine (island_Count.calls k4 a0_0 _ _ l0_1 _ _ t738 t742 t743 _ ?side1 ?side2 ?side3 ?side4 A78.out).mono ?_); (case side1 => repeat (first | exact (Kd.C_below HR0_1.out HB.out) | (with_reducible refine Kd.C_alloc ?_ _) | (with_reducible refine Kd.C_drewN ?_ _) | (with_reducible refine Kd.C_drew ?_))); (case side2 => exact HC0_1.out); (case side3 => repeat (first | exact (Kd.R_reads' HO741.out).2.2 | (with_reducible refine Kd.C_alloc ?_ _) | (with_reducible refine Kd.C_drewN ?_ _) | (with_reducible refine Kd.C_drew ?_))); (case side4 => exact (Kd.R_reads' HO741.out).2.1); rintro e w134 ⟨rfl, hb⟩; have n0_ := Aside0.mk (Kd.V_below (by (with_reducible repeat (first | apply Kd.V_alloc | apply Kd.V_drewN | apply Kd.V_drew)); exact HO_1.out) hb); have n1_ := Aside0.mk (Kd.R_below (by (with_reducible repeat (first | apply Kd.R_alloc | apply Kd.R_drewN | apply Kd.R_drew)); exact HO_5.out) hb); have n2_ := Aside0.mk (Kd.R_below (by (with_reducible repeat (first | apply Kd.R_alloc | apply Kd.R_drewN | apply Kd.R_drew)); exact HO_7.out) hb); have n3_ := Aside0.mk (Kd.N_below (by (with_reducible repeat (first | apply Kd.N_alloc | apply Kd.N_drewN | apply Kd.N_drew)); exact HO_9.out) hb); have n4_ := Aside0.mk (Kd.R_below (by (with_reducible repeat (first | apply Kd.R_alloc | apply Kd.R_drewN | apply Kd.R_drew)); exact HO_11.out) hb); have n5_ := Aside0.mk (Kd.R_below (by (with_reducible repeat (first | apply Kd.R_alloc | apply Kd.R_drewN | apply Kd.R_drew)); exact HO737.out) hb); have n6_ := Aside0.mk (Kd.R_below (by (with_reducible repeat (first | apply Kd.R_alloc | apply Kd.R_drewN | apply Kd.R_drew)); exact HO741.out) hb); have n7_ := Aside0.mk (blk_below (g := gb702) (o := .cells #[.int .i64 a0_0, .slice A0_1 l0_1.length c0_1] 24 (0, 0)) (by (with_reducible repeat (first | refine blk_drewN ?_ _ | refine blk_drew ?_ | refine blk_alloc ?_ _)); exact BK702.out) hb); have n8_ := Aside0.mk (below_step (by repeat (first | (with_reducible first | exact HB.out | apply below_alloc | apply pw_below_drewN | apply below_drew1 | refine below_set ?_ GE702.out) | exact HB.out)) hb); clear HO_1; clear HO_5; clear HO_7; clear HO_9; clear HO_11; clear HO737; clear HO741; clear BK702; clear HB; have HO_1 := n0_; have HO_5 := n1_; have HO_7 := n2_; have HO_9 := n3_; have HO_11 := n4_; have HO737 := n5_; have HO741 := n6_; have BK702 := n7_; have HB := n8_; clear n0_ n1_ n2_ n3_ n4_ n5_ n6_ n7_ n8_; (try clear hb); (try clear hb2); (try clear hk); (try clear hi); have p744 : 0 ≤ (x15_3 : Int) := of_decide_eq_true (by first | (with_reducible assumption) | assumption); have q744 : x15_3 < (t722.length : Int) := of_decide_eq_true (by first | (with_reducible assumption) | assumption); obtain ⟨ad744, e744, hx744_0⟩ := Kd.at_int (Kd.R_reads' HO_11.out).2.2 x15_3 p744 q744; obtain rfl : ad734 = ad744 := (by injection e744); replace p744 := eq_true p744; replace q744 := eq_true q744; obtain ⟨Ao135, co135, eo135⟩ := Kd.R_slice HO_5.out; subst eo135) | (go_at_call 60; (with_reducible refine (pylonlaw16_has.calls k4 _ _ t710 (rd t722 x15_3) t745 _ ?side1 ?side2 A81.out).mono ?_); (case side1 => repeat (first | exact (Kd.R_reads' HO_5.out).2.2 | (with_reducible refine Kd.C_alloc ?_ _) | (with_reducible refine Kd.C_drewN ?_ _) | (with_reducible refine Kd.C_drew ?_))); (case side2 => exact (Kd.R_reads' HO_5.out).2.1); rintro e w' ⟨rfl, ⟨nd, rfl⟩⟩; clear A81; (try first | exact ⟨rfl, _, World.drewN_drewN _ _ _⟩ | exact ⟨rfl, _, Eq.trans (World.drewN_drewN _ _ _) (congrArg (World.drewN _) (Nat.add_assoc _ _ _))⟩); have p746 : 0 ≤ (x15_3 : Int) := of_decide_eq_true (by first | (with_reducible assumption) | assumption); have q746 : x15_3 < (t722.length : Int) := of_decide_eq_true (by first | (with_reducible assumption) | assumption); obtain ⟨ad746, e746, hx746_0⟩ := Kd.at_int (Kd.R_reads' HO_11.out).2.2 x15_3 p746 q746; obtain rfl : ad734 = ad746 := (by injection e746); replace p746 := eq_true p746; replace q746 := eq_true q746) | (go_at_call 60; (with_reducible refine (pylonlaw16_has.calls k4 _ _ t710 (rd t722 x15_3) t747 _ ?side1 ?side2 A92.out).mono ?_); (case side1 => repeat (first | exact (Kd.R_reads' HO_5.out).2.2 | (with_reducible refine Kd.C_alloc ?_ _) | (with_reducible refine Kd.C_drewN ?_ _) | (with_reducible refine Kd.C_drew ?_))); (case side2 => exact (Kd.R_reads' HO_5.out).2.1); rintro e w' ⟨rfl, ⟨nd, rfl⟩⟩; clear A92; (try first | exact ⟨rfl, _, World.drewN_drewN _ _ _⟩ | exact ⟨rfl, _, Eq.trans (World.drewN_drewN _ _ _) (congrArg (World.drewN _) (Nat.add_assoc _ _ _))⟩); have p748 : 0 ≤ (x15_3 : Int) := of_decide_eq_true (by first | (with_reducible assumption) | assumption); have q748 : x15_3 < (t722.length : Int) := of_decide_eq_true (by first | (with_reducible assumption) | assumption); obtain ⟨ad748, e748, hx748_0⟩ := Kd.at_int (Kd.R_reads' HO_11.out).2.2 x15_3 p748 q748; obtain rfl : ad734 = ad748 := (by injection e748); replace p748 := eq_true p748; replace q748 := eq_true q748) | (go_at_call 60; (with_reducible refine (pylonlaw16_has.calls k4 _ _ t710 (rd t722 x15_3) false _ ?side1 ?side2 A103.out).mono ?_); (case side1 => repeat (first | exact (Kd.R_reads' HO_5.out).2.2 | (with_reducible refine Kd.C_alloc ?_ _) | (with_reducible refine Kd.C_drewN ?_ _) | (with_reducible refine Kd.C_drew ?_))); (case side2 => exact (Kd.R_reads' HO_5.out).2.1); rintro e w' ⟨rfl, ⟨nd, rfl⟩⟩; clear A103; (try first | exact ⟨rfl, _, World.drewN_drewN _ _ _⟩ | exact ⟨rfl, _, Eq.trans (World.drewN_drewN _ _ _) (congrArg (World.drewN _) (Nat.add_assoc _ _ _))⟩)) | (go_quiet (first | (go_at_call 60; (with_reducible refine (pylonlaw16_has.calls k4 _ _ t710 (rd t722 x15_3) t745 _ ?side1 ?side2 A81.out).mono ?_); (case side1 => repeat (first | exact (Kd.R_reads' HO_5.out).2.2 | (with_reducible refine Kd.C_alloc ?_ _) | (with_reducible refine Kd.C_drewN ?_ _) | (with_reducible refine Kd.C_drew ?_))); (case side2 => exact (Kd.R_reads' HO_5.out).2.1); rintro e w' ⟨rfl, ⟨nd, rfl⟩⟩; clear A81; (try first | exact ⟨rfl, _, World.drewN_drewN _ _ _⟩ | exact ⟨rfl, _, Eq.trans (World.drewN_drewN _ _ _) (congrArg (World.drewN _) (Nat.add_assoc _ _ _))⟩); have p746 : 0 ≤ (x15_3 : Int) := of_decide_eq_true (by first | (with_reducible assumption) | assumption); have q746 : x15_3 < (t722.length : Int) := of_decide_eq_true (by first | (with_reducible assumption) | assumption); obtain ⟨ad746, e746, hx746_0⟩ := Kd.at_int (Kd.R_reads' HO_11.out).2.2 x15_3 p746 q746; obtain rfl : ad734 = ad746 := (by injection e746); replace p746 := eq_true p746; replace q746 := eq_true q746) | (go_at_call 60; (with_reducible refine (pylonlaw16_has.calls k4 _ _ t710 (rd t722 x15_3) t747 _ ?side1 ?side2 A92.out).mono ?_); (case side1 => repeat (first | exact (Kd.R_reads' HO_5.out).2.2 | (with_reducible refine Kd.C_alloc ?_ _) | (with_reducible refine Kd.C_drewN ?_ _) | (with_reducible refine Kd.C_drew ?_))); (case side2 => exact (Kd.R_reads' HO_5.out).2.1); rintro e w' ⟨rfl, ⟨nd, rfl⟩⟩; clear A92; (try first | exact ⟨rfl, _, World.drewN_drewN _ _ _⟩ | exact ⟨rfl, _, Eq.trans (World.drewN_drewN _ _ _) (congrArg (World.drewN _) (Nat.add_assoc _ _ _))⟩); have p748 : 0 ≤ (x15_3 : Int) := of_decide_eq_true (by first | (with_reducible assumption) | assumption); have q748 : x15_3 < (t722.length : Int) := of_decide_eq_true (by first | (with_reducible assumption) | assumption); obtain ⟨ad748, e748, hx748_0⟩ := Kd.at_int (Kd.R_reads' HO_11.out).2.2 x15_3 p748 q748; obtain rfl : ad734 = ad748 := (by injection e748); replace p748 := eq_true p748; replace q748 := eq_true q748) | (go_at_call 60; (with_reducible refine (pylonlaw16_has.calls k4 _ _ t710 (rd t722 x15_3) false _ ?side1 ?side2 A103.out).mono ?_); (case side1 => repeat (first | exact (Kd.R_reads' HO_5.out).2.2 | (with_reducible refine Kd.C_alloc ?_ _) | (with_reducible refine Kd.C_drewN ?_ _) | (with_reducible refine Kd.C_drew ?_))); (case side2 => exact (Kd.R_reads' HO_5.out).2.1); rintro e w' ⟨rfl, ⟨nd, rfl⟩⟩; clear A103; (try first | exact ⟨rfl, _, World.drewN_drewN _ _ _⟩ | exact ⟨rfl, _, Eq.trans (World.drewN_drewN _ _ _) (congrArg (World.drewN _) (Nat.add_assoc _ _ _))⟩)))))
                                        go_roundg k4
                                        case measure => have := HJ2.out; have := HJ36.out; have := HK3.out; have := HK4.out; omega
                                        case rel => exact ⟨(wrap64 (x15_3 + 1)), (by first | rfl | (simp; done) | (simp [*]; done)), H', ⟨by have := HJ2.out; have := HJ36.out; have := HK3.out; have := HK4.out; omega⟩, ⟨by (with_reducible repeat (first | apply Kd.V_alloc | apply Kd.V_drewN | apply Kd.V_drew)); exact Kd.V_mono HO_1.out (fun _ hk => ⟨hk.1.1.1, ⟨hk.1.1.2.1, ⟨hk.1.1.2.2.1, ⟨hk.1.1.2.2.2.1, ⟨hk.1.1.2.2.2.2.1, hk.1.1.2.2.2.2.2⟩⟩⟩⟩⟩)⟩, ⟨by (with_reducible repeat (first | apply Kd.R_alloc | apply Kd.R_drewN | apply Kd.R_drew)); exact Kd.R_mono HO_5.out (fun _ hk => ⟨hk.1.1.1, ⟨hk.1.1.2.1, hk.1.1.2.2⟩⟩)⟩, ⟨by (with_reducible repeat (first | apply Kd.R_alloc | apply Kd.R_drewN | apply Kd.R_drew)); exact Kd.R_mono HO_7.out (fun _ hk => ⟨hk.1.1.1, ⟨hk.1.1.2.1, hk.1.1.2.2⟩⟩)⟩, ⟨by (with_reducible repeat (first | apply Kd.N_alloc | apply Kd.N_drewN | apply Kd.N_drew)); exact Kd.N_mono HO_9.out (fun _ hk => ⟨hk.1.1.1, ⟨hk.1.1.2.1, ⟨hk.1.1.2.2.1, ⟨hk.1.1.2.2.2.1, hk.1.1.2.2.2.2⟩⟩⟩⟩)⟩, ⟨by (with_reducible repeat (first | apply Kd.R_alloc | apply Kd.R_drewN | apply Kd.R_drew)); exact Kd.R_mono HO_11.out (fun _ hk => ⟨hk.1.1.1, ⟨hk.1.1.2.1, hk.1.1.2.2⟩⟩)⟩, ⟨by (with_reducible repeat (first | refine blk_drewN ?_ _ | refine blk_drew ?_ | refine blk_alloc ?_ _)); exact BK702.out⟩, ⟨by repeat (first | (with_reducible first | exact HB.out | apply below_alloc | apply pw_below_drewN | apply below_drew1 | refine below_set ?_ GE702.out) | exact HB.out)⟩⟩
                                · rw [if_neg c80] at H
                                  have c80b0 : (t743 == 0) = false := beq_eq_false_iff_ne.mpr c80
                                  have c80b1 : (t743 != 0) = true := bne_iff_ne.mpr c80
                                  obtain rfl := Option.some.inj H
                                  obtain ⟨Ao136, co136, eo136⟩ := Kd.N_slice HO_9.out
                                  subst eo136
                                  have p734 : 0 ≤ (x15_3 : Int) := of_decide_eq_true (by first | (with_reducible assumption) | assumption)
                                  have q734 : x15_3 < (t722.length : Int) := of_decide_eq_true (by first | (with_reducible assumption) | assumption)
                                  obtain ⟨ad734, e734, hx734_0⟩ := Kd.at_int (Kd.R_reads' HO_11.out).2.2 x15_3 p734 q734
                                  cases e734
                                  replace p734 := eq_true p734
                                  replace q734 := eq_true q734
                                  go_wp2_with (first | ((with_reducible refine gate_dst (N := 144) rfl ?_); (try (refine gate_guard (by rfl) ?_; dsimp only)); refine Kd.R_lit (Kd.int .i64) _ 3 ?hg (N := 144) ?hd (xs := ([rd t722 x15_3] : List Int)) (inner := [.int .i64 (rd t722 x15_3)]) (ok := fun _ => True) (okp := fun _ => True) ?hr ?hp (fun _ hk => hk) trivial (Below.refl _ _) (Nat.le_refl _) (by simp) ?_; (case hd => rfl); (case hg => rfl); (case hr => first | (go_simp; done) | (go_simp; rfl)); (case hp => exact (Reps.one (show Kd.M (Kd.int .i64) _ _ _ (rd t722 x15_3) [.int .i64 (rd t722 x15_3)] from rfl) (Reps.none _ _))); intro v736 w137 ho138 hb hg_ hnew_; clear hg_ hnew_; (first | rw [← Ny735.out] at ho138 | (simp only [Int.reduceToNat] at ho138; rw [← Ny735.out] at ho138)); have n0_ := Aside0.mk (Kd.V_elder' (by (with_reducible repeat (first | apply Kd.V_alloc | apply Kd.V_drewN | apply Kd.V_drew)); exact HO_1.out) (Kd.R_base ho138) hb); have n1_ := Aside0.mk (Kd.R_elder' (by (with_reducible repeat (first | apply Kd.R_alloc | apply Kd.R_drewN | apply Kd.R_drew)); exact HO_5.out) (Kd.R_base ho138) hb); have n2_ := Aside0.mk (Kd.R_elder' (by (with_reducible repeat (first | apply Kd.R_alloc | apply Kd.R_drewN | apply Kd.R_drew)); exact HO_7.out) (Kd.R_base ho138) hb); have n3_ := Aside0.mk (Kd.N_elder' (by (with_reducible repeat (first | apply Kd.N_alloc | apply Kd.N_drewN | apply Kd.N_drew)); exact HO_9.out) (Kd.R_base ho138) hb); have n4_ := Aside0.mk (Kd.R_elder' (by (with_reducible repeat (first | apply Kd.R_alloc | apply Kd.R_drewN | apply Kd.R_drew)); exact HO_11.out) (Kd.R_base ho138) hb); have n5_ := Aside0.mk (Kd.R_lower (Kd.R_new' (Kd.R_new' (Kd.R_new' (Kd.R_newM (M := fun k_ => (w.heap.size ≤ k_)) ho138 (below_size (by repeat (first | (with_reducible first | exact HB.out | apply below_alloc | apply pw_below_drewN | apply below_drew1 | refine below_set ?_ GE702.out) | exact HB.out))) (fun k_ h_ => h_)) (Kd.R_lt (by (with_reducible repeat (first | apply Kd.R_alloc | apply Kd.R_drewN | apply Kd.R_drew)); exact HO_5.out))) (Kd.R_lt (by (with_reducible repeat (first | apply Kd.R_alloc | apply Kd.R_drewN | apply Kd.R_drew)); exact HO_7.out))) (Kd.R_lt (by (with_reducible repeat (first | apply Kd.R_alloc | apply Kd.R_drewN | apply Kd.R_drew)); exact HO_11.out))) (below_size (by repeat (first | (with_reducible first | exact HB.out | apply below_alloc | apply pw_below_drewN | apply below_drew1 | refine below_set ?_ GE702.out) | exact HB.out)))); have n6_ := Aside0.mk (blk_below (g := gb702) (o := .cells #[.int .i64 a0_0, .slice A0_1 l0_1.length c0_1] 24 (0, 0)) (by (with_reducible repeat (first | refine blk_drewN ?_ _ | refine blk_drew ?_ | refine blk_alloc ?_ _)); exact BK702.out) hb); have n7_ := Aside0.mk (below_step (by repeat (first | (with_reducible first | exact HB.out | apply below_alloc | apply pw_below_drewN | apply below_drew1 | refine below_set ?_ GE702.out) | exact HB.out)) hb); clear HO_1; clear HO_5; clear HO_7; clear HO_9; clear HO_11; clear BK702; clear HB; have HO_1 := n0_; have HO_5 := n1_; have HO_7 := n2_; have HO_9 := n3_; have HO_11 := n4_; have HO737 := n5_; have BK702 := n6_; have HB := n7_; clear n0_ n1_ n2_ n3_ n4_ n5_ n6_ n7_; clear hb ho138; obtain ⟨Ao139, co139, eo139⟩ := Kd.R_slice HO737.out; subst eo139) | (go_at_call 49; (with_reducible refine (net_Union.calls _ _ l1 _ _ y735 t738 t739 _ ?side1 ?side2 ?side3 ?side4 A77.out).mono ?_); (case side1 => repeat (first | exact (Kd.V_reads' HO_1.out).2.2 | (with_reducible refine Kd.C_alloc ?_ _) | (with_reducible refine Kd.C_drewN ?_ _) | (with_reducible refine Kd.C_drew ?_))); (case side2 => exact (Kd.V_reads' HO_1.out).2.1); (case side3 => repeat (first | exact (Kd.R_reads' HO737.out).2.2 | (with_reducible refine Kd.C_alloc ?_ _) | (with_reducible refine Kd.C_drewN ?_ _) | (with_reducible refine Kd.C_drew ?_))); (case side4 => exact (Kd.R_reads' HO737.out).2.1); rintro e w140 ⟨v740, rfl, ho0, hb⟩; have n0_ := Aside0.mk (Kd.V_elder' (by (with_reducible repeat (first | apply Kd.V_alloc | apply Kd.V_drewN | apply Kd.V_drew)); exact HO_1.out) (Kd.R_base ho0) hb); have n1_ := Aside0.mk (Kd.R_elder' (by (with_reducible repeat (first | apply Kd.R_alloc | apply Kd.R_drewN | apply Kd.R_drew)); exact HO_5.out) (Kd.R_base ho0) hb); have n2_ := Aside0.mk (Kd.R_elder' (by (with_reducible repeat (first | apply Kd.R_alloc | apply Kd.R_drewN | apply Kd.R_drew)); exact HO_7.out) (Kd.R_base ho0) hb); have n3_ := Aside0.mk (Kd.N_elder' (by (with_reducible repeat (first | apply Kd.N_alloc | apply Kd.N_drewN | apply Kd.N_drew)); exact HO_9.out) (Kd.R_base ho0) hb); have n4_ := Aside0.mk (Kd.R_elder' (by (with_reducible repeat (first | apply Kd.R_alloc | apply Kd.R_drewN | apply Kd.R_drew)); exact HO_11.out) (Kd.R_base ho0) hb); have n5_ := Aside0.mk (Kd.R_elder' (by (with_reducible repeat (first | apply Kd.R_alloc | apply Kd.R_drewN | apply Kd.R_drew)); exact HO737.out) (Kd.R_base ho0) hb); have n6_ := Aside0.mk (Kd.R_lower (Kd.R_new' (Kd.R_new' (Kd.R_new' (Kd.R_new' (Kd.R_newM (M := fun k_ => (w.heap.size ≤ k_)) ho0 (below_size (by repeat (first | (with_reducible first | exact HB.out | apply below_alloc | apply pw_below_drewN | apply below_drew1 | refine below_set ?_ GE702.out) | exact HB.out))) (fun k_ h_ => h_)) (Kd.R_lt (by (with_reducible repeat (first | apply Kd.R_alloc | apply Kd.R_drewN | apply Kd.R_drew)); exact HO_5.out))) (Kd.R_lt (by (with_reducible repeat (first | apply Kd.R_alloc | apply Kd.R_drewN | apply Kd.R_drew)); exact HO_7.out))) (Kd.R_lt (by (with_reducible repeat (first | apply Kd.R_alloc | apply Kd.R_drewN | apply Kd.R_drew)); exact HO_11.out))) (Kd.R_lt (by (with_reducible repeat (first | apply Kd.R_alloc | apply Kd.R_drewN | apply Kd.R_drew)); exact HO737.out))) (below_size (by repeat (first | (with_reducible first | exact HB.out | apply below_alloc | apply pw_below_drewN | apply below_drew1 | refine below_set ?_ GE702.out) | exact HB.out)))); have n7_ := Aside0.mk (blk_below (g := gb702) (o := .cells #[.int .i64 a0_0, .slice A0_1 l0_1.length c0_1] 24 (0, 0)) (by (with_reducible repeat (first | refine blk_drewN ?_ _ | refine blk_drew ?_ | refine blk_alloc ?_ _)); exact BK702.out) hb); have n8_ := Aside0.mk (below_step (by repeat (first | (with_reducible first | exact HB.out | apply below_alloc | apply pw_below_drewN | apply below_drew1 | refine below_set ?_ GE702.out) | exact HB.out)) hb); clear HO_1; clear HO_5; clear HO_7; clear HO_9; clear HO_11; clear HO737; clear BK702; clear HB; have HO_1 := n0_; have HO_5 := n1_; have HO_7 := n2_; have HO_9 := n3_; have HO_11 := n4_; have HO737 := n5_; have HO741 := n6_; have BK702 := n7_; have HB := n8_; clear n0_ n1_ n2_ n3_ n4_ n5_ n6_ n7_ n8_; (try clear hb); (try clear hb2); (try clear hk); (try clear hi); (try clear ho0); have hcz141_0 : w140.cell? ⟨gb702, 0, none⟩ = some (.int .i64 a0_0) := (blk_cell BK702.out 0).trans rfl; have hcz141_1 : w140.cell? ⟨gb702, 1, none⟩ = some (.slice A0_1 l0_1.length c0_1) := (blk_cell BK702.out 1).trans rfl; have hfz141_0 := blk_frozen BK702.out 0; have hfz141_1 := blk_frozen BK702.out 1; obtain ⟨Ao142, co142, eo142⟩ := Kd.R_slice HO741.out; subst eo142) | (go_at_call 43; (with_reducible refine (island_Count.calls k4 a0_0 _ _ l0_1 _ _ t738 t742 t743 _ ?side1 ?side2 ?side3 ?side4 A78.out).mono ?_); (case side1 => repeat (first | exact (Kd.C_below HR0_1.out HB.out) | (with_reducible refine Kd.C_alloc ?_ _) | (with_reducible refine Kd.C_drewN ?_ _) | (with_reducible refine Kd.C_drew ?_))); (case side2 => exact HC0_1.out); (case side3 => repeat (first | exact (Kd.R_reads' HO741.out).2.2 | (with_reducible refine Kd.C_alloc ?_ _) | (with_reducible refine Kd.C_drewN ?_ _) | (with_reducible refine Kd.C_drew ?_))); (case side4 => exact (Kd.R_reads' HO741.out).2.1); rintro e w143 ⟨rfl, hb⟩; have n0_ := Aside0.mk (Kd.V_below (by (with_reducible repeat (first | apply Kd.V_alloc | apply Kd.V_drewN | apply Kd.V_drew)); exact HO_1.out) hb); have n1_ := Aside0.mk (Kd.R_below (by (with_reducible repeat (first | apply Kd.R_alloc | apply Kd.R_drewN | apply Kd.R_drew)); exact HO_5.out) hb); have n2_ := Aside0.mk (Kd.R_below (by (with_reducible repeat (first | apply Kd.R_alloc | apply Kd.R_drewN | apply Kd.R_drew)); exact HO_7.out) hb); have n3_ := Aside0.mk (Kd.N_below (by (with_reducible repeat (first | apply Kd.N_alloc | apply Kd.N_drewN | apply Kd.N_drew)); exact HO_9.out) hb); have n4_ := Aside0.mk (Kd.R_below (by (with_reducible repeat (first | apply Kd.R_alloc | apply Kd.R_drewN | apply Kd.R_drew)); exact HO_11.out) hb); have n5_ := Aside0.mk (Kd.R_below (by (with_reducible repeat (first | apply Kd.R_alloc | apply Kd.R_drewN | apply Kd.R_drew)); exact HO737.out) hb); have n6_ := Aside0.mk (Kd.R_below (by (with_reducible repeat (first | apply Kd.R_alloc | apply Kd.R_drewN | apply Kd.R_drew)); exact HO741.out) hb); have n7_ := Aside0.mk (blk_below (g := gb702) (o := .cells #[.int .i64 a0_0, .slice A0_1 l0_1.length c0_1] 24 (0, 0)) (by (with_reducible repeat (first | refine blk_drewN ?_ _ | refine blk_drew ?_ | refine blk_alloc ?_ _)); exact BK702.out) hb); have n8_ := Aside0.mk (below_step (by repeat (first | (with_reducible first | exact HB.out | apply below_alloc | apply pw_below_drewN | apply below_drew1 | refine below_set ?_ GE702.out) | exact HB.out)) hb); clear HO_1; clear HO_5; clear HO_7; clear HO_9; clear HO_11; clear HO737; clear HO741; clear BK702; clear HB; have HO_1 := n0_; have HO_5 := n1_; have HO_7 := n2_; have HO_9 := n3_; have HO_11 := n4_; have HO737 := n5_; have HO741 := n6_; have BK702 := n7_; have HB := n8_; clear n0_ n1_ n2_ n3_ n4_ n5_ n6_ n7_ n8_; (try clear hb); (try clear hb2); (try clear hk); (try clear hi)) | (go_quiet (fail)))
                                  go_ret
                                  exact ⟨by first | rfl | (simp [errW_none, errW_some] <;> rfl) | (simp [*, errW_none, errW_some] <;> rfl), by repeat (first | (with_reducible first | exact HB.out | apply below_alloc | apply pw_below_drewN | apply below_drew1 | refine below_set ?_ GE702.out) | exact HB.out)⟩
                              · rw [if_neg c79] at H
                                have c79b0 : (t739 == 0) = false := beq_eq_false_iff_ne.mpr c79
                                have c79b1 : (t739 != 0) = true := bne_iff_ne.mpr c79
                                obtain rfl := Option.some.inj H
                                obtain ⟨Ao144, co144, eo144⟩ := Kd.N_slice HO_9.out
                                subst eo144
                                have p734 : 0 ≤ (x15_3 : Int) := of_decide_eq_true (by first | (with_reducible assumption) | assumption)
                                have q734 : x15_3 < (t722.length : Int) := of_decide_eq_true (by first | (with_reducible assumption) | assumption)
                                obtain ⟨ad734, e734, hx734_0⟩ := Kd.at_int (Kd.R_reads' HO_11.out).2.2 x15_3 p734 q734
                                cases e734
                                replace p734 := eq_true p734
                                replace q734 := eq_true q734
                                go_wp2_with (first | ((with_reducible refine gate_dst (N := 144) rfl ?_); (try (refine gate_guard (by rfl) ?_; dsimp only)); refine Kd.R_lit (Kd.int .i64) _ 3 ?hg (N := 144) ?hd (xs := ([rd t722 x15_3] : List Int)) (inner := [.int .i64 (rd t722 x15_3)]) (ok := fun _ => True) (okp := fun _ => True) ?hr ?hp (fun _ hk => hk) trivial (Below.refl _ _) (Nat.le_refl _) (by simp) ?_; (case hd => rfl); (case hg => rfl); (case hr => first | (go_simp; done) | (go_simp; rfl)); (case hp => exact (Reps.one (show Kd.M (Kd.int .i64) _ _ _ (rd t722 x15_3) [.int .i64 (rd t722 x15_3)] from rfl) (Reps.none _ _))); intro v736 w145 ho146 hb hg_ hnew_; clear hg_ hnew_; (first | rw [← Ny735.out] at ho146 | (simp only [Int.reduceToNat] at ho146; rw [← Ny735.out] at ho146)); have n0_ := Aside0.mk (Kd.V_elder' (by (with_reducible repeat (first | apply Kd.V_alloc | apply Kd.V_drewN | apply Kd.V_drew)); exact HO_1.out) (Kd.R_base ho146) hb); have n1_ := Aside0.mk (Kd.R_elder' (by (with_reducible repeat (first | apply Kd.R_alloc | apply Kd.R_drewN | apply Kd.R_drew)); exact HO_5.out) (Kd.R_base ho146) hb); have n2_ := Aside0.mk (Kd.R_elder' (by (with_reducible repeat (first | apply Kd.R_alloc | apply Kd.R_drewN | apply Kd.R_drew)); exact HO_7.out) (Kd.R_base ho146) hb); have n3_ := Aside0.mk (Kd.N_elder' (by (with_reducible repeat (first | apply Kd.N_alloc | apply Kd.N_drewN | apply Kd.N_drew)); exact HO_9.out) (Kd.R_base ho146) hb); have n4_ := Aside0.mk (Kd.R_elder' (by (with_reducible repeat (first | apply Kd.R_alloc | apply Kd.R_drewN | apply Kd.R_drew)); exact HO_11.out) (Kd.R_base ho146) hb); have n5_ := Aside0.mk (Kd.R_lower (Kd.R_new' (Kd.R_new' (Kd.R_new' (Kd.R_newM (M := fun k_ => (w.heap.size ≤ k_)) ho146 (below_size (by repeat (first | (with_reducible first | exact HB.out | apply below_alloc | apply pw_below_drewN | apply below_drew1 | refine below_set ?_ GE702.out) | exact HB.out))) (fun k_ h_ => h_)) (Kd.R_lt (by (with_reducible repeat (first | apply Kd.R_alloc | apply Kd.R_drewN | apply Kd.R_drew)); exact HO_5.out))) (Kd.R_lt (by (with_reducible repeat (first | apply Kd.R_alloc | apply Kd.R_drewN | apply Kd.R_drew)); exact HO_7.out))) (Kd.R_lt (by (with_reducible repeat (first | apply Kd.R_alloc | apply Kd.R_drewN | apply Kd.R_drew)); exact HO_11.out))) (below_size (by repeat (first | (with_reducible first | exact HB.out | apply below_alloc | apply pw_below_drewN | apply below_drew1 | refine below_set ?_ GE702.out) | exact HB.out)))); have n6_ := Aside0.mk (blk_below (g := gb702) (o := .cells #[.int .i64 a0_0, .slice A0_1 l0_1.length c0_1] 24 (0, 0)) (by (with_reducible repeat (first | refine blk_drewN ?_ _ | refine blk_drew ?_ | refine blk_alloc ?_ _)); exact BK702.out) hb); have n7_ := Aside0.mk (below_step (by repeat (first | (with_reducible first | exact HB.out | apply below_alloc | apply pw_below_drewN | apply below_drew1 | refine below_set ?_ GE702.out) | exact HB.out)) hb); clear HO_1; clear HO_5; clear HO_7; clear HO_9; clear HO_11; clear BK702; clear HB; have HO_1 := n0_; have HO_5 := n1_; have HO_7 := n2_; have HO_9 := n3_; have HO_11 := n4_; have HO737 := n5_; have BK702 := n6_; have HB := n7_; clear n0_ n1_ n2_ n3_ n4_ n5_ n6_ n7_; clear hb ho146; obtain ⟨Ao147, co147, eo147⟩ := Kd.R_slice HO737.out; subst eo147) | (go_at_call 49; (with_reducible refine (net_Union.calls _ _ l1 _ _ y735 t738 t739 _ ?side1 ?side2 ?side3 ?side4 A77.out).mono ?_); (case side1 => repeat (first | exact (Kd.V_reads' HO_1.out).2.2 | (with_reducible refine Kd.C_alloc ?_ _) | (with_reducible refine Kd.C_drewN ?_ _) | (with_reducible refine Kd.C_drew ?_))); (case side2 => exact (Kd.V_reads' HO_1.out).2.1); (case side3 => repeat (first | exact (Kd.R_reads' HO737.out).2.2 | (with_reducible refine Kd.C_alloc ?_ _) | (with_reducible refine Kd.C_drewN ?_ _) | (with_reducible refine Kd.C_drew ?_))); (case side4 => exact (Kd.R_reads' HO737.out).2.1); rintro e w148 ⟨v740, rfl, ho0, hb⟩; have n0_ := Aside0.mk (Kd.V_elder' (by (with_reducible repeat (first | apply Kd.V_alloc | apply Kd.V_drewN | apply Kd.V_drew)); exact HO_1.out) (Kd.R_base ho0) hb); have n1_ := Aside0.mk (Kd.R_elder' (by (with_reducible repeat (first | apply Kd.R_alloc | apply Kd.R_drewN | apply Kd.R_drew)); exact HO_5.out) (Kd.R_base ho0) hb); have n2_ := Aside0.mk (Kd.R_elder' (by (with_reducible repeat (first | apply Kd.R_alloc | apply Kd.R_drewN | apply Kd.R_drew)); exact HO_7.out) (Kd.R_base ho0) hb); have n3_ := Aside0.mk (Kd.N_elder' (by (with_reducible repeat (first | apply Kd.N_alloc | apply Kd.N_drewN | apply Kd.N_drew)); exact HO_9.out) (Kd.R_base ho0) hb); have n4_ := Aside0.mk (Kd.R_elder' (by (with_reducible repeat (first | apply Kd.R_alloc | apply Kd.R_drewN | apply Kd.R_drew)); exact HO_11.out) (Kd.R_base ho0) hb); have n5_ := Aside0.mk (Kd.R_elder' (by (with_reducible repeat (first | apply Kd.R_alloc | apply Kd.R_drewN | apply Kd.R_drew)); exact HO737.out) (Kd.R_base ho0) hb); have n6_ := Aside0.mk (Kd.R_lower (Kd.R_new' (Kd.R_new' (Kd.R_new' (Kd.R_new' (Kd.R_newM (M := fun k_ => (w.heap.size ≤ k_)) ho0 (below_size (by repeat (first | (with_reducible first | exact HB.out | apply below_alloc | apply pw_below_drewN | apply below_drew1 | refine below_set ?_ GE702.out) | exact HB.out))) (fun k_ h_ => h_)) (Kd.R_lt (by (with_reducible repeat (first | apply Kd.R_alloc | apply Kd.R_drewN | apply Kd.R_drew)); exact HO_5.out))) (Kd.R_lt (by (with_reducible repeat (first | apply Kd.R_alloc | apply Kd.R_drewN | apply Kd.R_drew)); exact HO_7.out))) (Kd.R_lt (by (with_reducible repeat (first | apply Kd.R_alloc | apply Kd.R_drewN | apply Kd.R_drew)); exact HO_11.out))) (Kd.R_lt (by (with_reducible repeat (first | apply Kd.R_alloc | apply Kd.R_drewN | apply Kd.R_drew)); exact HO737.out))) (below_size (by repeat (first | (with_reducible first | exact HB.out | apply below_alloc | apply pw_below_drewN | apply below_drew1 | refine below_set ?_ GE702.out) | exact HB.out)))); have n7_ := Aside0.mk (blk_below (g := gb702) (o := .cells #[.int .i64 a0_0, .slice A0_1 l0_1.length c0_1] 24 (0, 0)) (by (with_reducible repeat (first | refine blk_drewN ?_ _ | refine blk_drew ?_ | refine blk_alloc ?_ _)); exact BK702.out) hb); have n8_ := Aside0.mk (below_step (by repeat (first | (with_reducible first | exact HB.out | apply below_alloc | apply pw_below_drewN | apply below_drew1 | refine below_set ?_ GE702.out) | exact HB.out)) hb); clear HO_1; clear HO_5; clear HO_7; clear HO_9; clear HO_11; clear HO737; clear BK702; clear HB; have HO_1 := n0_; have HO_5 := n1_; have HO_7 := n2_; have HO_9 := n3_; have HO_11 := n4_; have HO737 := n5_; have HO741 := n6_; have BK702 := n7_; have HB := n8_; clear n0_ n1_ n2_ n3_ n4_ n5_ n6_ n7_ n8_; (try clear hb); (try clear hb2); (try clear hk); (try clear hi); (try clear ho0); have hcz149_0 : w148.cell? ⟨gb702, 0, none⟩ = some (.int .i64 a0_0) := (blk_cell BK702.out 0).trans rfl; have hcz149_1 : w148.cell? ⟨gb702, 1, none⟩ = some (.slice A0_1 l0_1.length c0_1) := (blk_cell BK702.out 1).trans rfl; have hfz149_0 := blk_frozen BK702.out 0; have hfz149_1 := blk_frozen BK702.out 1; obtain ⟨Ao150, co150, eo150⟩ := Kd.R_slice HO741.out; subst eo150) | (go_at_call 43; (with_reducible refine (island_Count.calls k4 a0_0 _ _ l0_1 _ _ t738 t742 t743 _ ?side1 ?side2 ?side3 ?side4 A78.out).mono ?_); (case side1 => repeat (first | exact (Kd.C_below HR0_1.out HB.out) | (with_reducible refine Kd.C_alloc ?_ _) | (with_reducible refine Kd.C_drewN ?_ _) | (with_reducible refine Kd.C_drew ?_))); (case side2 => exact HC0_1.out); (case side3 => repeat (first | exact (Kd.R_reads' HO741.out).2.2 | (with_reducible refine Kd.C_alloc ?_ _) | (with_reducible refine Kd.C_drewN ?_ _) | (with_reducible refine Kd.C_drew ?_))); (case side4 => exact (Kd.R_reads' HO741.out).2.1); rintro e w151 ⟨rfl, hb⟩; have n0_ := Aside0.mk (Kd.V_below (by (with_reducible repeat (first | apply Kd.V_alloc | apply Kd.V_drewN | apply Kd.V_drew)); exact HO_1.out) hb); have n1_ := Aside0.mk (Kd.R_below (by (with_reducible repeat (first | apply Kd.R_alloc | apply Kd.R_drewN | apply Kd.R_drew)); exact HO_5.out) hb); have n2_ := Aside0.mk (Kd.R_below (by (with_reducible repeat (first | apply Kd.R_alloc | apply Kd.R_drewN | apply Kd.R_drew)); exact HO_7.out) hb); have n3_ := Aside0.mk (Kd.N_below (by (with_reducible repeat (first | apply Kd.N_alloc | apply Kd.N_drewN | apply Kd.N_drew)); exact HO_9.out) hb); have n4_ := Aside0.mk (Kd.R_below (by (with_reducible repeat (first | apply Kd.R_alloc | apply Kd.R_drewN | apply Kd.R_drew)); exact HO_11.out) hb); have n5_ := Aside0.mk (Kd.R_below (by (with_reducible repeat (first | apply Kd.R_alloc | apply Kd.R_drewN | apply Kd.R_drew)); exact HO737.out) hb); have n6_ := Aside0.mk (Kd.R_below (by (with_reducible repeat (first | apply Kd.R_alloc | apply Kd.R_drewN | apply Kd.R_drew)); exact HO741.out) hb); have n7_ := Aside0.mk (blk_below (g := gb702) (o := .cells #[.int .i64 a0_0, .slice A0_1 l0_1.length c0_1] 24 (0, 0)) (by (with_reducible repeat (first | refine blk_drewN ?_ _ | refine blk_drew ?_ | refine blk_alloc ?_ _)); exact BK702.out) hb); have n8_ := Aside0.mk (below_step (by repeat (first | (with_reducible first | exact HB.out | apply below_alloc | apply pw_below_drewN | apply below_drew1 | refine below_set ?_ GE702.out) | exact HB.out)) hb); clear HO_1; clear HO_5; clear HO_7; clear HO_9; clear HO_11; clear HO737; clear HO741; clear BK702; clear HB; have HO_1 := n0_; have HO_5 := n1_; have HO_7 := n2_; have HO_9 := n3_; have HO_11 := n4_; have HO737 := n5_; have HO741 := n6_; have BK702 := n7_; have HB := n8_; clear n0_ n1_ n2_ n3_ n4_ n5_ n6_ n7_ n8_; (try clear hb); (try clear hb2); (try clear hk); (try clear hi)) | (go_quiet (fail)))
                                go_ret
                                exact ⟨by first | rfl | (simp [errW_none, errW_some] <;> rfl) | (simp [*, errW_none, errW_some] <;> rfl), by repeat (first | (with_reducible first | exact HB.out | apply below_alloc | apply pw_below_drewN | apply below_drew1 | refine below_set ?_ GE702.out) | exact HB.out)⟩
                            · rw [if_neg c76] at H
                              exact absurd H (by simp)
                          · rw [if_neg c75] at H
                            exact absurd H (by simp)
                  · rw [if_neg c53] at H
                    have c53b0 : decide (x15_3 < (t722.length : Int)) = false := decide_eq_false c53
                    clear c53
                    have H' := Aside0.mk H
                    clear H
                    obtain ⟨Ao152, co152, eo152⟩ := Kd.R_slice HO_11.out
                    subst eo152
                    go_wp2
                    repeat (go_quiet (fail); try go_wp2)
                    go_loopg [22] k3 (fun kq v22 w' => ∃ (x22_4 : Int), v22 = .int .i64 x22_4 ∧ Aside0 (pylonlaw16_TreeBridges.l2 kq t710 t722 x22_4 = some r) ∧ Aside0 (kq ≤ k3) ∧ Aside0 (Kd.R (Kd.int .i64) 3 w' w.heap.size (fun k_ => (w.heap.size ≤ k_) ∧ some k_ ≠ ((.slice Ao152 t722.length co152) : Value).ownBlock) v711 t710) ∧ Aside0 (Kd.R (Kd.int .i64) 3 w' w.heap.size (fun k_ => (w.heap.size ≤ k_) ∧ some k_ ≠ (v711 : Value).ownBlock) (.slice Ao152 t722.length co152) t722) ∧ Aside0 (w'.heap[gb702]? = some (.cells #[.int .i64 a0_0, (.slice A0_1 l0_1.length c0_1)] 24 (0, 0))) ∧ Aside0 (Below w.heap.size w w'))
                    case atStart => exact ⟨(0), (by first | rfl | (simp; done) | (simp [*]; done)), H', ⟨Nat.le_refl _⟩, ⟨by (with_reducible repeat (first | apply Kd.R_alloc | apply Kd.R_drewN | apply Kd.R_drew)); exact Kd.R_mono HO_5.out (fun _ hk => ⟨hk.1, hk.2.2⟩)⟩, ⟨by (with_reducible repeat (first | apply Kd.R_alloc | apply Kd.R_drewN | apply Kd.R_drew)); exact Kd.R_mono HO_11.out (fun _ hk => ⟨hk.1, hk.2.1⟩)⟩, ⟨by (with_reducible repeat (first | refine blk_drewN ?_ _ | refine blk_drew ?_ | refine blk_alloc ?_ _)); exact BK702.out⟩, ⟨by repeat (first | (with_reducible first | exact HB.out | apply below_alloc | apply pw_below_drewN | apply below_drew1 | refine below_set ?_ GE702.out) | exact HB.out)⟩⟩
                    case round => as_aux_lemma =>
                      clear H'
                      try clear c1
                      try clear c2
                      try clear p2
                      try clear c4
                      try clear c5
                      try clear c6
                      try clear p6
                      try clear c7
                      try clear p7
                      try clear q7
                      try clear hx7
                      try clear c8
                      try clear c9
                      try clear c10
                      try clear c12
                      try clear c13
                      try clear c29
                      try clear c48
                      try clear c48b0
                      try clear c48b1
                      try clear c49
                      try clear c49b0
                      try clear c49b1
                      try clear c50
                      try clear c50b0
                      try clear c50b1
                      try clear c51
                      try clear c51b0
                      try clear c51b1
                      try clear c52
                      try clear c53
                      try clear c53b0
                      try clear c55
                      try clear c55b0
                      try clear c56
                      try clear c56b0
                      try clear c57
                      try clear c57b0
                      try clear c57b1
                      try clear c57b2
                      try clear c58
                      try clear c58b0
                      try clear c59
                      try clear c59b0
                      try clear c60
                      try clear c60b0
                      try clear c63
                      try clear c63b0
                      try clear p64
                      try clear c66
                      try clear c69
                      try clear c69b0
                      try clear c70
                      try clear c70b0
                      try clear c72
                      try clear p72
                      try clear q72
                      try clear hx72
                      try clear c73
                      try clear p73
                      try clear q73
                      try clear hx73
                      try clear p74
                      try clear q74
                      try clear hx74
                      try clear c75
                      try clear c75b0
                      try clear p75
                      try clear q75
                      try clear hx75
                      try clear c76
                      try clear c76b0
                      try clear c79
                      try clear c79b0
                      try clear c79b1
                      try clear c80
                      try clear c80b0
                      try clear c80b1
                      try clear c82
                      try clear c82b0
                      try clear c82b1
                      try clear c82b2
                      try clear c93
                      try clear c93b0
                      try clear c93b1
                      try clear c93b2
                      try clear c104
                      try clear c106
                      try clear hcz112_0
                      try clear hcz112_1
                      try clear hcz122_0
                      try clear hcz122_1
                      try clear hcz132_0
                      try clear hcz132_1
                      try clear hcz141_0
                      try clear hcz141_1
                      try clear hcz149_0
                      try clear hcz149_1
                      try clear hcz15_0
                      try clear hcz15_1
                      try clear hcz21_0
                      try clear hcz21_1
                      try clear hcz23_0
                      try clear hcz23_1
                      try clear hcz38_0
                      try clear hcz38_1
                      try clear hcz40_0
                      try clear hcz40_1
                      try clear hcz42_0
                      try clear hcz42_1
                      try clear hcz44_0
                      try clear hcz44_1
                      try clear hcz46_0
                      try clear hcz46_1
                      try clear hcz62_0
                      try clear hcz62_1
                      try clear hcz65_0
                      try clear hcz65_1
                      try clear hcz68_0
                      try clear hcz68_1
                      try clear hcz72_0
                      try clear hcz72_1
                      try clear hcz74_0
                      try clear hcz74_1
                      try clear hcz7_0
                      try clear hcz7_1
                      try clear hcz88_0
                      try clear hcz88_1
                      try clear hcz99_0
                      try clear hcz99_1
                      try clear hfz112_0
                      try clear hfz112_1
                      try clear hfz122_0
                      try clear hfz122_1
                      try clear hfz132_0
                      try clear hfz132_1
                      try clear hfz141_0
                      try clear hfz141_1
                      try clear hfz149_0
                      try clear hfz149_1
                      try clear hfz15_0
                      try clear hfz15_1
                      try clear hfz21_0
                      try clear hfz21_1
                      try clear hfz23_0
                      try clear hfz23_1
                      try clear hfz38_0
                      try clear hfz38_1
                      try clear hfz40_0
                      try clear hfz40_1
                      try clear hfz42_0
                      try clear hfz42_1
                      try clear hfz44_0
                      try clear hfz44_1
                      try clear hfz46_0
                      try clear hfz46_1
                      try clear hfz62_0
                      try clear hfz62_1
                      try clear hfz65_0
                      try clear hfz65_1
                      try clear hfz68_0
                      try clear hfz68_1
                      try clear hfz72_0
                      try clear hfz72_1
                      try clear hfz74_0
                      try clear hfz74_1
                      try clear hfz7_0
                      try clear hfz7_1
                      try clear hfz88_0
                      try clear hfz88_1
                      try clear hfz99_0
                      try clear hfz99_1
                      try clear hx728_0
                      try clear hx729_0
                      try clear hx730_0
                      try clear hx731_0
                      try clear hx732_0
                      try clear hx733_0
                      try clear hx734_0
                      try clear hx744_0
                      try clear hx746_0
                      try clear hx748_0
                      try clear hx750_0
                      try clear p2
                      try clear p728
                      try clear p729
                      try clear p730
                      try clear p731
                      try clear p732
                      try clear p733
                      try clear p734
                      try clear p744
                      try clear p746
                      try clear p748
                      try clear p750
                      try clear q728
                      try clear q729
                      try clear q730
                      try clear q731
                      try clear q732
                      try clear q733
                      try clear q734
                      try clear q744
                      try clear q746
                      try clear q748
                      try clear q750
                      obtain ⟨x22_4, rfl, HA, HK4, HO_5, HO_11, BK702, HB⟩ := hrel
                      cases gk with
                      | zero => exact absurd HA.out (by simp [pylonlaw16_TreeBridges.l2])
                      | succ k4 =>
                        have H := HA.out
                        clear HA
                        simp only [pylonlaw16_TreeBridges.l2] at H
                        by_cases c153 : x22_4 < (t710.length : Int)
                        · rw [if_pos c153] at H
                          have c153b0 : decide (x22_4 < (t710.length : Int)) = true := decide_eq_true c153
                          clear c153
                          by_cases c154 : 0 ≤ x22_4
                          · rw [if_pos c154] at H
                            have c154b0 : decide (0 ≤ x22_4) = true := decide_eq_true c154
                            clear c154
                            replace H := Option.bind_eq_some_iff.mp H
                            obtain ⟨t753, A1550, H⟩ := H
                            replace H : (if t753 = true then (if x22_4 > 0 then (if 0 ≤ (wrap64 (x22_4 - 1)) then (if (wrap64 (x22_4 - 1)) < (t710.length : Int) then (if (rd t710 x22_4) ≤ (rd t710 (wrap64 (x22_4 - 1))) then (some false) else (pylonlaw16_TreeBridges.l2 k4 t710 t722 (wrap64 (x22_4 + 1)))) else (none)) else (none)) else (pylonlaw16_TreeBridges.l2 k4 t710 t722 (wrap64 (x22_4 + 1)))) else (some false)) = some r := H
                            have A155 := Aside0.mk A1550
                            clear A1550
                            by_cases c156 : t753 = true
                            · as_aux_lemma =>
                              subst c156
                              have H1 : (if x22_4 > 0 then (if 0 ≤ (wrap64 (x22_4 - 1)) then (if (wrap64 (x22_4 - 1)) < (t710.length : Int) then (if (rd t710 x22_4) ≤ (rd t710 (wrap64 (x22_4 - 1))) then (some false) else (pylonlaw16_TreeBridges.l2 k4 t710 t722 (wrap64 (x22_4 + 1)))) else (none)) else (none)) else (pylonlaw16_TreeBridges.l2 k4 t710 t722 (wrap64 (x22_4 + 1)))) = some r := by rw [if_pos rfl] at H; exact H
                              clear H
                              have H := H1
                              clear H1
                              by_cases c157 : x22_4 > 0
                              · rw [if_pos c157] at H
                                have c157b0 : decide (0 < x22_4) = true := decide_eq_true c157
                                clear c157
                                obtain ⟨ji158, hji158⟩ : ∃ j_ : Int, (wrap64 (x22_4 - 1)) = j_ := ⟨_, rfl⟩
                                replace H : (if 0 ≤ (ji158) then (if (ji158) < (t710.length : Int) then (if (rd t710 x22_4) ≤ (rd t710 (ji158)) then (some false) else (pylonlaw16_TreeBridges.l2 k4 t710 t722 (wrap64 (x22_4 + 1)))) else (none)) else (none)) = some r := by first | (rw [hji158] at H; exact H) | (simp only [hji158] at H ⊢; exact H)
                                (try rw [hji158] at A155)
                                have hji158w : (IntKind.i64.wrap (x22_4 - 1)) = ji158 := (i64_w _).trans hji158
                                by_cases c159 : 0 ≤ (ji158)
                                · rw [if_pos c159] at H
                                  have c159b0 : decide (0 ≤ (ji158)) = true := decide_eq_true c159
                                  clear c159
                                  by_cases c160 : (ji158) < (t710.length : Int)
                                  · rw [if_pos c160] at H
                                    have c160b0 : decide ((ji158) < (t710.length : Int)) = true := decide_eq_true c160
                                    clear c160
                                    by_cases c161 : (rd t710 x22_4) ≤ (rd t710 (ji158))
                                    · rw [if_pos c161] at H
                                      have c161b0 : decide ((rd t710 x22_4) ≤ (rd t710 (ji158))) = true := decide_eq_true c161
                                      clear c161
                                      obtain rfl := Option.some.inj H
                                      obtain ⟨Ao162, co162, eo162⟩ := Kd.R_slice HO_5.out
                                      subst eo162
                                      have p752 : 0 ≤ (x22_4 : Int) := of_decide_eq_true (by first | (with_reducible assumption) | assumption)
                                      have q752 : x22_4 < (t710.length : Int) := of_decide_eq_true (by first | (with_reducible assumption) | assumption)
                                      obtain ⟨ad752, e752, hx752_0⟩ := Kd.at_int (Kd.R_reads' HO_5.out).2.2 x22_4 p752 q752
                                      cases e752
                                      replace p752 := eq_true p752
                                      replace q752 := eq_true q752
                                      go_wp2_with (first | (go_at_call 60; (with_reducible refine (pylonlaw16_has.calls k4 _ _ t722 (rd t710 x22_4) true _ ?side1 ?side2 A155.out).mono ?_); (case side1 => repeat (first | exact (Kd.R_reads' HO_11.out).2.2 | (with_reducible refine Kd.C_alloc ?_ _) | (with_reducible refine Kd.C_drewN ?_ _) | (with_reducible refine Kd.C_drew ?_))); (case side2 => exact (Kd.R_reads' HO_11.out).2.1); rintro e w' ⟨rfl, ⟨nd, rfl⟩⟩; (try first | exact ⟨rfl, _, World.drewN_drewN _ _ _⟩ | exact ⟨rfl, _, Eq.trans (World.drewN_drewN _ _ _) (congrArg (World.drewN _) (Nat.add_assoc _ _ _))⟩); have p754 : 0 ≤ (x22_4 : Int) := of_decide_eq_true (by first | (with_reducible assumption) | assumption); have q754 : x22_4 < (t710.length : Int) := of_decide_eq_true (by first | (with_reducible assumption) | assumption); obtain ⟨ad754, e754, hx754_0⟩ := Kd.at_int (Kd.R_reads' HO_5.out).2.2 x22_4 p754 q754; obtain rfl : ad752 = ad754 := (by injection e754); replace p754 := eq_true p754; replace q754 := eq_true q754; have p755 : 0 ≤ ((ji158) : Int) := of_decide_eq_true (by first | (with_reducible assumption) | assumption); have q755 : (ji158) < (t710.length : Int) := of_decide_eq_true (by first | (with_reducible assumption) | assumption); obtain ⟨ad755, e755, hx755_0⟩ := Kd.at_int (Kd.R_reads' HO_5.out).2.2 (ji158) p755 q755; obtain rfl : ad752 = ad755 := (by injection e755); replace p755 := eq_true p755; replace q755 := eq_true q755) | (go_quiet (first | (go_at_call 60; (with_reducible refine (pylonlaw16_has.calls k4 _ _ t722 (rd t710 x22_4) true _ ?side1 ?side2 A155.out).mono ?_); (case side1 => repeat (first | exact (Kd.R_reads' HO_11.out).2.2 | (with_reducible refine Kd.C_alloc ?_ _) | (with_reducible refine Kd.C_drewN ?_ _) | (with_reducible refine Kd.C_drew ?_))); (case side2 => exact (Kd.R_reads' HO_11.out).2.1); rintro e w' ⟨rfl, ⟨nd, rfl⟩⟩; (try first | exact ⟨rfl, _, World.drewN_drewN _ _ _⟩ | exact ⟨rfl, _, Eq.trans (World.drewN_drewN _ _ _) (congrArg (World.drewN _) (Nat.add_assoc _ _ _))⟩); have p754 : 0 ≤ (x22_4 : Int) := of_decide_eq_true (by first | (with_reducible assumption) | assumption); have q754 : x22_4 < (t710.length : Int) := of_decide_eq_true (by first | (with_reducible assumption) | assumption); obtain ⟨ad754, e754, hx754_0⟩ := Kd.at_int (Kd.R_reads' HO_5.out).2.2 x22_4 p754 q754; obtain rfl : ad752 = ad754 := (by injection e754); replace p754 := eq_true p754; replace q754 := eq_true q754; have p755 : 0 ≤ ((ji158) : Int) := of_decide_eq_true (by first | (with_reducible assumption) | assumption); have q755 : (ji158) < (t710.length : Int) := of_decide_eq_true (by first | (with_reducible assumption) | assumption); obtain ⟨ad755, e755, hx755_0⟩ := Kd.at_int (Kd.R_reads' HO_5.out).2.2 (ji158) p755 q755; obtain rfl : ad752 = ad755 := (by injection e755); replace p755 := eq_true p755; replace q755 := eq_true q755))))
                                      go_ret
                                      exact ⟨by first | rfl | (simp [errW_none, errW_some] <;> rfl) | (simp only [← hji158]; first | rfl | (simp [errW_none, errW_some] <;> rfl)) | (simp [*, errW_none, errW_some] <;> rfl), by repeat (first | (with_reducible first | exact HB.out | apply below_alloc | apply pw_below_drewN | apply below_drew1 | refine below_set ?_ GE702.out) | exact HB.out)⟩
                                    · rw [if_neg c161] at H
                                      have c161b0 : decide ((rd t710 x22_4) ≤ (rd t710 (ji158))) = false := decide_eq_false c161
                                      clear c161
                                      have H' := Aside0.mk H
                                      clear H
                                      obtain ⟨Ao163, co163, eo163⟩ := Kd.R_slice HO_5.out
                                      subst eo163
                                      have p752 : 0 ≤ (x22_4 : Int) := of_decide_eq_true (by first | (with_reducible assumption) | assumption)
                                      have q752 : x22_4 < (t710.length : Int) := of_decide_eq_true (by first | (with_reducible assumption) | assumption)
                                      obtain ⟨ad752, e752, hx752_0⟩ := Kd.at_int (Kd.R_reads' HO_5.out).2.2 x22_4 p752 q752
                                      cases e752
                                      replace p752 := eq_true p752
                                      replace q752 := eq_true q752
                                      go_wp2_with (first | (go_at_call 60; (with_reducible refine (pylonlaw16_has.calls k4 _ _ t722 (rd t710 x22_4) true _ ?side1 ?side2 A155.out).mono ?_); (case side1 => repeat (first | exact (Kd.R_reads' HO_11.out).2.2 | (with_reducible refine Kd.C_alloc ?_ _) | (with_reducible refine Kd.C_drewN ?_ _) | (with_reducible refine Kd.C_drew ?_))); (case side2 => exact (Kd.R_reads' HO_11.out).2.1); rintro e w' ⟨rfl, ⟨nd, rfl⟩⟩; (try first | exact ⟨rfl, _, World.drewN_drewN _ _ _⟩ | exact ⟨rfl, _, Eq.trans (World.drewN_drewN _ _ _) (congrArg (World.drewN _) (Nat.add_assoc _ _ _))⟩); have p754 : 0 ≤ (x22_4 : Int) := of_decide_eq_true (by first | (with_reducible assumption) | assumption); have q754 : x22_4 < (t710.length : Int) := of_decide_eq_true (by first | (with_reducible assumption) | assumption); obtain ⟨ad754, e754, hx754_0⟩ := Kd.at_int (Kd.R_reads' HO_5.out).2.2 x22_4 p754 q754; obtain rfl : ad752 = ad754 := (by injection e754); replace p754 := eq_true p754; replace q754 := eq_true q754; have p755 : 0 ≤ ((ji158) : Int) := of_decide_eq_true (by first | (with_reducible assumption) | assumption); have q755 : (ji158) < (t710.length : Int) := of_decide_eq_true (by first | (with_reducible assumption) | assumption); obtain ⟨ad755, e755, hx755_0⟩ := Kd.at_int (Kd.R_reads' HO_5.out).2.2 (ji158) p755 q755; obtain rfl : ad752 = ad755 := (by injection e755); replace p755 := eq_true p755; replace q755 := eq_true q755) | (go_quiet (first | (go_at_call 60; (with_reducible refine (pylonlaw16_has.calls k4 _ _ t722 (rd t710 x22_4) true _ ?side1 ?side2 A155.out).mono ?_); (case side1 => repeat (first | exact (Kd.R_reads' HO_11.out).2.2 | (with_reducible refine Kd.C_alloc ?_ _) | (with_reducible refine Kd.C_drewN ?_ _) | (with_reducible refine Kd.C_drew ?_))); (case side2 => exact (Kd.R_reads' HO_11.out).2.1); rintro e w' ⟨rfl, ⟨nd, rfl⟩⟩; (try first | exact ⟨rfl, _, World.drewN_drewN _ _ _⟩ | exact ⟨rfl, _, Eq.trans (World.drewN_drewN _ _ _) (congrArg (World.drewN _) (Nat.add_assoc _ _ _))⟩); have p754 : 0 ≤ (x22_4 : Int) := of_decide_eq_true (by first | (with_reducible assumption) | assumption); have q754 : x22_4 < (t710.length : Int) := of_decide_eq_true (by first | (with_reducible assumption) | assumption); obtain ⟨ad754, e754, hx754_0⟩ := Kd.at_int (Kd.R_reads' HO_5.out).2.2 x22_4 p754 q754; obtain rfl : ad752 = ad754 := (by injection e754); replace p754 := eq_true p754; replace q754 := eq_true q754; have p755 : 0 ≤ ((ji158) : Int) := of_decide_eq_true (by first | (with_reducible assumption) | assumption); have q755 : (ji158) < (t710.length : Int) := of_decide_eq_true (by first | (with_reducible assumption) | assumption); obtain ⟨ad755, e755, hx755_0⟩ := Kd.at_int (Kd.R_reads' HO_5.out).2.2 (ji158) p755 q755; obtain rfl : ad752 = ad755 := (by injection e755); replace p755 := eq_true p755; replace q755 := eq_true q755))))
                                      go_roundg k4
                                      case measure => have := HJ2.out; have := HJ36.out; have := HK3.out; have := HK4.out; omega
                                      case rel => exact ⟨(wrap64 (x22_4 + 1)), (by first | rfl | (simp; done) | (simp [*]; done)), H', ⟨by have := HJ2.out; have := HJ36.out; have := HK3.out; have := HK4.out; omega⟩, ⟨by (with_reducible repeat (first | apply Kd.R_alloc | apply Kd.R_drewN | apply Kd.R_drew)); exact HO_5.out⟩, ⟨by (with_reducible repeat (first | apply Kd.R_alloc | apply Kd.R_drewN | apply Kd.R_drew)); exact HO_11.out⟩, ⟨by (with_reducible repeat (first | refine blk_drewN ?_ _ | refine blk_drew ?_ | refine blk_alloc ?_ _)); exact BK702.out⟩, ⟨by repeat (first | (with_reducible first | exact HB.out | apply below_alloc | apply pw_below_drewN | apply below_drew1 | refine below_set ?_ GE702.out) | exact HB.out)⟩⟩
                                  · rw [if_neg c160] at H
                                    exact absurd H (by simp)
                                · rw [if_neg c159] at H
                                  exact absurd H (by simp)
                              · rw [if_neg c157] at H
                                have c157b0 : decide (0 < x22_4) = false := decide_eq_false c157
                                clear c157
                                have H' := Aside0.mk H
                                clear H
                                obtain ⟨Ao164, co164, eo164⟩ := Kd.R_slice HO_5.out
                                subst eo164
                                have p752 : 0 ≤ (x22_4 : Int) := of_decide_eq_true (by first | (with_reducible assumption) | assumption)
                                have q752 : x22_4 < (t710.length : Int) := of_decide_eq_true (by first | (with_reducible assumption) | assumption)
                                obtain ⟨ad752, e752, hx752_0⟩ := Kd.at_int (Kd.R_reads' HO_5.out).2.2 x22_4 p752 q752
                                cases e752
                                replace p752 := eq_true p752
                                replace q752 := eq_true q752
                                go_wp2_with (first | (go_at_call 60; (with_reducible refine (pylonlaw16_has.calls k4 _ _ t722 (rd t710 x22_4) true _ ?side1 ?side2 A155.out).mono ?_); (case side1 => repeat (first | exact (Kd.R_reads' HO_11.out).2.2 | (with_reducible refine Kd.C_alloc ?_ _) | (with_reducible refine Kd.C_drewN ?_ _) | (with_reducible refine Kd.C_drew ?_))); (case side2 => exact (Kd.R_reads' HO_11.out).2.1); rintro e w' ⟨rfl, ⟨nd, rfl⟩⟩; (try first | exact ⟨rfl, _, World.drewN_drewN _ _ _⟩ | exact ⟨rfl, _, Eq.trans (World.drewN_drewN _ _ _) (congrArg (World.drewN _) (Nat.add_assoc _ _ _))⟩)) | (go_quiet (first | (go_at_call 60; (with_reducible refine (pylonlaw16_has.calls k4 _ _ t722 (rd t710 x22_4) true _ ?side1 ?side2 A155.out).mono ?_); (case side1 => repeat (first | exact (Kd.R_reads' HO_11.out).2.2 | (with_reducible refine Kd.C_alloc ?_ _) | (with_reducible refine Kd.C_drewN ?_ _) | (with_reducible refine Kd.C_drew ?_))); (case side2 => exact (Kd.R_reads' HO_11.out).2.1); rintro e w' ⟨rfl, ⟨nd, rfl⟩⟩; (try first | exact ⟨rfl, _, World.drewN_drewN _ _ _⟩ | exact ⟨rfl, _, Eq.trans (World.drewN_drewN _ _ _) (congrArg (World.drewN _) (Nat.add_assoc _ _ _))⟩)))))
                                go_roundg k4
                                case measure => have := HJ2.out; have := HJ36.out; have := HK3.out; have := HK4.out; omega
                                case rel => exact ⟨(wrap64 (x22_4 + 1)), (by first | rfl | (simp; done) | (simp [*]; done)), H', ⟨by have := HJ2.out; have := HJ36.out; have := HK3.out; have := HK4.out; omega⟩, ⟨by (with_reducible repeat (first | apply Kd.R_alloc | apply Kd.R_drewN | apply Kd.R_drew)); exact HO_5.out⟩, ⟨by (with_reducible repeat (first | apply Kd.R_alloc | apply Kd.R_drewN | apply Kd.R_drew)); exact HO_11.out⟩, ⟨by (with_reducible repeat (first | refine blk_drewN ?_ _ | refine blk_drew ?_ | refine blk_alloc ?_ _)); exact BK702.out⟩, ⟨by repeat (first | (with_reducible first | exact HB.out | apply below_alloc | apply pw_below_drewN | apply below_drew1 | refine below_set ?_ GE702.out) | exact HB.out)⟩⟩
                            · as_aux_lemma =>
                              replace c156 := Bool.eq_false_iff.mpr c156
                              subst c156
                              have H1 : (some false) = some r := by rw [if_neg (show ¬ (false = true) by decide)] at H; exact H
                              clear H
                              have H := H1
                              clear H1
                              obtain rfl := Option.some.inj H
                              obtain ⟨Ao165, co165, eo165⟩ := Kd.R_slice HO_5.out
                              subst eo165
                              have p752 : 0 ≤ (x22_4 : Int) := of_decide_eq_true (by first | (with_reducible assumption) | assumption)
                              have q752 : x22_4 < (t710.length : Int) := of_decide_eq_true (by first | (with_reducible assumption) | assumption)
                              obtain ⟨ad752, e752, hx752_0⟩ := Kd.at_int (Kd.R_reads' HO_5.out).2.2 x22_4 p752 q752
                              cases e752
                              replace p752 := eq_true p752
                              replace q752 := eq_true q752
                              go_wp2_with (first | (go_at_call 60; (with_reducible refine (pylonlaw16_has.calls k4 _ _ t722 (rd t710 x22_4) false _ ?side1 ?side2 A155.out).mono ?_); (case side1 => repeat (first | exact (Kd.R_reads' HO_11.out).2.2 | (with_reducible refine Kd.C_alloc ?_ _) | (with_reducible refine Kd.C_drewN ?_ _) | (with_reducible refine Kd.C_drew ?_))); (case side2 => exact (Kd.R_reads' HO_11.out).2.1); rintro e w' ⟨rfl, ⟨nd, rfl⟩⟩; (try first | exact ⟨rfl, _, World.drewN_drewN _ _ _⟩ | exact ⟨rfl, _, Eq.trans (World.drewN_drewN _ _ _) (congrArg (World.drewN _) (Nat.add_assoc _ _ _))⟩)) | (go_quiet (first | (go_at_call 60; (with_reducible refine (pylonlaw16_has.calls k4 _ _ t722 (rd t710 x22_4) false _ ?side1 ?side2 A155.out).mono ?_); (case side1 => repeat (first | exact (Kd.R_reads' HO_11.out).2.2 | (with_reducible refine Kd.C_alloc ?_ _) | (with_reducible refine Kd.C_drewN ?_ _) | (with_reducible refine Kd.C_drew ?_))); (case side2 => exact (Kd.R_reads' HO_11.out).2.1); rintro e w' ⟨rfl, ⟨nd, rfl⟩⟩; (try first | exact ⟨rfl, _, World.drewN_drewN _ _ _⟩ | exact ⟨rfl, _, Eq.trans (World.drewN_drewN _ _ _) (congrArg (World.drewN _) (Nat.add_assoc _ _ _))⟩)))))
                              go_ret
                              exact ⟨by first | rfl | (simp [errW_none, errW_some] <;> rfl) | (simp [*, errW_none, errW_some] <;> rfl), by repeat (first | (with_reducible first | exact HB.out | apply below_alloc | apply pw_below_drewN | apply below_drew1 | refine below_set ?_ GE702.out) | exact HB.out)⟩
                          · rw [if_neg c154] at H
                            exact absurd H (by simp)
                        · rw [if_neg c153] at H
                          have c153b0 : decide (x22_4 < (t710.length : Int)) = false := decide_eq_false c153
                          clear c153
                          obtain rfl := Option.some.inj H
                          obtain ⟨Ao166, co166, eo166⟩ := Kd.R_slice HO_5.out
                          subst eo166
                          go_wp2
                          repeat (go_quiet (fail); try go_wp2)
                          go_ret
                          exact ⟨by first | rfl | (simp [errW_none, errW_some] <;> rfl) | (simp [*, errW_none, errW_some] <;> rfl), by repeat (first | (with_reducible first | exact HB.out | apply below_alloc | apply pw_below_drewN | apply below_drew1 | refine below_set ?_ GE702.out) | exact HB.out)⟩

end Go.Proofs.Ytdpgdelimffjpaa.P
