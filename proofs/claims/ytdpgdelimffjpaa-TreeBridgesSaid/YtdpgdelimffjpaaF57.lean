-- Written by wip/drive.py (a prover's driver over the kit's print.py); hand-proved contracts stand among the printed ones. Lean checks it.
import Derived.Test.YtdpgdelimffjpaaFBase
import Derived.Test.YtdpgdelimffjpaaF103
import Derived.Test.YtdpgdelimffjpaaF56
import Derived.Test.YtdpgdelimffjpaaF59
import Derived.Test.YtdpgdelimffjpaaFA
namespace Go.Proofs.Ytdpgdelimffjpaa.P
open Go.RowKit Go.Proofs.YtdpgdelimffjpaaW.PrintWords Go.Proofs.YtdpgdelimffjpaaW.PrintLast Go.Proofs.YtdpgdelimffjpaaW.PrintMore
attribute [local go_sem] max2_int min2_int max_two min_two max_three min_three max_four min_four   -- for this text's walks alone
set_option linter.unusedVariables false
set_option linter.unusedSimpArgs false

/-! ### tree_Cycles: function 57 -/
def tree_Cycles.l0 : Nat → List (List Int) → Int → List Int → List Int → Int → Int → Int → List (S37) → Option ((List (List Int)) × Int)
  | 0, _, _, _, _, _, _, _, _ => none
  | k + 1, x4, x5, x7, x24, x25, x26, x545000, x545001 => if x26 < x25 then (if 0 ≤ x26 then (if x26 < (x24.length : Int) then ((slices_Contains_int_int.f k x7 (rd x24 x26)).bind fun t554 => (if t554 = true then (tree_Cycles.l0 k x4 x5 x7 x24 x25 (wrap64 (x26 + 1)) x545000 x545001) else (if 0 ≤ (x545001.length : Int) then (if ((x545001.length : Int) : Int).toNat ≤ 35184372088832 then ((some (List.replicate ((x545001.length : Int) : Int).toNat 0 : List Int)).bind fun y555 => (if 0 ≤ (rd x24 x26) then (if (rd x24 x26) < (x545001.length : Int) then ((tree_walk.f k x545000 x545001 x7 ((rd_T37 x545001 (rd x24 x26)).f1) ((rd_T37 x545001 (rd x24 x26)).f0) y555).bind fun bt560 => (if (rd x24 x26) < (y555.length : Int) then (if x4.length < 5864062014805 then (tree_Cycles.l0 k (x4 ++ [(bt560.2.set ((rd x24 x26) : Int).toNat 1)]) x5 x7 x24 x25 (wrap64 (x26 + 1)) x545000 x545001) else (none)) else (none))) else (none)) else (none))) else (none)) else (none)))) else (none)) else (none)) else (some (x4, x5))
def tree_Cycles.f (k : Nat) (a0_0 : Int) (l0_1 : List (S37)) (l1 : List Int) : Option ((List (List Int)) × Int) := (net_In.f a0_0 l0_1 l1).bind fun bt545 => ((tree_Tree.f k a0_0 l0_1 l1).bind fun bt549 => (tree_Cycles.l0 k ([] : List (List Int)) bt545.2 bt549.1 bt545.1 (bt545.1.length : Int) 0 a0_0 l0_1))
theorem tree_Cycles.mono_l : ∀ k, (∀ y0 y1 y2 y3 y4 y5 y6 y7, LeO (tree_Cycles.l0 k y0 y1 y2 y3 y4 y5 y6 y7) (tree_Cycles.l0 (k + 1) y0 y1 y2 y3 y4 y5 y6 y7))
  | 0 => fun _ _ _ _ _ _ _ _ r h => by simp [tree_Cycles.l0] at h
  | k + 1 => by
    have ih0 := tree_Cycles.mono_l k
    · intro y0 y1 y2 y3 y4 y5 y6 y7
      unfold tree_Cycles.l0
      repeat' first
      | (with_reducible exact ih0 _ _ _ _ _ _ _ _)
      | (with_reducible exact slices_Contains_int_int.mono _ _ _)
      | (with_reducible exact tree_Tree.mono _ _ _ _)
      | (with_reducible exact tree_walk.mono _ _ _ _ _ _ _)
      | (with_reducible exact LeO.refl _)
      | (with_reducible exact LeO.none _)
      | (with_reducible refine LeO.ite ?_ ?_)
      | (with_reducible refine LeO.bind ?_ (fun _ => ?_))
      | exact ih0 _ _ _ _ _ _ _ _
      | exact slices_Contains_int_int.mono _ _ _
      | exact tree_Tree.mono _ _ _ _
      | exact tree_walk.mono _ _ _ _ _ _ _
      | exact LeO.none _
      | refine LeO.ite ?_ ?_
      | refine LeO.bind ?_ (fun _ => ?_)
theorem tree_Cycles.mono : ∀ a0 a1 a2 k, LeO (tree_Cycles.f k a0 a1 a2) (tree_Cycles.f (k + 1) a0 a1 a2) := by
  intro a0 a1 a2 k
  have ih0 := tree_Cycles.mono_l k
  unfold tree_Cycles.f
  repeat' first
      | (with_reducible exact ih0 _ _ _ _ _ _ _ _)
      | (with_reducible exact slices_Contains_int_int.mono _ _ _)
      | (with_reducible exact tree_Tree.mono _ _ _ _)
      | (with_reducible exact tree_walk.mono _ _ _ _ _ _ _)
      | (with_reducible exact LeO.refl _)
      | (with_reducible exact LeO.none _)
      | (with_reducible refine LeO.ite ?_ ?_)
      | (with_reducible refine LeO.bind ?_ (fun _ => ?_))
      | exact ih0 _ _ _ _ _ _ _ _
      | exact slices_Contains_int_int.mono _ _ _
      | exact tree_Tree.mono _ _ _ _
      | exact tree_walk.mono _ _ _ _ _ _ _
      | exact LeO.none _
      | refine LeO.ite ?_ ?_
      | refine LeO.bind ?_ (fun _ => ?_)
def tree_Cycles.T8 : Bool × List (List Nat × List Nat) := (true, [([], []), ([], []), ([], []), ([2], [2]), ([], []), ([3, 4], [3, 4]), ([5], [5]), ([6], [6]), ([], []), ([8], [8]), ([], []), ([9, 10], [9, 10]), ([11], [11]), ([12], [12]), ([], []), ([0, 1, 7, 13, 14], [0, 1, 7, 13, 14])])
def tree_Cycles.B8 : List Nat := [0, 0, 0, 4, 0, 28, 60, 124, 0, 256, 0, 1792, 3840, 7936, 0, 32767]
theorem tree_Cycles.tab8 : rtab .any (opsOf Try.f57 8) = tree_Cycles.T8 := by kernel_rfl
theorem tree_Cycles.bits8 : waitsOk tree_Cycles.T8.2 tree_Cycles.B8 = true := by kernel_rfl
set_option maxHeartbeats 8000000 in
set_option maxRecDepth 100000 in
theorem tree_Cycles.calls (k : Nat) (a0_0 : Int) (A0_1 : Option Addr) (c0_1 : Nat) (l0_1 : List (S37)) (A1 : Option Addr) (c1 : Nat) (l1 : List Int) (r1 : List (List Int)) (r2 : Int) (w : World) (hr0_1 : Kd.C k37 w A0_1 l0_1.length l0_1) (hc0_1 : l0_1.length ≤ c0_1) (hr1 : Kd.C (Kd.int .i64) w A1 l1.length l1) (hc1 : l1.length ≤ c1) (h : tree_Cycles.f k a0_0 l0_1 l1 = some (r1, r2)) :
    Calls Try.prog 57 #[.agg #[.int .i64 a0_0, .slice A0_1 l0_1.length c0_1], .slice A1 l1.length c1] w fun e w' => ∃ v0_ : Value, e = .returned (.tuple #[v0_, .int .i64 r2]) ∧ Kd.S (Kd.slice 3 (Kd.int .i64)) 25 w' w.heap.size (fun _ => True) v0_ r1 ∧ Below w.heap.size w w' := by
  have hu24 := Try.underlying24
  have HR0_1 := Aside0.mk hr0_1
  have HC0_1 := Aside0.mk hc0_1
  clear hr0_1 hc0_1
  have HR1 := Aside0.mk hr1
  have HC1 := Aside0.mk hc1
  clear hr1 hc1
  have HB := Aside0.mk (Below.refl w.heap.size w)
  have H : ((net_In.f a0_0 l0_1 l1).bind fun bt545 => ((tree_Tree.f k a0_0 l0_1 l1).bind fun bt549 => (tree_Cycles.l0 k ([] : List (List Int)) bt545.2 bt549.1 bt545.1 (bt545.1.length : Int) 0 a0_0 l0_1))) = some (r1, r2) := h
  clear h
  replace H := Option.bind_eq_some_iff.mp H
  obtain ⟨⟨t545, t548⟩, A30, H⟩ := H
  replace H : ((tree_Tree.f k a0_0 l0_1 l1).bind fun bt549 => (tree_Cycles.l0 k ([] : List (List Int)) t548 bt549.1 t545 (t545.length : Int) 0 a0_0 l0_1)) = some (r1, r2) := H
  have A3 := Aside0.mk A30
  clear A30
  replace H := Option.bind_eq_some_iff.mp H
  obtain ⟨⟨t549, t552⟩, A40, H⟩ := H
  replace H : (tree_Cycles.l0 k ([] : List (List Int)) t548 t549 t545 (t545.length : Int) 0 a0_0 l0_1) = some (r1, r2) := H
  have A4 := Aside0.mk A40
  clear A40
  have H' := Aside0.mk H
  clear H
  go_enter Try.func57, Try.ntmps57
  go_wp2_with (first | ((with_reducible refine gate_dst (N := 2) rfl ?_); refine box_event ?hg (N := 2) ?hd (cs := #[.int .i64 a0_0, .slice A0_1 l0_1.length c0_1]) (t := 24) ?hr ?_; (case hd => rfl); (case hg => rfl); (case hr => first | (go_simp; done) | (go_simp; rfl)); intro gb544 hg w5 hbox hb; have n0_ := Aside0.mk (below_step (by repeat (first | (with_reducible first | exact HB.out | apply below_alloc | apply pw_below_drewN | apply below_drew1) | exact HB.out)) hb); have n1_ := Aside0.mk (hbox); have n2_ := Aside0.mk ((by rw [hg]; exact (below_size (by repeat (first | (with_reducible first | exact HB.out | apply below_alloc | apply pw_below_drewN | apply below_drew1) | exact HB.out))) : w.heap.size ≤ gb544)); have n3_ := Aside0.mk ((by rw [hg]; exact (below_size (by repeat (first | (with_reducible first | exact HB.out | apply below_alloc | apply pw_below_drewN | apply below_drew1) | exact HB.out))) : w.heap.size ≤ gb544)); clear HB; have HB := n0_; have BK544 := n1_; have GW544 := n2_; have GE544 := n3_; clear n0_ n1_ n2_ n3_; clear hb hbox hg; have hcz6_0 : w5.cell? ⟨gb544, 0, none⟩ = some (.int .i64 a0_0) := (blk_cell BK544.out 0).trans rfl; have hcz6_1 : w5.cell? ⟨gb544, 1, none⟩ = some (.slice A0_1 l0_1.length c0_1) := (blk_cell BK544.out 1).trans rfl; have hfz6_0 := blk_frozen BK544.out 0; have hfz6_1 := blk_frozen BK544.out 1) | ((with_reducible refine gate_callee (f := 59) rfl ?_); refine goesL_ (some 15) rfl rfl Try.func59 (by kernel_rfl) rfl #[.agg #[.int .i64 a0_0, .slice A0_1 l0_1.length c0_1], .slice A1 l1.length c1] rfl (by (try simp only [List.map_toArray, List.map_cons, List.map_nil]); first | done | rfl | (simp only [List.length_drop, List.length_take]; rfl)) ?_; (with_reducible refine (net_In.calls a0_0 _ _ l0_1 _ _ l1 t545 t548 _ ?side1 ?side2 ?side3 ?side4 A3.out).mono ?_); (case side1 => repeat (first | exact (Kd.C_below HR0_1.out HB.out) | (with_reducible refine Kd.C_alloc ?_ _) | (with_reducible refine Kd.C_drewN ?_ _) | (with_reducible refine Kd.C_drew ?_))); (case side2 => exact HC0_1.out); (case side3 => repeat (first | exact (Kd.C_below HR1.out HB.out) | (with_reducible refine Kd.C_alloc ?_ _) | (with_reducible refine Kd.C_drewN ?_ _) | (with_reducible refine Kd.C_drew ?_))); (case side4 => exact HC1.out); rintro e w7 ⟨v546, rfl, ho0, hb⟩; refine ⟨_, rfl, ?_⟩; have n0_ := Aside0.mk (Kd.R_lower ho0 (below_size (by repeat (first | (with_reducible first | exact HB.out | apply below_alloc | apply pw_below_drewN | apply below_drew1 | refine below_set ?_ GE544.out) | exact HB.out)))); have n1_ := Aside0.mk (blk_below (g := gb544) (o := .cells #[.int .i64 a0_0, .slice A0_1 l0_1.length c0_1] 24 (0, 0)) (by (with_reducible repeat (first | refine blk_drewN ?_ _ | refine blk_drew ?_ | refine blk_alloc ?_ _)); exact BK544.out) hb); have n2_ := Aside0.mk (below_step (by repeat (first | (with_reducible first | exact HB.out | apply below_alloc | apply pw_below_drewN | apply below_drew1 | refine below_set ?_ GE544.out) | exact HB.out)) hb); clear BK544; clear HB; have HO547 := n0_; have BK544 := n1_; have HB := n2_; clear n0_ n1_ n2_; (try clear hb); (try clear hb2); (try clear hk); (try clear hi); (try clear ho0); have hcz8_0 : w7.cell? ⟨gb544, 0, none⟩ = some (.int .i64 a0_0) := (blk_cell BK544.out 0).trans rfl; have hcz8_1 : w7.cell? ⟨gb544, 1, none⟩ = some (.slice A0_1 l0_1.length c0_1) := (blk_cell BK544.out 1).trans rfl; have hfz8_0 := blk_frozen BK544.out 0; have hfz8_1 := blk_frozen BK544.out 1) | ((with_reducible refine gate_callee (f := 56) rfl ?_); refine goesL_ (some 21) rfl rfl Try.func56 (by kernel_rfl) rfl #[.agg #[.int .i64 a0_0, .slice A0_1 l0_1.length c0_1], .slice A1 l1.length c1] rfl (by (try simp only [List.map_toArray, List.map_cons, List.map_nil]); first | done | rfl | (simp only [List.length_drop, List.length_take]; rfl)) ?_; (with_reducible refine (tree_Tree.calls k a0_0 _ _ l0_1 _ _ l1 t549 t552 _ ?side1 ?side2 ?side3 ?side4 A4.out).mono ?_); (case side1 => repeat (first | exact (Kd.C_below HR0_1.out HB.out) | (with_reducible refine Kd.C_alloc ?_ _) | (with_reducible refine Kd.C_drewN ?_ _) | (with_reducible refine Kd.C_drew ?_))); (case side2 => exact HC0_1.out); (case side3 => repeat (first | exact (Kd.C_below HR1.out HB.out) | (with_reducible refine Kd.C_alloc ?_ _) | (with_reducible refine Kd.C_drewN ?_ _) | (with_reducible refine Kd.C_drew ?_))); (case side4 => exact HC1.out); rintro e w9 ⟨v550, rfl, ho0, hb⟩; refine ⟨_, rfl, ?_⟩; have n0_ := Aside0.mk (Kd.R_elder' (by (with_reducible repeat (first | apply Kd.R_alloc | apply Kd.R_drewN | apply Kd.R_drew)); exact HO547.out) (Kd.R_base ho0) hb); have n1_ := Aside0.mk (Kd.R_lower (Kd.R_new' ho0 (Kd.R_lt (by (with_reducible repeat (first | apply Kd.R_alloc | apply Kd.R_drewN | apply Kd.R_drew)); exact HO547.out))) (below_size (by repeat (first | (with_reducible first | exact HB.out | apply below_alloc | apply pw_below_drewN | apply below_drew1 | refine below_set ?_ GE544.out) | exact HB.out)))); have n2_ := Aside0.mk (blk_below (g := gb544) (o := .cells #[.int .i64 a0_0, .slice A0_1 l0_1.length c0_1] 24 (0, 0)) (by (with_reducible repeat (first | refine blk_drewN ?_ _ | refine blk_drew ?_ | refine blk_alloc ?_ _)); exact BK544.out) hb); have n3_ := Aside0.mk (below_step (by repeat (first | (with_reducible first | exact HB.out | apply below_alloc | apply pw_below_drewN | apply below_drew1 | refine below_set ?_ GE544.out) | exact HB.out)) hb); clear HO547; clear BK544; clear HB; have HO547 := n0_; have HO551 := n1_; have BK544 := n2_; have HB := n3_; clear n0_ n1_ n2_ n3_; (try clear hb); (try clear hb2); (try clear hk); (try clear hi); (try clear ho0); obtain ⟨Ao10, co10, eo10⟩ := Kd.R_slice HO547.out; subst eo10))
  go_loopg [4, 26] k (fun kq v4 v26 w' => ∃ (x4_1 : List (List Int)) (x7_1 : List Int) (x24_1 : List Int) (x26_1 : Int), v26 = .int .i64 x26_1 ∧ Aside0 (tree_Cycles.l0 kq x4_1 t548 x7_1 x24_1 (t545.length : Int) x26_1 a0_0 l0_1 = some (r1, r2)) ∧ Aside0 (kq ≤ k) ∧ Aside0 (Kd.S (Kd.slice 3 (Kd.int .i64)) 25 w' w.heap.size (fun k_ => some k_ ≠ (v550 : Value).ownBlock ∧ some k_ ≠ ((.slice Ao10 t545.length co10) : Value).ownBlock) v4 x4_1) ∧ Aside0 (Kd.R (Kd.int .i64) 3 w' w.heap.size (fun k_ => some k_ ≠ ((.slice Ao10 t545.length co10) : Value).ownBlock) v550 x7_1) ∧ Aside0 (Kd.R (Kd.int .i64) 3 w' w.heap.size (fun k_ => some k_ ≠ (v550 : Value).ownBlock) (.slice Ao10 t545.length co10) x24_1) ∧ Aside0 (w'.heap[gb544]? = some (.cells #[.int .i64 a0_0, (.slice A0_1 l0_1.length c0_1)] 24 (0, 0))) ∧ Aside0 (Below w.heap.size w w'))
  case atStart => exact ⟨(([] : List (List Int))), (t549), (t545), (0), (by first | rfl | (simp; done) | (simp [*]; done)), H', ⟨Nat.le_refl _⟩, ⟨by first | exact Kd.S_nil _ _ _ _ _ | exact Kd.N_nil _ _ _ _ _ | exact Kd.V_nil _ _ _ _ _ | exact Kd.Q_nil _ _ _ _ _ | exact Kd.R_nil _ _ _ _ _⟩, ⟨by (with_reducible repeat (first | apply Kd.R_alloc | apply Kd.R_drewN | apply Kd.R_drew)); exact Kd.R_mono HO551.out (fun _ hk => hk.2)⟩, ⟨by (with_reducible repeat (first | apply Kd.R_alloc | apply Kd.R_drewN | apply Kd.R_drew)); exact Kd.R_mono HO547.out (fun _ hk => hk.2)⟩, ⟨by (with_reducible repeat (first | refine blk_drewN ?_ _ | refine blk_drew ?_ | refine blk_alloc ?_ _)); exact BK544.out⟩, ⟨by repeat (first | (with_reducible first | exact HB.out | apply below_alloc | apply pw_below_drewN | apply below_drew1 | refine below_set ?_ GE544.out) | exact HB.out)⟩⟩
  case round =>
    clear H'
    try clear c1
    try clear p2
    try clear c5
    try clear hcz6_0
    try clear hcz6_1
    try clear hcz8_0
    try clear hcz8_1
    try clear hfz6_0
    try clear hfz6_1
    try clear hfz8_0
    try clear hfz8_1
    obtain ⟨x4_1, x7_1, x24_1, x26_1, rfl, HA, HK1, HO_4, HO_7, HO_24, BK544, HB⟩ := hrel
    have hl24_1 := (Kd.R_reads' HO_24.out).1
    rw [hl24_1] at HO_24
    (try simp only [hl24_1])
    (try simp only [hl24_1] at BK544)
    (try simp only [hl24_1] at HO_4)
    (try simp only [hl24_1] at HO_7)
    cases gk with
    | zero => exact absurd HA.out (by simp [tree_Cycles.l0])
    | succ k1 =>
      have H := HA.out
      clear HA
      simp only [tree_Cycles.l0] at H
      by_cases c11 : x26_1 < (t545.length : Int)
      · rw [if_pos c11] at H
        have c11b0 : decide (x26_1 < (t545.length : Int)) = true := decide_eq_true c11
        clear c11
        by_cases c12 : 0 ≤ x26_1
        · rw [if_pos c12] at H
          have c12b0 : decide (0 ≤ x26_1) = true := decide_eq_true c12
          clear c12
          by_cases c13 : x26_1 < (x24_1.length : Int)
          · rw [if_pos c13] at H
            have c13b0 : decide (x26_1 < (x24_1.length : Int)) = true := decide_eq_true c13
            clear c13
            replace H := Option.bind_eq_some_iff.mp H
            obtain ⟨t554, A140, H⟩ := H
            replace H : (if t554 = true then (tree_Cycles.l0 k1 x4_1 t548 x7_1 x24_1 (t545.length : Int) (wrap64 (x26_1 + 1)) a0_0 l0_1) else (if 0 ≤ (l0_1.length : Int) then (if ((l0_1.length : Int) : Int).toNat ≤ 35184372088832 then ((some (List.replicate ((l0_1.length : Int) : Int).toNat 0 : List Int)).bind fun y555 => (if 0 ≤ (rd x24_1 x26_1) then (if (rd x24_1 x26_1) < (l0_1.length : Int) then ((tree_walk.f k1 a0_0 l0_1 x7_1 ((rd_T37 l0_1 (rd x24_1 x26_1)).f1) ((rd_T37 l0_1 (rd x24_1 x26_1)).f0) y555).bind fun bt560 => (if (rd x24_1 x26_1) < (y555.length : Int) then (if x4_1.length < 5864062014805 then (tree_Cycles.l0 k1 (x4_1 ++ [(bt560.2.set ((rd x24_1 x26_1) : Int).toNat 1)]) t548 x7_1 x24_1 (t545.length : Int) (wrap64 (x26_1 + 1)) a0_0 l0_1) else (none)) else (none))) else (none)) else (none))) else (none)) else (none))) = some (r1, r2) := H
            have A14 := Aside0.mk A140
            clear A140
            by_cases c15 : t554 = true
            · subst c15
              have H1 : (tree_Cycles.l0 k1 x4_1 t548 x7_1 x24_1 (t545.length : Int) (wrap64 (x26_1 + 1)) a0_0 l0_1) = some (r1, r2) := by rw [if_pos rfl] at H; exact H
              clear H
              have H := H1
              clear H1
              have H' := Aside0.mk H
              clear H
              have p553 : 0 ≤ (x26_1 : Int) := of_decide_eq_true (by first | (with_reducible assumption) | assumption)
              have q553 : x26_1 < (x24_1.length : Int) := of_decide_eq_true (by first | (with_reducible assumption) | assumption)
              obtain ⟨ad553, e553, hx553_0⟩ := Kd.at_int (Kd.R_reads' HO_24.out).2.2 x26_1 p553 q553
              cases e553
              replace p553 := eq_true p553
              replace q553 := eq_true q553
              obtain ⟨Ao16, co16, eo16⟩ := Kd.R_slice HO_7.out
              subst eo16
              go_wp2_with (first | ((with_reducible refine gate_callee (f := 102) rfl ?_); refine goesL_ (some 32) rfl rfl Try.func102 (by kernel_rfl) rfl #[.slice Ao16 x7_1.length co16, .int .i64 (rd x24_1 x26_1)] rfl (by (try simp only [List.map_toArray, List.map_cons, List.map_nil]); first | done | rfl | (simp only [List.length_drop, List.length_take]; rfl)) ?_; (with_reducible refine (slices_Contains_int_int.calls k1 _ _ x7_1 (rd x24_1 x26_1) true _ ?side1 ?side2 A14.out).mono ?_); (case side1 => repeat (first | exact (Kd.R_reads' HO_7.out).2.2 | (with_reducible refine Kd.C_alloc ?_ _) | (with_reducible refine Kd.C_drewN ?_ _) | (with_reducible refine Kd.C_drew ?_))); (case side2 => exact (Kd.R_reads' HO_7.out).2.1); rintro e w' ⟨rfl, ⟨nd, rfl⟩⟩; refine ⟨_, rfl, ?_⟩))
              (try simp only [← hl24_1])
              go_roundg k1
              case measure => have := HK1.out; omega
              case rel => exact ⟨(x4_1), (x7_1), (x24_1), (wrap64 (x26_1 + 1)), (by first | rfl | (simp; done) | (simp [*]; done)), H', ⟨by have := HK1.out; omega⟩, ⟨by (try simp only [hl24_1]); (with_reducible repeat (first | apply Kd.S_alloc | apply Kd.S_drewN | apply Kd.S_drew)); exact HO_4.out⟩, ⟨by (try simp only [hl24_1]); (with_reducible repeat (first | apply Kd.R_alloc | apply Kd.R_drewN | apply Kd.R_drew)); exact HO_7.out⟩, ⟨by (try simp only [hl24_1]); (with_reducible repeat (first | apply Kd.R_alloc | apply Kd.R_drewN | apply Kd.R_drew)); exact HO_24.out⟩, ⟨by (try simp only [hl24_1]); (with_reducible repeat (first | refine blk_drewN ?_ _ | refine blk_drew ?_ | refine blk_alloc ?_ _)); exact BK544.out⟩, ⟨by repeat (first | (with_reducible first | exact HB.out | apply below_alloc | apply pw_below_drewN | apply below_drew1 | refine below_set ?_ GE544.out) | exact HB.out)⟩⟩
            · replace c15 := Bool.eq_false_iff.mpr c15
              subst c15
              have H1 : (if 0 ≤ (l0_1.length : Int) then (if ((l0_1.length : Int) : Int).toNat ≤ 35184372088832 then ((some (List.replicate ((l0_1.length : Int) : Int).toNat 0 : List Int)).bind fun y555 => (if 0 ≤ (rd x24_1 x26_1) then (if (rd x24_1 x26_1) < (l0_1.length : Int) then ((tree_walk.f k1 a0_0 l0_1 x7_1 ((rd_T37 l0_1 (rd x24_1 x26_1)).f1) ((rd_T37 l0_1 (rd x24_1 x26_1)).f0) y555).bind fun bt560 => (if (rd x24_1 x26_1) < (y555.length : Int) then (if x4_1.length < 5864062014805 then (tree_Cycles.l0 k1 (x4_1 ++ [(bt560.2.set ((rd x24_1 x26_1) : Int).toNat 1)]) t548 x7_1 x24_1 (t545.length : Int) (wrap64 (x26_1 + 1)) a0_0 l0_1) else (none)) else (none))) else (none)) else (none))) else (none)) else (none)) = some (r1, r2) := by rw [if_neg (show ¬ (false = true) by decide)] at H; exact H
              clear H
              have H := H1
              clear H1
              by_cases c17 : 0 ≤ (l0_1.length : Int)
              · rw [if_pos c17] at H
                have c17b0 := eq_true c17
                have c17b1 : decide (0 ≤ (l0_1.length : Int)) = true := decide_eq_true c17
                clear c17
                by_cases c18 : ((l0_1.length : Int) : Int).toNat ≤ 35184372088832
                · rw [if_pos c18] at H
                  have c18b0 := eq_true c18
                  have c18b1 : decide (((l0_1.length : Int) : Int).toNat ≤ 35184372088832) = true := decide_eq_true c18
                  clear c18
                  obtain ⟨y555, hy555⟩ : ∃ y_ : List Int, y_ = (List.replicate ((l0_1.length : Int) : Int).toNat 0) := ⟨_, rfl⟩
                  replace H : (if 0 ≤ (rd x24_1 x26_1) then (if (rd x24_1 x26_1) < (l0_1.length : Int) then ((tree_walk.f k1 a0_0 l0_1 x7_1 ((rd_T37 l0_1 (rd x24_1 x26_1)).f1) ((rd_T37 l0_1 (rd x24_1 x26_1)).f0) y555).bind fun bt560 => (if (rd x24_1 x26_1) < (y555.length : Int) then (if x4_1.length < 5864062014805 then (tree_Cycles.l0 k1 (x4_1 ++ [(bt560.2.set ((rd x24_1 x26_1) : Int).toNat 1)]) t548 x7_1 x24_1 (t545.length : Int) (wrap64 (x26_1 + 1)) a0_0 l0_1) else (none)) else (none))) else (none)) else (none)) = some (r1, r2) := by first | (rw [hy555]; with_reducible exact H) | (have H2_ := (Option.bind_some _ _).symm.trans H; rw [hy555]; with_reducible exact H2_) | (have H2_ := (Option.bind_some _ _).symm.trans H; with_reducible exact H2_) | with_reducible exact H | (rw [hy555]; exact H) | exact H
                  have Ny555 := Aside0.mk hy555
                  clear hy555
                  by_cases c19 : 0 ≤ (rd x24_1 x26_1)
                  · rw [if_pos c19] at H
                    have c19b0 : decide (0 ≤ (rd x24_1 x26_1)) = true := decide_eq_true c19
                    clear c19
                    by_cases c20 : (rd x24_1 x26_1) < (l0_1.length : Int)
                    · rw [if_pos c20] at H
                      have c20b0 : decide ((rd x24_1 x26_1) < (l0_1.length : Int)) = true := decide_eq_true c20
                      clear c20
                      replace H := Option.bind_eq_some_iff.mp H
                      obtain ⟨⟨t560, t561⟩, A210, H⟩ := H
                      replace H : (if (rd x24_1 x26_1) < (y555.length : Int) then (if x4_1.length < 5864062014805 then (tree_Cycles.l0 k1 (x4_1 ++ [(t561.set ((rd x24_1 x26_1) : Int).toNat 1)]) t548 x7_1 x24_1 (t545.length : Int) (wrap64 (x26_1 + 1)) a0_0 l0_1) else (none)) else (none)) = some (r1, r2) := H
                      have A21 := Aside0.mk A210
                      clear A210
                      by_cases c22 : (rd x24_1 x26_1) < (y555.length : Int)
                      · rw [if_pos c22] at H
                        have c22b0 : decide ((rd x24_1 x26_1) < (y555.length : Int)) = true := decide_eq_true c22
                        clear c22
                        obtain ⟨y562, hy562⟩ : ∃ y_ : List Int, y_ = (t561.set ((rd x24_1 x26_1) : Int).toNat 1) := ⟨_, rfl⟩
                        replace H : (if x4_1.length < 5864062014805 then (tree_Cycles.l0 k1 (x4_1 ++ [y562]) t548 x7_1 x24_1 (t545.length : Int) (wrap64 (x26_1 + 1)) a0_0 l0_1) else (none)) = some (r1, r2) := by first | (rw [hy562]; with_reducible exact H) | (have H2_ := (Option.bind_some _ _).symm.trans H; rw [hy562]; with_reducible exact H2_) | (have H2_ := (Option.bind_some _ _).symm.trans H; with_reducible exact H2_) | with_reducible exact H | (rw [hy562]; exact H) | exact H
                        have Ny562 := Aside0.mk hy562
                        clear hy562
                        by_cases c24 : x4_1.length < 5864062014805
                        · rw [if_pos c24] at H
                          have LMc24 := Aside0.mk c24
                          clear c24
                          obtain ⟨y563, hy563⟩ : ∃ y_ : List (List Int), y_ = (x4_1 ++ [y562]) := ⟨_, rfl⟩
                          replace H : (tree_Cycles.l0 k1 y563 t548 x7_1 x24_1 (t545.length : Int) (wrap64 (x26_1 + 1)) a0_0 l0_1) = some (r1, r2) := by first | (rw [hy563]; with_reducible exact H) | (have H2_ := (Option.bind_some _ _).symm.trans H; rw [hy563]; with_reducible exact H2_) | (have H2_ := (Option.bind_some _ _).symm.trans H; with_reducible exact H2_) | with_reducible exact H | (rw [hy563]; exact H) | exact H
                          have Ny563 := Aside0.mk hy563
                          clear hy563
                          have H' := Aside0.mk H
                          clear H
                          have p553 : 0 ≤ (x26_1 : Int) := of_decide_eq_true (by first | (with_reducible assumption) | assumption)
                          have q553 : x26_1 < (x24_1.length : Int) := of_decide_eq_true (by first | (with_reducible assumption) | assumption)
                          obtain ⟨ad553, e553, hx553_0⟩ := Kd.at_int (Kd.R_reads' HO_24.out).2.2 x26_1 p553 q553
                          cases e553
                          replace p553 := eq_true p553
                          replace q553 := eq_true q553
                          obtain ⟨Ao25, co25, eo25⟩ := Kd.R_slice HO_7.out
                          subst eo25
                          try go_wp2_with (first | ((with_reducible refine gate_callee (f := 102) rfl ?_); refine goesL_ (some 32) rfl rfl Try.func102 (by kernel_rfl) rfl #[.slice Ao25 x7_1.length co25, .int .i64 (rd x24_1 x26_1)] rfl (by (try simp only [List.map_toArray, List.map_cons, List.map_nil]); first | done | rfl | (simp only [List.length_drop, List.length_take]; rfl)) ?_; (with_reducible refine (slices_Contains_int_int.calls k1 _ _ x7_1 (rd x24_1 x26_1) false _ ?side1 ?side2 A14.out).mono ?_); (case side1 => repeat (first | exact (Kd.R_reads' HO_7.out).2.2 | (with_reducible refine Kd.C_alloc ?_ _) | (with_reducible refine Kd.C_drewN ?_ _) | (with_reducible refine Kd.C_drew ?_))); (case side2 => exact (Kd.R_reads' HO_7.out).2.1); rintro e w' ⟨rfl, ⟨nd, rfl⟩⟩; refine ⟨_, rfl, ?_⟩; (try ((first | (generalize hq_ : World.drewN wr _ = wr) | (rw [drewN_self wr]; generalize hq_ : World.drewN wr _ = wr)); have n0_ : Aside0 (Kd.R (Kd.int .i64) 3 wr w.heap.size (fun k_ => some k_ ≠ (.slice Ao25 x7_1.length co25 : Value).ownBlock) (.slice (some ad553) x24_1.length co10) x24_1) := ⟨by rw [← hq_]; exact (by (with_reducible repeat (first | apply Kd.R_alloc | apply Kd.R_drewN | apply Kd.R_drew)); exact HO_24.out)⟩; have n1_ : Aside0 (Kd.S (Kd.slice 3 (Kd.int .i64)) 25 wr w.heap.size (fun k_ => some k_ ≠ (.slice (some ad553) x24_1.length co10 : Value).ownBlock ∧ some k_ ≠ (.slice Ao25 x7_1.length co25 : Value).ownBlock) u4 x4_1) := ⟨by rw [← hq_]; exact (by (with_reducible repeat (first | apply Kd.S_alloc | apply Kd.S_drewN | apply Kd.S_drew)); exact Kd.S_mono HO_4.out (fun _ hk => ⟨hk.2, hk.1⟩))⟩; have n2_ : Aside0 (Kd.R (Kd.int .i64) 3 wr w.heap.size (fun k_ => some k_ ≠ (.slice (some ad553) x24_1.length co10 : Value).ownBlock) (.slice Ao25 x7_1.length co25) x7_1) := ⟨by rw [← hq_]; exact (by (with_reducible repeat (first | apply Kd.R_alloc | apply Kd.R_drewN | apply Kd.R_drew)); exact HO_7.out)⟩; have n3_ : Aside0 (wr.heap[gb544]? = some (.cells #[.int .i64 a0_0, .slice A0_1 l0_1.length c0_1] 24 (0, 0))) := ⟨by rw [← hq_]; exact (by (with_reducible repeat (first | refine blk_drewN ?_ _ | refine blk_drew ?_ | refine blk_alloc ?_ _)); exact BK544.out)⟩; have n4_ : Aside0 (Below w.heap.size w wr) := ⟨by rw [← hq_]; exact (by repeat (first | (with_reducible first | exact HB.out | apply below_alloc | apply pw_below_drewN | apply below_drew1 | refine below_set ?_ GE544.out) | exact HB.out))⟩; clear HO_24 HO_4 HO_7 BK544 HB hq_; have HO_24 := n0_; have HO_4 := n1_; have HO_7 := n2_; have BK544 := n3_; have HB := n4_; clear n0_ n1_ n2_ n3_ n4_)); have hcz26_0 : wr.cell? ⟨gb544, 0, none⟩ = some (.int .i64 a0_0) := (blk_cell BK544.out 0).trans rfl; have hcz26_1 : wr.cell? ⟨gb544, 1, none⟩ = some (.slice A0_1 l0_1.length c0_1) := (blk_cell BK544.out 1).trans rfl; have hfz26_0 := blk_frozen BK544.out 0; have hfz26_1 := blk_frozen BK544.out 1) | ((with_reducible refine gate_dst (N := 36) rfl ?_); refine Kd.R_make (Kd.int .i64) _ 3 rfl (N := 36) rfl 25 _ _ rfl (l0_1.length : Int) rfl rfl Try.underlying25 (.int .i64 0) 8 info3 rfl (by decide) (by omega) 0 (ok := fun _ => True) (okp := fun _ => True) rfl (fun _ hk => hk) trivial (of_decide_eq_true (by first | (with_reducible assumption) | assumption)) (Nat.le_trans (Nat.mul_le_mul_right _ (of_decide_eq_true (by first | (with_reducible assumption) | assumption) : (l0_1.length : Int).toNat ≤ 35184372088832)) (by omega)) (Below.refl _ _) (Nat.le_refl _) ?_; intro v556 w27 ho28 hb hg_ hnew_; clear hg_ hnew_; (first | rw [← Ny555.out] at ho28 | (simp only [Int.reduceToNat] at ho28; rw [← Ny555.out] at ho28)); have n0_ := Aside0.mk (Kd.S_elder' (by (with_reducible repeat (first | apply Kd.S_alloc | apply Kd.S_drewN | apply Kd.S_drew)); exact HO_4.out) (Kd.R_base ho28) hb); have n1_ := Aside0.mk (Kd.R_elder' (by (with_reducible repeat (first | apply Kd.R_alloc | apply Kd.R_drewN | apply Kd.R_drew)); exact HO_7.out) (Kd.R_base ho28) hb); have n2_ := Aside0.mk (Kd.R_elder' (by (with_reducible repeat (first | apply Kd.R_alloc | apply Kd.R_drewN | apply Kd.R_drew)); exact HO_24.out) (Kd.R_base ho28) hb); have n3_ := Aside0.mk (Kd.R_lower (Kd.R_new' (Kd.R_new' ho28 (Kd.R_lt (by (with_reducible repeat (first | apply Kd.R_alloc | apply Kd.R_drewN | apply Kd.R_drew)); exact HO_7.out))) (Kd.R_lt (by (with_reducible repeat (first | apply Kd.R_alloc | apply Kd.R_drewN | apply Kd.R_drew)); exact HO_24.out))) (below_size (by repeat (first | (with_reducible first | exact HB.out | apply below_alloc | apply pw_below_drewN | apply below_drew1 | refine below_set ?_ GE544.out) | exact HB.out)))); have n4_ := Aside0.mk (blk_below (g := gb544) (o := .cells #[.int .i64 a0_0, .slice A0_1 l0_1.length c0_1] 24 (0, 0)) (by (with_reducible repeat (first | refine blk_drewN ?_ _ | refine blk_drew ?_ | refine blk_alloc ?_ _)); exact BK544.out) hb); have n5_ := Aside0.mk (below_step (by repeat (first | (with_reducible first | exact HB.out | apply below_alloc | apply pw_below_drewN | apply below_drew1 | refine below_set ?_ GE544.out) | exact HB.out)) hb); clear HO_4; clear HO_7; clear HO_24; clear BK544; clear HB; have HO_4 := n0_; have HO_7 := n1_; have HO_24 := n2_; have HO557 := n3_; have BK544 := n4_; have HB := n5_; clear n0_ n1_ n2_ n3_ n4_ n5_; clear hb ho28))
                          have n0_ := Aside0.mk (Kd.S_drew HO_4.out)
                          have n1_ := Aside0.mk (Kd.R_drew HO_7.out)
                          have n2_ := Aside0.mk (Kd.R_drew HO_24.out)
                          have n3_ := Aside0.mk (Kd.R_drew HO557.out)
                          have n4_ := Aside0.mk (blk_drew BK544.out)
                          have n5_ := Aside0.mk (below_drew1 HB.out)
                          clear HO_4
                          clear HO_7
                          clear HO_24
                          clear HO557
                          clear BK544
                          clear HB
                          have HO_4 := n0_
                          have HO_7 := n1_
                          have HO_24 := n2_
                          have HO557 := n3_
                          have BK544 := n4_
                          have HB := n5_
                          clear n0_ n1_ n2_ n3_ n4_ n5_
                          have p558 : 0 ≤ ((rd x24_1 x26_1) : Int) := of_decide_eq_true (by first | (with_reducible assumption) | assumption)
                          have q558 : (rd x24_1 x26_1) < (l0_1.length : Int) := of_decide_eq_true (by first | (with_reducible assumption) | assumption)
                          obtain ⟨ad558, e558, hx558_0, hx558_1, hx558_2, hx558_3⟩ := at_T37 HR0_1.out (rd x24_1 x26_1) p558 q558
                          have hw558_3 := hx558_3
                          have hw558_2 := hx558_2
                          have hw558_1 := hx558_1
                          have hw558_0 := hx558_0
                          cases e558
                          replace hx558_0 := (HB.out.cell (World.block_lt_of_cell? w _ hx558_0)).trans hx558_0
                          replace hx558_1 := (HB.out.cell (World.block_lt_of_cell? w _ hx558_1)).trans hx558_1
                          replace hx558_2 := (HB.out.cell (World.block_lt_of_cell? w _ hx558_2)).trans hx558_2
                          replace hx558_3 := (HB.out.cell (World.block_lt_of_cell? w _ hx558_3)).trans hx558_3
                          replace p558 := eq_true p558
                          replace q558 := eq_true q558
                          have p559 : 0 ≤ ((rd x24_1 x26_1) : Int) := of_decide_eq_true (by first | (with_reducible assumption) | assumption)
                          have q559 : (rd x24_1 x26_1) < (l0_1.length : Int) := of_decide_eq_true (by first | (with_reducible assumption) | assumption)
                          obtain ⟨ad559, e559, hx559_0, hx559_1, hx559_2, hx559_3⟩ := at_T37 HR0_1.out (rd x24_1 x26_1) p559 q559
                          have hw559_3 := hx559_3
                          have hw559_2 := hx559_2
                          have hw559_1 := hx559_1
                          have hw559_0 := hx559_0
                          obtain rfl : ad558 = ad559 := (by injection e559)
                          replace hx559_0 := (HB.out.cell (World.block_lt_of_cell? w _ hx559_0)).trans hx559_0
                          replace hx559_1 := (HB.out.cell (World.block_lt_of_cell? w _ hx559_1)).trans hx559_1
                          replace hx559_2 := (HB.out.cell (World.block_lt_of_cell? w _ hx559_2)).trans hx559_2
                          replace hx559_3 := (HB.out.cell (World.block_lt_of_cell? w _ hx559_3)).trans hx559_3
                          replace p559 := eq_true p559
                          replace q559 := eq_true q559
                          obtain ⟨Ao30, co30, eo30⟩ := Kd.R_slice HO557.out
                          (first | subst eo30 | (injection eo30 with f1_ f2_ f3_; have f4_ := f1_.symm; have f5_ := f3_.symm; clear f1_ f2_ f3_; subst f4_; subst f5_))
                          refine start_ (n := 16) (S := fun w' => w'.cell? ⟨gb544, 0, none⟩ = some (.int .i64 a0_0) ∧ w'.cell? ⟨gb544, 1, none⟩ = some (.slice (some ad558) l0_1.length c0_1) ∧ w'.cell? (ad558.add (((rd x24_1 x26_1)).toNat * 4)) = some (.int .i64 ((rd_T37 l0_1 (rd x24_1 x26_1)).f0)) ∧ w'.cell? ⟨(ad558.add (((rd x24_1 x26_1)).toNat * 4)).block, (ad558.add (((rd x24_1 x26_1)).toNat * 4)).off + 1, none⟩ = some (.int .i64 ((rd_T37 l0_1 (rd x24_1 x26_1)).f1)) ∧ w'.cell? ⟨(ad558.add (((rd x24_1 x26_1)).toNat * 4)).block, (ad558.add (((rd x24_1 x26_1)).toNat * 4)).off + 2, none⟩ = some (.int .i64 ((rd_T37 l0_1 (rd x24_1 x26_1)).f2)) ∧ w'.cell? ⟨(ad558.add (((rd x24_1 x26_1)).toNat * 4)).block, (ad558.add (((rd x24_1 x26_1)).toNat * 4)).off + 3, none⟩ = some (.int .i64 ((rd_T37 l0_1 (rd x24_1 x26_1)).f3)) ∧ w'.cell? (ad558.add (((rd x24_1 x26_1)).toNat * 4)) = some (.int .i64 ((rd_T37 l0_1 (rd x24_1 x26_1)).f0)) ∧ w'.cell? ⟨(ad558.add (((rd x24_1 x26_1)).toNat * 4)).block, (ad558.add (((rd x24_1 x26_1)).toNat * 4)).off + 1, none⟩ = some (.int .i64 ((rd_T37 l0_1 (rd x24_1 x26_1)).f1)) ∧ w'.cell? ⟨(ad558.add (((rd x24_1 x26_1)).toNat * 4)).block, (ad558.add (((rd x24_1 x26_1)).toNat * 4)).off + 2, none⟩ = some (.int .i64 ((rd_T37 l0_1 (rd x24_1 x26_1)).f2)) ∧ w'.cell? ⟨(ad558.add (((rd x24_1 x26_1)).toNat * 4)).block, (ad558.add (((rd x24_1 x26_1)).toNat * 4)).off + 3, none⟩ = some (.int .i64 ((rd_T37 l0_1 (rd x24_1 x26_1)).f3))) (ds := []) #[false, false, false, false, false, false, false, false, false, false, false, false, false, false, false, false] (by kernel_rfl) rfl rfl ⟨(blk_cell BK544.out 0).trans rfl, (blk_cell BK544.out 1).trans rfl, ((HB.out.cell (World.block_lt_of_cell? w _ hw558_0)).trans hw558_0), ((HB.out.cell (World.block_lt_of_cell? w _ hw558_1)).trans hw558_1), ((HB.out.cell (World.block_lt_of_cell? w _ hw558_2)).trans hw558_2), ((HB.out.cell (World.block_lt_of_cell? w _ hw558_3)).trans hw558_3), ((HB.out.cell (World.block_lt_of_cell? w _ hw559_0)).trans hw559_0), ((HB.out.cell (World.block_lt_of_cell? w _ hw559_1)).trans hw559_1), ((HB.out.cell (World.block_lt_of_cell? w _ hw559_2)).trans hw559_2), ((HB.out.cell (World.block_lt_of_cell? w _ hw559_3)).trans hw559_3)⟩ (fun hHeld => ?_); refine with_tabW tree_Cycles.tab8 tree_Cycles.bits8 (fun HT_ HW_ => ?_)
                          generalize w27.drew = w29 at HO_4 HO_7 HO_24 HO557 BK544 HB hx558_0 hx558_1 hx558_2 hx558_3 hx559_0 hx559_1 hx559_2 hx559_3 hHeld ⊢
                          refine pure_ (i := 1) (N := some 38) (v := ?_) (a' := ?_) #[false, true, false, false, false, false, false, false, false, false, false, false, false, false, false, false] rfl rfl (any_of HT_.out (by kernel_rfl)) (fun _ _ _ h => h) (Or.inl ⟨by rfl, ?_⟩) ?_ ?_
                          rotate_left
                          · intro w'
                            go_simp
                            with_reducible rfl
                          rotate_left
                          · simp only [Act.put, List.setIfInBounds_toArray, List.set_cons_zero, List.set_cons_succ, i64_w, i32_w]
                            rfl
                          refine pure_ (i := 2) (N := some 39) (v := ?_) (a' := ?_) #[false, true, true, false, false, false, false, false, false, false, false, false, false, false, false, false] rfl rfl (any_of HT_.out (by kernel_rfl)) (fun _ _ _ h => h) (Or.inl ⟨by rfl, ?_⟩) ?_ ?_
                          rotate_left
                          · intro w'
                            go_simp
                            with_reducible rfl
                          rotate_left
                          · simp only [Act.put, List.setIfInBounds_toArray, List.set_cons_zero, List.set_cons_succ, i64_w, i32_w]
                            rfl
                          refine pure_ (i := 4) (N := some 41) (v := ?_) (a' := ?_) #[false, true, true, false, true, false, false, false, false, false, false, false, false, false, false, false] rfl rfl (any_of HT_.out (by kernel_rfl)) (fun _ _ _ h => h) (Or.inl ⟨by rfl, ?_⟩) ?_ ?_
                          rotate_left
                          · intro w'
                            go_simp
                            with_reducible rfl
                          rotate_left
                          · simp only [Act.put, List.setIfInBounds_toArray, List.set_cons_zero, List.set_cons_succ, i64_w, i32_w]
                            rfl
                          refine pure_ (i := 8) (N := some 45) (v := ?_) (a' := ?_) #[false, true, true, false, true, false, false, false, true, false, false, false, false, false, false, false] rfl rfl (any_of HT_.out (by kernel_rfl)) (fun _ _ _ h => h) (Or.inl ⟨by rfl, ?_⟩) ?_ ?_
                          rotate_left
                          · intro w'
                            go_simp
                            with_reducible rfl
                          rotate_left
                          · simp only [Act.put, List.setIfInBounds_toArray, List.set_cons_zero, List.set_cons_succ, i64_w, i32_w]
                            rfl
                          refine pure_ (i := 10) (N := some 47) (v := ?_) (a' := ?_) #[false, true, true, false, true, false, false, false, true, false, true, false, false, false, false, false] rfl rfl (any_of HT_.out (by kernel_rfl)) (fun _ _ _ h => h) (Or.inl ⟨by rfl, ?_⟩) ?_ ?_
                          rotate_left
                          · intro w'
                            go_simp
                            with_reducible rfl
                          rotate_left
                          · simp only [Act.put, List.setIfInBounds_toArray, List.set_cons_zero, List.set_cons_succ, i64_w, i32_w]
                            rfl
                          refine pure_ (i := 14) (N := some 51) (v := ?_) (a' := ?_) #[false, true, true, false, true, false, false, false, true, false, true, false, false, false, true, false] rfl rfl (any_of HT_.out (by kernel_rfl)) (fun _ _ _ h => h) (Or.inl ⟨by rfl, ?_⟩) ?_ ?_
                          rotate_left
                          · intro w'
                            go_simp
                            with_reducible rfl
                          rotate_left
                          · simp only [Act.put, List.setIfInBounds_toArray, List.set_cons_zero, List.set_cons_succ, i64_w, i32_w]
                            rfl
                          refine take_ (i := 0) (N := some 37) (v := ?_) (a' := ?_) #[true, true, true, false, true, false, false, false, true, false, true, false, false, false, true, false] rfl rfl (take_ofW HT_.out HW_.out (by kernel_rfl)) (fun _ _ _ h => h) (Or.inl ⟨by rfl, ?_⟩) hHeld ?_ ?_
                          rotate_left
                          · rintro w' ⟨s0, s1, s2, s3, s4, s5, s6, s7, s8, s9⟩
                            go_simp
                            with_reducible rfl
                          rotate_left
                          · simp only [Act.put, List.setIfInBounds_toArray, List.set_cons_zero, List.set_cons_succ, i64_w, i32_w]
                            rfl
                          refine take_ (i := 3) (N := some 40) (v := ?_) (a' := ?_) #[true, true, true, true, true, false, false, false, true, false, true, false, false, false, true, false] rfl rfl (take_ofW HT_.out HW_.out (by kernel_rfl)) (fun _ _ _ h => h) (Or.inl ⟨by rfl, ?_⟩) hHeld ?_ ?_
                          rotate_left
                          · rintro w' ⟨s0, s1, s2, s3, s4, s5, s6, s7, s8, s9⟩
                            go_simp
                            with_reducible rfl
                          rotate_left
                          · simp only [Act.put, List.setIfInBounds_toArray, List.set_cons_zero, List.set_cons_succ, i64_w, i32_w]
                            rfl
                          refine pure_ (i := 5) (N := some 42) (v := ?_) (a' := ?_) #[true, true, true, true, true, true, false, false, true, false, true, false, false, false, true, false] rfl rfl (any_of HT_.out (by kernel_rfl)) (fun _ _ _ h => h) (Or.inl ⟨by rfl, ?_⟩) ?_ ?_
                          rotate_left
                          · intro w'
                            go_simp
                            with_reducible rfl
                          rotate_left
                          · simp only [Act.put, List.setIfInBounds_toArray, List.set_cons_zero, List.set_cons_succ, i64_w, i32_w]
                            rfl
                          refine pure_ (i := 6) (N := some 43) (v := ?_) (a' := ?_) #[true, true, true, true, true, true, true, false, true, false, true, false, false, false, true, false] rfl rfl (any_of HT_.out (by kernel_rfl)) (fun _ _ _ h => h) (Or.inl ⟨by rfl, ?_⟩) ?_ ?_
                          rotate_left
                          · intro w'
                            go_simp
                            with_reducible rfl
                          rotate_left
                          · simp only [Act.put, List.setIfInBounds_toArray, List.set_cons_zero, List.set_cons_succ, i64_w, i32_w]
                            rfl
                          refine take_ (i := 7) (N := some 44) (v := ?_) (a' := ?_) #[true, true, true, true, true, true, true, true, true, false, true, false, false, false, true, false] rfl rfl (take_ofW HT_.out HW_.out (by kernel_rfl)) (fun _ _ _ h => h) (Or.inl ⟨by rfl, ?_⟩) hHeld ?_ ?_
                          rotate_left
                          · rintro w' ⟨s0, s1, s2, s3, s4, s5, s6, s7, s8, s9⟩
                            go_simp
                            with_reducible rfl
                          rotate_left
                          · simp only [Act.put, List.setIfInBounds_toArray, List.set_cons_zero, List.set_cons_succ, i64_w, i32_w]
                            rfl
                          refine take_ (i := 9) (N := some 46) (v := ?_) (a' := ?_) #[true, true, true, true, true, true, true, true, true, true, true, false, false, false, true, false] rfl rfl (take_ofW HT_.out HW_.out (by kernel_rfl)) (fun _ _ _ h => h) (Or.inl ⟨by rfl, ?_⟩) hHeld ?_ ?_
                          rotate_left
                          · rintro w' ⟨s0, s1, s2, s3, s4, s5, s6, s7, s8, s9⟩
                            go_simp
                            with_reducible rfl
                          rotate_left
                          · simp only [Act.put, List.setIfInBounds_toArray, List.set_cons_zero, List.set_cons_succ, i64_w, i32_w]
                            rfl
                          refine pure_ (i := 11) (N := some 48) (v := ?_) (a' := ?_) #[true, true, true, true, true, true, true, true, true, true, true, true, false, false, true, false] rfl rfl (any_of HT_.out (by kernel_rfl)) (fun _ _ _ h => h) (Or.inl ⟨by rfl, ?_⟩) ?_ ?_
                          rotate_left
                          · intro w'
                            go_simp
                            with_reducible rfl
                          rotate_left
                          · simp only [Act.put, List.setIfInBounds_toArray, List.set_cons_zero, List.set_cons_succ, i64_w, i32_w]
                            rfl
                          refine pure_ (i := 12) (N := some 49) (v := ?_) (a' := ?_) #[true, true, true, true, true, true, true, true, true, true, true, true, true, false, true, false] rfl rfl (any_of HT_.out (by kernel_rfl)) (fun _ _ _ h => h) (Or.inl ⟨by rfl, ?_⟩) ?_ ?_
                          rotate_left
                          · intro w'
                            go_simp
                            with_reducible rfl
                          rotate_left
                          · simp only [Act.put, List.setIfInBounds_toArray, List.set_cons_zero, List.set_cons_succ, i64_w, i32_w]
                            rfl
                          refine take_ (i := 13) (N := some 50) (v := ?_) (a' := ?_) #[true, true, true, true, true, true, true, true, true, true, true, true, true, true, true, false] rfl rfl (take_ofW HT_.out HW_.out (by kernel_rfl)) (fun _ _ _ h => h) (Or.inl ⟨by rfl, ?_⟩) hHeld ?_ ?_
                          rotate_left
                          · rintro w' ⟨s0, s1, s2, s3, s4, s5, s6, s7, s8, s9⟩
                            go_simp
                            with_reducible rfl
                          rotate_left
                          · simp only [Act.put, List.setIfInBounds_toArray, List.set_cons_zero, List.set_cons_succ, i64_w, i32_w]
                            rfl
                          refine one_ (i := 15) (N := some 52) #[true, true, true, true, true, true, true, true, true, true, true, true, true, true, true, true] rfl rfl (one_of HT_.out (by kernel_rfl)) (by decide) (fun K hK => ?_)
                          refine goes_ Try.func103 (by kernel_rfl) rfl #[.agg #[.int .i64 a0_0, .slice (some ad558) l0_1.length c0_1], .slice Ao25 x7_1.length co25, .int .i64 ((rd_T37 l0_1 (rd x24_1 x26_1)).f1), .int .i64 ((rd_T37 l0_1 (rd x24_1 x26_1)).f0), .slice Ao30 y555.length co30] (by rfl) rfl rfl (by (try simp only [List.map_toArray, List.map_cons, List.map_nil]); first | done | rfl | (simp only [List.length_drop, List.length_take]; rfl)) ?_
                          with_reducible refine (tree_walk.calls k1 a0_0 _ _ l0_1 _ _ x7_1 ((rd_T37 l0_1 (rd x24_1 x26_1)).f1) ((rd_T37 l0_1 (rd x24_1 x26_1)).f0) (fun k_ => some k_ = (.slice Ao30 y555.length co30 : Value).ownBlock) (.slice Ao30 y555.length co30) y555 t560 t561 w _ ?side1 ?side2 ?side3 ?side4 ?side5 ?side6 A21.out).mono ?_
                          (case side1 => repeat (first | (with_reducible first | exact HB.out | apply below_alloc | apply pw_below_drewN | apply below_drew1 | refine below_set ?_ GE544.out) | exact HB.out))
                          (case side2 => exact Kd.C_kept_came k37_heap HR0_1.out (by repeat (first | (with_reducible first | exact HB.out | apply below_alloc | apply pw_below_drewN | apply below_drew1 | refine below_set ?_ GE544.out) | exact HB.out)) (fun k_ hs_ => (fun e_ => Kd.R_base HO557.out k_ e_.symm) hs_))
                          (case side3 => exact HC0_1.out)
                          (case side4 => exact Kd.C_kept_own (HO_7.out) (fun k_ hk_ hs_ => (hk_.2) hs_))
                          (case side5 => exact (Kd.R_reads' HO_7.out).2.1)
                          (case side6 => exact Kd.R_tight rfl HO557.out)
                          rintro e w31 ⟨rfl, hy0, hb, hkp⟩
                          refine ⟨_, rfl, ?_⟩
                          have n0_ := Aside0.mk (Kd.S_mono (ok' := fun k_ => some k_ ≠ (.slice Ao25 x7_1.length co25 : Value).ownBlock ∧ some k_ ≠ (.slice (some ad553) x24_1.length co10 : Value).ownBlock ∧ some k_ ≠ (.slice Ao30 y555.length co30 : Value).ownBlock) (Kd.S_keptB (HO_4.out) hkp (fun k_ hk_ hs_ => (hk_.2) hs_)) (fun k_ hk_ => by refine ⟨?_, ?_, ?_⟩ <;> first | exact hk_.1.1.1 | exact hk_.1.1.2 | exact hk_.1.2))
                          have n1_ := Aside0.mk (Kd.R_mono (ok' := fun k_ => some k_ ≠ (.slice (some ad553) x24_1.length co10 : Value).ownBlock ∧ some k_ ≠ (.slice Ao30 y555.length co30 : Value).ownBlock) (Kd.R_keptB (HO_7.out) hkp (fun k_ hk_ hs_ => (hk_.2) hs_)) (fun k_ hk_ => by refine ⟨?_, ?_⟩ <;> first | exact hk_.1.1 | exact hk_.1.2))
                          have n2_ := Aside0.mk (Kd.R_mono (ok' := fun k_ => some k_ ≠ (.slice Ao25 x7_1.length co25 : Value).ownBlock ∧ some k_ ≠ (.slice Ao30 y555.length co30 : Value).ownBlock) (Kd.R_keptB (HO_24.out) hkp (fun k_ hk_ hs_ => (hk_.2) hs_)) (fun k_ hk_ => by refine ⟨?_, ?_⟩ <;> first | exact hk_.1.1 | exact hk_.1.2))
                          have n3_ := Aside0.mk (blk_kept (by (with_reducible repeat (first | refine blk_drewN ?_ _ | refine blk_drew ?_ | refine blk_alloc ?_ _)); exact BK544.out) hkp (fun hs_ => (fun e_ => (Kd.R_ne HO557.out BK544.out (by decide)) e_) hs_))
                          have n4_ := Aside0.mk (Kd.R_reok rfl hy0 (fun k_ e_ => HO557.out.1 k_ e_))
                          have n5_ := Aside0.mk (hb)
                          clear HO_4
                          clear HO_7
                          clear HO_24
                          clear BK544
                          clear HO557
                          clear HB
                          have HO_4 := n0_
                          have HO_7 := n1_
                          have HO_24 := n2_
                          have BK544 := n3_
                          have HO557 := n4_
                          have HB := n5_
                          clear n0_ n1_ n2_ n3_ n4_ n5_
                          (try clear hb)
                          (try clear hkp)
                          (try clear hy0)
                          refine hK.out _ _ ⟨(blk_cell BK544.out 0).trans rfl, (blk_cell BK544.out 1).trans rfl, ((HB.out.cell (World.block_lt_of_cell? w _ hw558_0)).trans hw558_0), ((HB.out.cell (World.block_lt_of_cell? w _ hw558_1)).trans hw558_1), ((HB.out.cell (World.block_lt_of_cell? w _ hw558_2)).trans hw558_2), ((HB.out.cell (World.block_lt_of_cell? w _ hw558_3)).trans hw558_3), ((HB.out.cell (World.block_lt_of_cell? w _ hw559_0)).trans hw559_0), ((HB.out.cell (World.block_lt_of_cell? w _ hw559_1)).trans hw559_1), ((HB.out.cell (World.block_lt_of_cell? w _ hw559_2)).trans hw559_2), ((HB.out.cell (World.block_lt_of_cell? w _ hw559_3)).trans hw559_3)⟩ (fun hHeld => ?_)
                          clear hK K
                          refine norm_ (a' := ?_) ?_ ?_
                          rotate_left
                          · show Act.put _ (some 52) _ = _
                            simp only [Act.put, List.setIfInBounds_toArray, List.set_cons_zero, List.set_cons_succ, i64_w, i32_w]
                            rfl
                          refine done_ (done_of HT_.out (by kernel_rfl)) ?_
                          have p23 : 0 ≤ ((rd x24_1 x26_1) : Int) := of_decide_eq_true (by first | (with_reducible assumption) | assumption)
                          have q23 : ((rd x24_1 x26_1) : Int) < ((y555.length : Int) : Int) := of_decide_eq_true (by first | (with_reducible assumption) | assumption)
                          obtain ⟨go23, co23, eo23, gb23, gl23, cl23, HG23⟩ := Kd.R_form HO557.out (by have h0_ : 0 ≤ rd x24_1 x26_1 := of_decide_eq_true (by first | (with_reducible assumption) | assumption); have h1_ := (Kd.R_reads' HO557.out).1; omega)
                          (first | cases eo23 | (injection eo23 with ea_ en_ ec_; (first | subst ea_ | (injection ea_ with ea_; subst ea_)); subst ec_; clear en_))
                          have GB23 := Aside0.mk gb23
                          have GG23 := Aside0.mk HG23
                          clear gb23 gl23 HG23
                          obtain ⟨hx23_0, hf23_0⟩ := Kd.R_celln 0 HO557.out ((rd x24_1 x26_1) : Int) p23 q23
                          replace p23 := eq_true p23
                          replace q23 := eq_true q23
                          have n_ := Aside0.mk (Kd.R_mono (ok' := (fun k_ => some k_ ≠ (.slice Ao25 x7_1.length co25 : Value).ownBlock ∧ some k_ ≠ (.slice (some ad553) x24_1.length co10 : Value).ownBlock)) HO557.out (fun k_ hk => ⟨hk.1.2, hk.2⟩))
                          clear HO557
                          have HO557 := n_
                          clear n_
                          obtain ⟨hy32_, hz32_⟩ := Kd.R_celln 0 HO557.out ((rd x24_1 x26_1) : Int) (of_decide_eq_true (by first | (with_reducible assumption) | assumption)) (of_decide_eq_true (by first | (with_reducible assumption) | assumption))
                          have HP32 := Kd.R_putg HO557.out ((rd x24_1 x26_1) : Int) 1
                          try go_wp2_with (first | ((with_reducible refine gate_store (t := 3) (p := 55) rfl ?_); refine store_event (t := 3) (p := 55) (v := ?vo_w33) (w1 := (w31.setCell ⟨go23, ((rd x24_1 x26_1) : Int).toNat, none⟩ (.int .i64 1))) ?hg ?ho ?hn ?hr ?_; (case ho => rfl); (case hg => rfl); (case hn => rfl); (case hr => first | (go_simp; done) | (go_simp; rfl)); intro w33 hw; have hg : w31.grownBy w33 (some go23) := (by rw [hw]; exact HP32.2); have hp_ : Kd.R (Kd.int .i64) 3 w33 w.heap.size (fun k_ => some k_ ≠ (.slice Ao25 x7_1.length co25 : Value).ownBlock ∧ some k_ ≠ (.slice (some ad553) x24_1.length co10 : Value).ownBlock) (.slice (some ⟨go23, 0, none⟩) y555.length co30) y562 := (by rw [hw, Ny562.out]; exact HP32.1); clear HP32; have n0_ := Aside0.mk (Kd.S_after (v := (.slice (some ⟨go23, 0, none⟩) y555.length co30)) (v1 := (.slice (some ⟨go23, 0, none⟩) y555.length co30)) (ok := (fun k_ => some k_ ≠ (.slice Ao25 x7_1.length co25 : Value).ownBlock ∧ some k_ ≠ (.slice (some ad553) x24_1.length co10 : Value).ownBlock)) (by (with_reducible repeat (first | apply Kd.S_alloc | apply Kd.S_drewN | apply Kd.S_drew)); exact Kd.S_mono HO_4.out (fun _ hk => ⟨⟨hk.1, hk.2.1⟩, hk.2.2⟩)) hg (.inl rfl)); have n1_ := Aside0.mk (Kd.R_after (v := (.slice (some ⟨go23, 0, none⟩) y555.length co30)) (v1 := (.slice (some ⟨go23, 0, none⟩) y555.length co30)) (ok := (fun k_ => some k_ ≠ (.slice (some ad553) x24_1.length co10 : Value).ownBlock)) (by (with_reducible repeat (first | apply Kd.R_alloc | apply Kd.R_drewN | apply Kd.R_drew)); exact HO_7.out) hg (.inl rfl)); have n2_ := Aside0.mk (Kd.R_after (v := (.slice (some ⟨go23, 0, none⟩) y555.length co30)) (v1 := (.slice (some ⟨go23, 0, none⟩) y555.length co30)) (ok := (fun k_ => some k_ ≠ (.slice Ao25 x7_1.length co25 : Value).ownBlock)) (by (with_reducible repeat (first | apply Kd.R_alloc | apply Kd.R_drewN | apply Kd.R_drew)); exact HO_24.out) hg (.inl rfl)); have n3_ := Aside0.mk (blk_grown (g := gb544) (o := .cells #[.int .i64 a0_0, .slice (some ad558) l0_1.length c0_1] 24 (0, 0)) (by (with_reducible repeat (first | refine blk_drewN ?_ _ | refine blk_drew ?_ | refine blk_alloc ?_ _)); exact BK544.out) hg (Kd.R_ne HO557.out BK544.out (by decide))); have n4_ := Aside0.mk (hp_); have n5_ := Aside0.mk ((by rw [hw]; exact below_set (HB.out) GB23.out : Below w.heap.size w w33)); clear HO_4; clear HO_7; clear HO_24; clear BK544; clear HO557; clear HB; have HO_4 := n0_; have HO_7 := n1_; have HO_24 := n2_; have BK544 := n3_; have HO557 := n4_; have HB := n5_; clear n0_ n1_ n2_ n3_ n4_ n5_; clear hg hw hp_) | ((with_reducible refine gate_builtin (b := .append) (xs := #[.tmp 56, .tmp 58]) rfl ?_); at_builtin; refine Kd.S_append (Kd.slice 3 (Kd.int .i64)) (w0 := w) w.heap.size rfl (.tmp 56) (.tmp 58) 46 25 (.slice none 0 0) 24 rfl Try.underlying46 info25 rfl (by decide) (by omega) u4 x4_1 y562 [.slice (some ⟨go23, 0, none⟩) y555.length co30] (fun k_ => some k_ ≠ (.slice Ao25 x7_1.length co25 : Value).ownBlock ∧ some k_ ≠ (.slice (some ad553) x24_1.length co10 : Value).ownBlock) (fun k_ => some k_ = (.slice (some ⟨go23, 0, none⟩) y555.length co30 : Value).ownBlock) rfl rfl ?aP (fun k_ hk_ => ((Kd.R_mono (ok' := fun k_ => ((fun k_ => some k_ ≠ (.slice Ao25 x7_1.length co25 : Value).ownBlock ∧ some k_ ≠ (.slice (some ad553) x24_1.length co10 : Value).ownBlock)) k_ ∧ some k_ ≠ (u4 : Value).ownBlock) (Kd.R_apart' (HO557.out) (Kd.S_typed HO_4.out) (by decide)) (fun k_ hk => ⟨⟨hk.1.1, hk.1.2⟩, hk.2⟩))).1 k_ hk_.symm) ?aF ?aO ?aB ?aS ?aL ?_; (case aP => exact Kd.M_row (Kd.R_mono (Kd.R_tight rfl (Kd.R_mono (ok' := fun k_ => ((fun k_ => some k_ ≠ (.slice Ao25 x7_1.length co25 : Value).ownBlock ∧ some k_ ≠ (.slice (some ad553) x24_1.length co10 : Value).ownBlock)) k_ ∧ some k_ ≠ (u4 : Value).ownBlock) (Kd.R_apart' (HO557.out) (Kd.S_typed HO_4.out) (by decide)) (fun k_ hk => ⟨⟨hk.1.1, hk.1.2⟩, hk.2⟩))) (fun _ h_ => h_))); (case aB => exact (by repeat (first | (with_reducible first | exact HB.out | apply below_alloc | apply pw_below_drewN | apply below_drew1 | refine below_set ?_ GE544.out) | exact HB.out))); (case aF => exact (fun k_ hk => ⟨Kd.fresh' (Kd.R_lt (by (with_reducible repeat (first | apply Kd.R_alloc | apply Kd.R_drewN | apply Kd.R_drew)); exact HO_7.out)) k_ hk, Kd.fresh' (Kd.R_lt (by (with_reducible repeat (first | apply Kd.R_alloc | apply Kd.R_drewN | apply Kd.R_drew)); exact HO_24.out)) k_ hk⟩)); (case aO => exact (by (with_reducible repeat (first | apply Kd.S_alloc | apply Kd.S_drewN | apply Kd.S_drew)); exact Kd.S_mono HO_4.out (fun k_ hk => ⟨⟨hk.1.1, hk.1.2⟩, fun e_ => hk.2 e_⟩))); (case aS => exact (below_size (by repeat (first | (with_reducible first | exact HB.out | apply below_alloc | apply pw_below_drewN | apply below_drew1 | refine below_set ?_ GE544.out) | exact HB.out)))); (case aL => have := LMc24.out; omega); intro v564 w34 ho hb hg hat; rw [← Ny563.out] at ho; have n0_ := Aside0.mk (Kd.R_over' (by (with_reducible repeat (first | apply Kd.R_alloc | apply Kd.R_drewN | apply Kd.R_drew)); exact HO_7.out) (Kd.S_typed (by (with_reducible repeat (first | apply Kd.S_alloc | apply Kd.S_drewN | apply Kd.S_drew)); exact HO_4.out)) (by decide) hg); have n1_ := Aside0.mk (Kd.R_over' (by (with_reducible repeat (first | apply Kd.R_alloc | apply Kd.R_drewN | apply Kd.R_drew)); exact HO_24.out) (Kd.S_typed (by (with_reducible repeat (first | apply Kd.S_alloc | apply Kd.S_drewN | apply Kd.S_drew)); exact HO_4.out)) (by decide) hg); have n2_ := Aside0.mk (blk_grown (g := gb544) (o := .cells #[.int .i64 a0_0, .slice (some ad558) l0_1.length c0_1] 24 (0, 0)) (by (with_reducible repeat (first | refine blk_drewN ?_ _ | refine blk_drew ?_ | refine blk_alloc ?_ _)); exact BK544.out) hg (Kd.S_ne HO_4.out BK544.out (by decide))); have n3_ := Aside0.mk (hb); have n4_ := Aside0.mk (ho); clear HO_7; clear HO_24; clear BK544; clear HB; clear HO_4; clear HO557; have HO_7 := n0_; have HO_24 := n1_; have BK544 := n2_; have HB := n3_; have HO565 := n4_; clear n0_ n1_ n2_ n3_ n4_; clear ho hb hg hat))
                          (try simp only [← hl24_1])
                          go_roundg k1
                          case measure => have := HK1.out; omega
                          case rel => exact ⟨(y563), (x7_1), (x24_1), (wrap64 (x26_1 + 1)), (by first | rfl | (simp; done) | (simp [*]; done)), H', ⟨by have := HK1.out; omega⟩, ⟨by (try simp only [hl24_1]); (with_reducible repeat (first | apply Kd.S_alloc | apply Kd.S_drewN | apply Kd.S_drew)); exact HO565.out⟩, ⟨by (try simp only [hl24_1]); (with_reducible repeat (first | apply Kd.R_alloc | apply Kd.R_drewN | apply Kd.R_drew)); exact Kd.R_mono HO_7.out (fun _ hk => hk.1)⟩, ⟨by (try simp only [hl24_1]); (with_reducible repeat (first | apply Kd.R_alloc | apply Kd.R_drewN | apply Kd.R_drew)); exact Kd.R_mono HO_24.out (fun _ hk => hk.1)⟩, ⟨by (try simp only [hl24_1]); (with_reducible repeat (first | refine blk_drewN ?_ _ | refine blk_drew ?_ | refine blk_alloc ?_ _)); exact BK544.out⟩, ⟨by repeat (first | (with_reducible first | exact HB.out | apply below_alloc | apply pw_below_drewN | apply below_drew1 | refine below_set ?_ GE544.out) | exact HB.out)⟩⟩
                        · rw [if_neg c24] at H
                          exact absurd H (by simp)
                      · rw [if_neg c22] at H
                        exact absurd H (by simp)
                    · rw [if_neg c20] at H
                      exact absurd H (by simp)
                  · rw [if_neg c19] at H
                    exact absurd H (by simp)
                · rw [if_neg c18] at H
                  exact absurd H (by simp)
              · rw [if_neg c17] at H
                exact absurd H (by simp)
          · rw [if_neg c13] at H
            exact absurd H (by simp)
        · rw [if_neg c12] at H
          exact absurd H (by simp)
      · rw [if_neg c11] at H
        have c11b0 : decide (x26_1 < (t545.length : Int)) = false := decide_eq_false c11
        (first | rw [hl24_1] at c11b0 | rw [← hl24_1] at c11b0 | skip)
        clear c11
        simp only [Option.some.injEq, Prod.mk.injEq] at H
        obtain ⟨rfl, rfl⟩ := H
        go_wp2
        go_ret2
        exact ⟨_, by first | rfl | (simp [errW_none, errW_some] <;> rfl) | (simp [*, errW_none, errW_some] <;> rfl), by (with_reducible repeat (first | apply Kd.S_alloc | apply Kd.S_drewN | apply Kd.S_drew)); exact Kd.S_mono HO_4.out (fun _ hk => trivial), by repeat (first | (with_reducible first | exact HB.out | apply below_alloc | apply pw_below_drewN | apply below_drew1 | refine below_set ?_ GE544.out) | exact HB.out)⟩

end Go.Proofs.Ytdpgdelimffjpaa.P
