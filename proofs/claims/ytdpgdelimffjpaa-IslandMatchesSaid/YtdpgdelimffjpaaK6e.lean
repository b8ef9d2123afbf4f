/- Texts of this claim, merged: the words that print.sh and the prover's driver wrote, and hand-proved contracts and lemmas, less what this claim does not name. Lean checks them. -/
import Derived.Outline
import Derived.Lib.SmallJoins
import Derived.Deep.Slices
import Derived.Deep.Fields
import Derived.ChangeSame
import Derived.WalkKit
import Derived.ProofKit
import Derived.OpenShut
import Derived.ChangeOld
import Derived.Test.YtdpgdelimffjpaaRows
import Derived.KernelRfl
import Derived.JoinedOf
import Derived.Shelf.Sort.Plain
import Derived.Shelf.Slices.CompactI
import Derived.Shelf.Slices.In.SortNone
import Derived.Test.YtdpgdelimffjpaaProg
import Derived.Lib.SlicesCompact
import Derived.Sort.OwnSortedInts
import Derived.Lib.OwnBridge
import Derived.Lib.RowBridge
import Derived.Lib.Hide
import Derived.Test.YtdpgdelimffjpaaK6a
import Derived.Test.YtdpgdelimffjpaaK6b
import Derived.Test.YtdpgdelimffjpaaK6c
import Derived.Test.YtdpgdelimffjpaaK6d
namespace Go.Proofs.Ytdpgdelimffjpaa.P
open Go.RowKit Go.Proofs.YtdpgdelimffjpaaW.PrintWords Go.Proofs.YtdpgdelimffjpaaW.PrintLast Go.Proofs.YtdpgdelimffjpaaW.PrintMore
attribute [local go_sem] max2_int min2_int max_two min_two max_three min_three max_four min_four   -- for this text's walks alone
set_option linter.unusedVariables false
set_option linter.unusedSimpArgs false

attribute [local go_sem high] eqA37
/-! ### pylonref14_Same: function 45 -/
mutual
def pylonref14_Same.j0 : Nat → Bool → Int → List (S37) → Int → List (S37) → Option (Bool)
 | 0, _, _, _, _, _ => none
 | k + 1, x19, x325000, x325001, x326000, x326001 => if x19 = true then (some false) else (pylonref14_Same.l0 k 0 x325000 x325001 x326000 x326001)
def pylonref14_Same.l0 : Nat → Int → Int → List (S37) → Int → List (S37) → Option (Bool)
 | 0, _, _, _, _, _ => none
 | k + 1, x5, x325000, x325001, x326000, x326001 => if x5 < (x325001.length : Int) then (if 0 ≤ x5 then (if x5 < (x326001.length : Int) then (if (!(((rd_T37 x325001 x5).f0) == ((rd_T37 x326001 x5).f0)) || (!(((rd_T37 x325001 x5).f1) == ((rd_T37 x326001 x5).f1)) || (!(((rd_T37 x325001 x5).f2) == ((rd_T37 x326001 x5).f2)) || (!(((rd_T37 x325001 x5).f3) == ((rd_T37 x326001 x5).f3)))))) = true then (some false) else (pylonref14_Same.l0 k (wrap64 (x5 + 1)) x325000 x325001 x326000 x326001)) else (none)) else (none)) else (some true)
end
def pylonref14_Same.f (k : Nat) (a0_0 : Int) (l0_1 : List (S37)) (a1_0 : Int) (l1_1 : List (S37)) : Option (Bool) := if a0_0 = a1_0 then (pylonref14_Same.j0 k ((l0_1.length : Int) != (l1_1.length : Int)) a0_0 l0_1 a1_0 l1_1) else (pylonref14_Same.j0 k true a0_0 l0_1 a1_0 l1_1)
set_option maxHeartbeats 8000000 in
set_option maxRecDepth 100000 in
theorem pylonref14_Same.calls (k : Nat) (a0_0 : Int) (A0_1 : Option Addr) (c0_1 : Nat) (l0_1 : List (S37)) (a1_0 : Int) (A1_1 : Option Addr) (c1_1 : Nat) (l1_1 : List (S37)) (r : Bool) (w : World) (hr0_1 : Kd.C k37 w A0_1 l0_1.length l0_1) (hc0_1 : l0_1.length ≤ c0_1) (hr1_1 : Kd.C k37 w A1_1 l1_1.length l1_1) (hc1_1 : l1_1.length ≤ c1_1) (h : pylonref14_Same.f k a0_0 l0_1 a1_0 l1_1 = some r) :
  Calls Try.prog 45 #[.agg #[.int .i64 a0_0, .slice A0_1 l0_1.length c0_1], .agg #[.int .i64 a1_0, .slice A1_1 l1_1.length c1_1]] w fun e w' => e = .returned (.bool r) ∧ Below w.heap.size w w' := by
 have hu24 := Try.underlying24
 have hu37 := Try.underlying37
 have HR0_1 := Aside0.mk hr0_1
 have HC0_1 := Aside0.mk hc0_1
 clear hr0_1 hc0_1
 have HR1_1 := Aside0.mk hr1_1
 have HC1_1 := Aside0.mk hc1_1
 clear hr1_1 hc1_1
 have HB := Aside0.mk (Below.refl w.heap.size w)
 have H : (if a0_0 = a1_0 then (pylonref14_Same.j0 k ((l0_1.length : Int) != (l1_1.length : Int)) a0_0 l0_1 a1_0 l1_1) else (pylonref14_Same.j0 k true a0_0 l0_1 a1_0 l1_1)) = some r := h
 clear h
 have HC3 := Aside0.mk H
 clear H
 go_enter Try.func45, Try.ntmps45
 go_upto_region 1 with (first | ((with_reducible refine gate_dst (N := 2) rfl ?_); (try (refine gate_guard (by rfl) ?_; dsimp only)); refine box_event ?hg (N := 2) ?hd (cs := #[.int .i64 a0_0, .slice A0_1 l0_1.length c0_1]) (t := 24) ?hr ?_; (case hd => rfl); (case hg => rfl); (case hr => first | (go_simp; done) | (go_simp; rfl)); intro gb324 hg w4 hbox hb; have n0_ := Aside0.mk (below_step (by repeat (first | (with_reducible first | exact HB.out | apply below_alloc | apply pw_below_drewN | apply below_drew1) | exact HB.out)) hb); have n1_ := Aside0.mk (hbox); have n2_ := Aside0.mk ((by rw [hg]; exact (below_size (by repeat (first | (with_reducible first | exact HB.out | apply below_alloc | apply pw_below_drewN | apply below_drew1) | exact HB.out))) : w.heap.size ≤ gb324)); have n3_ := Aside0.mk ((by rw [hg]; exact (below_size (by repeat (first | (with_reducible first | exact HB.out | apply below_alloc | apply pw_below_drewN | apply below_drew1) | exact HB.out))) : w.heap.size ≤ gb324)); clear HB; have HB := n0_; have BK324 := n1_; have GW324 := n2_; have GE324 := n3_; clear n0_ n1_ n2_ n3_; clear hb hbox hg) | ((with_reducible refine gate_dst (N := 3) rfl ?_); (try (refine gate_guard (by rfl) ?_; dsimp only)); refine box_event ?hg (N := 3) ?hd (cs := #[.int .i64 a1_0, .slice A1_1 l1_1.length c1_1]) (t := 24) ?hr ?_; (case hd => rfl); (case hg => rfl); (case hr => first | (go_simp; done) | (go_simp; rfl)); intro gb325 hg w5 hbox hb; have n0_ := Aside0.mk (blk_below (g := gb324) (o := .cells #[.int .i64 a0_0, .slice A0_1 l0_1.length c0_1] 24 (0, 0)) (by (with_reducible repeat (first | refine blk_drewN ?_ _ | refine blk_drew ?_ | refine blk_alloc ?_ _)); exact BK324.out) hb); have n1_ := Aside0.mk (below_step (by repeat (first | (with_reducible first | exact HB.out | apply below_alloc | apply pw_below_drewN | apply below_drew1 | refine below_set ?_ GE324.out) | exact HB.out)) hb); have n2_ := Aside0.mk (hbox); have n3_ := Aside0.mk ((by rw [hg]; exact (below_size (by repeat (first | (with_reducible first | exact HB.out | apply below_alloc | apply pw_below_drewN | apply below_drew1 | refine below_set ?_ GE324.out) | exact HB.out))) : w.heap.size ≤ gb325)); have n4_ := Aside0.mk ((by rw [hg]; exact (below_size (by repeat (first | (with_reducible first | exact HB.out | apply below_alloc | apply pw_below_drewN | apply below_drew1 | refine below_set ?_ GE324.out) | exact HB.out))) : w.heap.size ≤ gb325)); have n5_ := Aside0.mk ((by rw [hg]; exact Nat.ne_of_lt (blk_lt (g := gb324) (o := .cells #[.int .i64 a0_0, .slice A0_1 l0_1.length c0_1] 24 (0, 0)) (by (with_reducible repeat (first | refine blk_drewN ?_ _ | refine blk_drew ?_ | refine blk_alloc ?_ _)); exact BK324.out)) : gb324 ≠ gb325)); have n6_ := Aside0.mk ((by rw [hg]; exact Nat.ne_of_gt (blk_lt (g := gb324) (o := .cells #[.int .i64 a0_0, .slice A0_1 l0_1.length c0_1] 24 (0, 0)) (by (with_reducible repeat (first | refine blk_drewN ?_ _ | refine blk_drew ?_ | refine blk_alloc ?_ _)); exact BK324.out)) : gb325 ≠ gb324)); clear BK324; clear HB; have BK324 := n0_; have HB := n1_; have BK325 := n2_; have GW325 := n3_; have GE325 := n4_; have NB324_325 := n5_; have NB325_324 := n6_; clear n0_ n1_ n2_ n3_ n4_ n5_ n6_; clear hb hbox hg))
 repeat (go_quiet (first | ((with_reducible refine gate_dst (N := 2) rfl ?_); (try (refine gate_guard (by rfl) ?_; dsimp only)); refine box_event ?hg (N := 2) ?hd (cs := #[.int .i64 a0_0, .slice A0_1 l0_1.length c0_1]) (t := 24) ?hr ?_; (case hd => rfl); (case hg => rfl); (case hr => first | (go_simp; done) | (go_simp; rfl)); intro gb324 hg w4 hbox hb; have n0_ := Aside0.mk (below_step (by repeat (first | (with_reducible first | exact HB.out | apply below_alloc | apply pw_below_drewN | apply below_drew1) | exact HB.out)) hb); have n1_ := Aside0.mk (hbox); have n2_ := Aside0.mk ((by rw [hg]; exact (below_size (by repeat (first | (with_reducible first | exact HB.out | apply below_alloc | apply pw_below_drewN | apply below_drew1) | exact HB.out))) : w.heap.size ≤ gb324)); have n3_ := Aside0.mk ((by rw [hg]; exact (below_size (by repeat (first | (with_reducible first | exact HB.out | apply below_alloc | apply pw_below_drewN | apply below_drew1) | exact HB.out))) : w.heap.size ≤ gb324)); clear HB; have HB := n0_; have BK324 := n1_; have GW324 := n2_; have GE324 := n3_; clear n0_ n1_ n2_ n3_; clear hb hbox hg) | ((with_reducible refine gate_dst (N := 3) rfl ?_); (try (refine gate_guard (by rfl) ?_; dsimp only)); refine box_event ?hg (N := 3) ?hd (cs := #[.int .i64 a1_0, .slice A1_1 l1_1.length c1_1]) (t := 24) ?hr ?_; (case hd => rfl); (case hg => rfl); (case hr => first | (go_simp; done) | (go_simp; rfl)); intro gb325 hg w5 hbox hb; have n0_ := Aside0.mk (blk_below (g := gb324) (o := .cells #[.int .i64 a0_0, .slice A0_1 l0_1.length c0_1] 24 (0, 0)) (by (with_reducible repeat (first | refine blk_drewN ?_ _ | refine blk_drew ?_ | refine blk_alloc ?_ _)); exact BK324.out) hb); have n1_ := Aside0.mk (below_step (by repeat (first | (with_reducible first | exact HB.out | apply below_alloc | apply pw_below_drewN | apply below_drew1 | refine below_set ?_ GE324.out) | exact HB.out)) hb); have n2_ := Aside0.mk (hbox); have n3_ := Aside0.mk ((by rw [hg]; exact (below_size (by repeat (first | (with_reducible first | exact HB.out | apply below_alloc | apply pw_below_drewN | apply below_drew1 | refine below_set ?_ GE324.out) | exact HB.out))) : w.heap.size ≤ gb325)); have n4_ := Aside0.mk ((by rw [hg]; exact (below_size (by repeat (first | (with_reducible first | exact HB.out | apply below_alloc | apply pw_below_drewN | apply below_drew1 | refine below_set ?_ GE324.out) | exact HB.out))) : w.heap.size ≤ gb325)); have n5_ := Aside0.mk ((by rw [hg]; exact Nat.ne_of_lt (blk_lt (g := gb324) (o := .cells #[.int .i64 a0_0, .slice A0_1 l0_1.length c0_1] 24 (0, 0)) (by (with_reducible repeat (first | refine blk_drewN ?_ _ | refine blk_drew ?_ | refine blk_alloc ?_ _)); exact BK324.out)) : gb324 ≠ gb325)); have n6_ := Aside0.mk ((by rw [hg]; exact Nat.ne_of_gt (blk_lt (g := gb324) (o := .cells #[.int .i64 a0_0, .slice A0_1 l0_1.length c0_1] 24 (0, 0)) (by (with_reducible repeat (first | refine blk_drewN ?_ _ | refine blk_drew ?_ | refine blk_alloc ?_ _)); exact BK324.out)) : gb325 ≠ gb324)); clear BK324; clear HB; have BK324 := n0_; have HB := n1_; have BK325 := n2_; have GW325 := n3_; have GE325 := n4_; have NB324_325 := n5_; have NB325_324 := n6_; clear n0_ n1_ n2_ n3_ n4_ n5_ n6_; clear hb hbox hg)); go_upto_region 1 with (first | ((with_reducible refine gate_dst (N := 2) rfl ?_); (try (refine gate_guard (by rfl) ?_; dsimp only)); refine box_event ?hg (N := 2) ?hd (cs := #[.int .i64 a0_0, .slice A0_1 l0_1.length c0_1]) (t := 24) ?hr ?_; (case hd => rfl); (case hg => rfl); (case hr => first | (go_simp; done) | (go_simp; rfl)); intro gb324 hg w4 hbox hb; have n0_ := Aside0.mk (below_step (by repeat (first | (with_reducible first | exact HB.out | apply below_alloc | apply pw_below_drewN | apply below_drew1) | exact HB.out)) hb); have n1_ := Aside0.mk (hbox); have n2_ := Aside0.mk ((by rw [hg]; exact (below_size (by repeat (first | (with_reducible first | exact HB.out | apply below_alloc | apply pw_below_drewN | apply below_drew1) | exact HB.out))) : w.heap.size ≤ gb324)); have n3_ := Aside0.mk ((by rw [hg]; exact (below_size (by repeat (first | (with_reducible first | exact HB.out | apply below_alloc | apply pw_below_drewN | apply below_drew1) | exact HB.out))) : w.heap.size ≤ gb324)); clear HB; have HB := n0_; have BK324 := n1_; have GW324 := n2_; have GE324 := n3_; clear n0_ n1_ n2_ n3_; clear hb hbox hg) | ((with_reducible refine gate_dst (N := 3) rfl ?_); (try (refine gate_guard (by rfl) ?_; dsimp only)); refine box_event ?hg (N := 3) ?hd (cs := #[.int .i64 a1_0, .slice A1_1 l1_1.length c1_1]) (t := 24) ?hr ?_; (case hd => rfl); (case hg => rfl); (case hr => first | (go_simp; done) | (go_simp; rfl)); intro gb325 hg w5 hbox hb; have n0_ := Aside0.mk (blk_below (g := gb324) (o := .cells #[.int .i64 a0_0, .slice A0_1 l0_1.length c0_1] 24 (0, 0)) (by (with_reducible repeat (first | refine blk_drewN ?_ _ | refine blk_drew ?_ | refine blk_alloc ?_ _)); exact BK324.out) hb); have n1_ := Aside0.mk (below_step (by repeat (first | (with_reducible first | exact HB.out | apply below_alloc | apply pw_below_drewN | apply below_drew1 | refine below_set ?_ GE324.out) | exact HB.out)) hb); have n2_ := Aside0.mk (hbox); have n3_ := Aside0.mk ((by rw [hg]; exact (below_size (by repeat (first | (with_reducible first | exact HB.out | apply below_alloc | apply pw_below_drewN | apply below_drew1 | refine below_set ?_ GE324.out) | exact HB.out))) : w.heap.size ≤ gb325)); have n4_ := Aside0.mk ((by rw [hg]; exact (below_size (by repeat (first | (with_reducible first | exact HB.out | apply below_alloc | apply pw_below_drewN | apply below_drew1 | refine below_set ?_ GE324.out) | exact HB.out))) : w.heap.size ≤ gb325)); have n5_ := Aside0.mk ((by rw [hg]; exact Nat.ne_of_lt (blk_lt (g := gb324) (o := .cells #[.int .i64 a0_0, .slice A0_1 l0_1.length c0_1] 24 (0, 0)) (by (with_reducible repeat (first | refine blk_drewN ?_ _ | refine blk_drew ?_ | refine blk_alloc ?_ _)); exact BK324.out)) : gb324 ≠ gb325)); have n6_ := Aside0.mk ((by rw [hg]; exact Nat.ne_of_gt (blk_lt (g := gb324) (o := .cells #[.int .i64 a0_0, .slice A0_1 l0_1.length c0_1] 24 (0, 0)) (by (with_reducible repeat (first | refine blk_drewN ?_ _ | refine blk_drew ?_ | refine blk_alloc ?_ _)); exact BK324.out)) : gb325 ≠ gb324)); clear BK324; clear HB; have BK324 := n0_; have HB := n1_; have BK325 := n2_; have GW325 := n3_; have GE325 := n4_; have NB324_325 := n5_; have NB325_324 := n6_; clear n0_ n1_ n2_ n3_ n4_ n5_ n6_; clear hb hbox hg)))
 (try simp only [Act.put, List.setIfInBounds_toArray, List.set_cons_zero, List.set_cons_succ])
 go_cut [19] (fun v19 wc => ∃ (kq : Nat) (x19_2 : Bool), v19 = .bool x19_2 ∧ Aside0 (pylonref14_Same.j0 kq x19_2 a0_0 l0_1 a1_0 l1_1 = some r) ∧ Aside0 (kq ≤ k) ∧ Aside0 (wc.heap[gb324]? = some (.cells #[.int .i64 a0_0, (.slice A0_1 l0_1.length c0_1)] 24 (0, 0))) ∧ Aside0 (wc.heap[gb325]? = some (.cells #[.int .i64 a1_0, (.slice A1_1 l1_1.length c1_1)] 24 (0, 0))) ∧ Aside0 (Below w.heap.size w wc))
 case first =>
  have H := HC3.out
  clear HC3
  by_cases c6 : a0_0 = a1_0
  ·rw [if_pos c6] at H
   have c6b0 : (a0_0 == a1_0) = true := beq_iff_eq.mpr c6
   have c6b1 : (a0_0 != a1_0) = false := bne_eq_false_iff_eq.mpr c6
   clear c6
   (first | rw [c6b0] | (simp only [i64_w, i32_w]; rw [c6b0]) | skip)
   have H' := Aside0.mk H
   clear H
   have hnb7 := NB324_325.out
   have hnc7 := NB325_324.out
   have hcz8_0 : w5.cell? ⟨gb324, 0, none⟩ = some (.int .i64 a0_0) := (blk_cell BK324.out 0).trans rfl
   have hcz8_1 : w5.cell? ⟨gb324, 1, none⟩ = some (.slice A0_1 l0_1.length c0_1) := (blk_cell BK324.out 1).trans rfl
   have hfz8_0 := blk_frozen BK324.out 0
   have hfz8_1 := blk_frozen BK324.out 1
   have hcz9_0 : w5.cell? ⟨gb325, 0, none⟩ = some (.int .i64 a1_0) := (blk_cell BK325.out 0).trans rfl
   have hcz9_1 : w5.cell? ⟨gb325, 1, none⟩ = some (.slice A1_1 l1_1.length c1_1) := (blk_cell BK325.out 1).trans rfl
   have hfz9_0 := blk_frozen BK325.out 0
   have hfz9_1 := blk_frozen BK325.out 1
   go_wp2
   repeat (go_quiet (fail); try go_wp2)
   go_meet
   case rel => exact ⟨_, (((l0_1.length : Int) != (l1_1.length : Int))), (by first | rfl | (simp; done) | (simp [*]; done)), H', ⟨by first | omega | exact Nat.le_refl _⟩, ⟨by (with_reducible repeat (first | refine blk_drewN ?_ _ | refine blk_drew ?_ | refine blk_alloc ?_ _)); exact BK324.out⟩, ⟨by (with_reducible repeat (first | refine blk_drewN ?_ _ | refine blk_drew ?_ | refine blk_alloc ?_ _)); exact BK325.out⟩, ⟨by repeat (first | (with_reducible first | exact HB.out | apply below_alloc | apply pw_below_drewN | apply below_drew1 | refine below_set ?_ GE324.out | refine below_set ?_ GE325.out) | exact HB.out)⟩⟩
  ·rw [if_neg c6] at H
   have c6b0 : (a0_0 == a1_0) = false := beq_eq_false_iff_ne.mpr c6
   have c6b1 : (a0_0 != a1_0) = true := bne_iff_ne.mpr c6
   (first | rw [c6b0] | (simp only [i64_w, i32_w]; rw [c6b0]) | skip)
   have H' := Aside0.mk H
   clear H
   have hnb10 := NB324_325.out
   have hnc10 := NB325_324.out
   have hcz11_0 : w5.cell? ⟨gb324, 0, none⟩ = some (.int .i64 a0_0) := (blk_cell BK324.out 0).trans rfl
   have hcz11_1 : w5.cell? ⟨gb324, 1, none⟩ = some (.slice A0_1 l0_1.length c0_1) := (blk_cell BK324.out 1).trans rfl
   have hfz11_0 := blk_frozen BK324.out 0
   have hfz11_1 := blk_frozen BK324.out 1
   have hcz12_0 : w5.cell? ⟨gb325, 0, none⟩ = some (.int .i64 a1_0) := (blk_cell BK325.out 0).trans rfl
   have hcz12_1 : w5.cell? ⟨gb325, 1, none⟩ = some (.slice A1_1 l1_1.length c1_1) := (blk_cell BK325.out 1).trans rfl
   have hfz12_0 := blk_frozen BK325.out 0
   have hfz12_1 := blk_frozen BK325.out 1
   go_wp2
   repeat (go_quiet (fail); try go_wp2)
   go_meet
   case rel => exact ⟨_, (true), (by first | rfl | (simp; done) | (simp [*]; done)), H', ⟨by first | omega | exact Nat.le_refl _⟩, ⟨by (with_reducible repeat (first | refine blk_drewN ?_ _ | refine blk_drew ?_ | refine blk_alloc ?_ _)); exact BK324.out⟩, ⟨by (with_reducible repeat (first | refine blk_drewN ?_ _ | refine blk_drew ?_ | refine blk_alloc ?_ _)); exact BK325.out⟩, ⟨by repeat (first | (with_reducible first | exact HB.out | apply below_alloc | apply pw_below_drewN | apply below_drew1 | refine below_set ?_ GE324.out | refine below_set ?_ GE325.out) | exact HB.out)⟩⟩
 case rest =>
  clear HC3; (try clear c1); (try clear p2); (try clear c4); (try clear c6); (try clear c6b0); (try clear c6b1); (try clear c7); (try clear c10); (try clear hcz11_0); (try clear hcz11_1); (try clear hcz12_0); (try clear hcz12_1); (try clear hcz8_0); (try clear hcz8_1); (try clear hcz9_0); (try clear hcz9_1); (try clear hfz11_0); (try clear hfz11_1); (try clear hfz12_0); (try clear hfz12_1); (try clear hfz8_0); (try clear hfz8_1); (try clear hfz9_0); (try clear hfz9_1)
  obtain ⟨kq, x19_2, rfl, HA, HJ2, BK324, BK325, HB⟩ := hcut
  cases kq with
  | zero => exact absurd HA.out (by simp [pylonref14_Same.j0])
  | succ kj2 =>
   have H := HA.out
   clear HA
   simp only [pylonref14_Same.j0] at H
   by_cases c13 : x19_2 = true
   ·subst c13
    have H1 : (some false) = some r := by rw [if_pos rfl] at H; exact H
    clear H
    have H := H1
    clear H1
    obtain rfl := Option.some.inj H
    go_wp2
    repeat (go_quiet (fail); try go_wp2)
    go_ret
    exact ⟨by first | rfl | (simp [errW_none, errW_some] <;> rfl) | (simp [*, errW_none, errW_some] <;> rfl), by repeat (first | (with_reducible first | exact HB.out | apply below_alloc | apply pw_below_drewN | apply below_drew1 | refine below_set ?_ GE324.out | refine below_set ?_ GE325.out) | exact HB.out)⟩
   ·replace c13 := Bool.eq_false_iff.mpr c13
    subst c13
    have H1 : (pylonref14_Same.l0 kj2 0 a0_0 l0_1 a1_0 l1_1) = some r := by rw [if_neg (show ¬ (false = true) by decide)] at H; exact H
    clear H
    have H := H1
    clear H1
    have H' := Aside0.mk H
    clear H
    go_wp2
    repeat (go_quiet (fail); try go_wp2)
    go_loopg [5] kj2 (fun kq v5 w' => ∃ (x5_2 : Int), v5 = .int .i64 x5_2 ∧ Aside0 (pylonref14_Same.l0 kq x5_2 a0_0 l0_1 a1_0 l1_1 = some r) ∧ Aside0 (kq ≤ kj2) ∧ Aside0 (w'.heap[gb324]? = some (.cells #[.int .i64 a0_0, (.slice A0_1 l0_1.length c0_1)] 24 (0, 0))) ∧ Aside0 (w'.heap[gb325]? = some (.cells #[.int .i64 a1_0, (.slice A1_1 l1_1.length c1_1)] 24 (0, 0))) ∧ Aside0 (Below w.heap.size w w'))
    case atStart => exact ⟨(0), (by first | rfl | (simp; done) | (simp [*]; done)), H', ⟨Nat.le_refl _⟩, ⟨by (with_reducible repeat (first | refine blk_drewN ?_ _ | refine blk_drew ?_ | refine blk_alloc ?_ _)); exact BK324.out⟩, ⟨by (with_reducible repeat (first | refine blk_drewN ?_ _ | refine blk_drew ?_ | refine blk_alloc ?_ _)); exact BK325.out⟩, ⟨by repeat (first | (with_reducible first | exact HB.out | apply below_alloc | apply pw_below_drewN | apply below_drew1 | refine below_set ?_ GE324.out | refine below_set ?_ GE325.out) | exact HB.out)⟩⟩
    case round =>
     clear H'; (try clear c1); (try clear p2); (try clear c4); (try clear c6); (try clear c6b0); (try clear c6b1); (try clear c7); (try clear c10); (try clear c13); (try clear hcz11_0); (try clear hcz11_1); (try clear hcz12_0); (try clear hcz12_1); (try clear hcz8_0); (try clear hcz8_1); (try clear hcz9_0); (try clear hcz9_1); (try clear hfz11_0); (try clear hfz11_1); (try clear hfz12_0); (try clear hfz12_1); (try clear hfz8_0); (try clear hfz8_1); (try clear hfz9_0); (try clear hfz9_1); (try clear p2)
     obtain ⟨x5_2, rfl, HA, HK2, BK324, BK325, HB⟩ := hrel
     cases gk with
     | zero => exact absurd HA.out (by simp [pylonref14_Same.l0])
     | succ k2 =>
      have H := HA.out
      clear HA
      simp only [pylonref14_Same.l0] at H
      by_cases c14 : x5_2 < (l0_1.length : Int)
      ·rw [if_pos c14] at H
       have c14b0 : decide (x5_2 < (l0_1.length : Int)) = true := decide_eq_true c14
       clear c14
       by_cases c15 : 0 ≤ x5_2
       ·rw [if_pos c15] at H
        have c15b0 : decide (0 ≤ x5_2) = true := decide_eq_true c15
        clear c15
        by_cases c16 : x5_2 < (l1_1.length : Int)
        ·rw [if_pos c16] at H
         have c16b0 : decide (x5_2 < (l1_1.length : Int)) = true := decide_eq_true c16
         clear c16
         by_cases c17 : (!(((rd_T37 l0_1 x5_2).f0) == ((rd_T37 l1_1 x5_2).f0)) || (!(((rd_T37 l0_1 x5_2).f1) == ((rd_T37 l1_1 x5_2).f1)) || (!(((rd_T37 l0_1 x5_2).f2) == ((rd_T37 l1_1 x5_2).f2)) || (!(((rd_T37 l0_1 x5_2).f3) == ((rd_T37 l1_1 x5_2).f3)))))) = true
         ·rw [if_pos c17] at H
          have c17b0 : (!(((rd_T37 l0_1 x5_2).f0) == ((rd_T37 l1_1 x5_2).f0)) || (!(((rd_T37 l0_1 x5_2).f1) == ((rd_T37 l1_1 x5_2).f1)) || (!(((rd_T37 l0_1 x5_2).f2) == ((rd_T37 l1_1 x5_2).f2)) || (!(((rd_T37 l0_1 x5_2).f3) == ((rd_T37 l1_1 x5_2).f3)))))) = true := c17
          clear c17
          obtain rfl := Option.some.inj H
          have hnb18 := NB324_325.out
          have hnc18 := NB325_324.out
          have hcz19_0 : wr.cell? ⟨gb324, 0, none⟩ = some (.int .i64 a0_0) := (blk_cell BK324.out 0).trans rfl
          have hcz19_1 : wr.cell? ⟨gb324, 1, none⟩ = some (.slice A0_1 l0_1.length c0_1) := (blk_cell BK324.out 1).trans rfl
          have hfz19_0 := blk_frozen BK324.out 0
          have hfz19_1 := blk_frozen BK324.out 1
          have p326 : 0 ≤ (x5_2 : Int) := of_decide_eq_true (by first | (with_reducible assumption) | assumption)
          have q326 : x5_2 < (l0_1.length : Int) := of_decide_eq_true (by first | (with_reducible assumption) | assumption)
          obtain ⟨ad326, e326, hx326_0, hx326_1, hx326_2, hx326_3⟩ := at_T37 HR0_1.out x5_2 p326 q326
          cases e326
          replace hx326_0 := (HB.out.cell (World.block_lt_of_cell? w _ hx326_0)).trans hx326_0
          replace hx326_1 := (HB.out.cell (World.block_lt_of_cell? w _ hx326_1)).trans hx326_1
          replace hx326_2 := (HB.out.cell (World.block_lt_of_cell? w _ hx326_2)).trans hx326_2
          replace hx326_3 := (HB.out.cell (World.block_lt_of_cell? w _ hx326_3)).trans hx326_3
          replace p326 := eq_true p326
          replace q326 := eq_true q326
          have hcz20_0 : wr.cell? ⟨gb325, 0, none⟩ = some (.int .i64 a1_0) := (blk_cell BK325.out 0).trans rfl
          have hcz20_1 : wr.cell? ⟨gb325, 1, none⟩ = some (.slice A1_1 l1_1.length c1_1) := (blk_cell BK325.out 1).trans rfl
          have hfz20_0 := blk_frozen BK325.out 0
          have hfz20_1 := blk_frozen BK325.out 1
          have p327 : 0 ≤ (x5_2 : Int) := of_decide_eq_true (by first | (with_reducible assumption) | assumption)
          have q327 : x5_2 < (l1_1.length : Int) := of_decide_eq_true (by first | (with_reducible assumption) | assumption)
          obtain ⟨ad327, e327, hx327_0, hx327_1, hx327_2, hx327_3⟩ := at_T37 HR1_1.out x5_2 p327 q327
          cases e327
          replace hx327_0 := (HB.out.cell (World.block_lt_of_cell? w _ hx327_0)).trans hx327_0
          replace hx327_1 := (HB.out.cell (World.block_lt_of_cell? w _ hx327_1)).trans hx327_1
          replace hx327_2 := (HB.out.cell (World.block_lt_of_cell? w _ hx327_2)).trans hx327_2
          replace hx327_3 := (HB.out.cell (World.block_lt_of_cell? w _ hx327_3)).trans hx327_3
          replace p327 := eq_true p327
          replace q327 := eq_true q327
          go_wp2
          repeat (go_quiet (fail); try go_wp2)
          go_ret
          exact ⟨by first | rfl | (simp [errW_none, errW_some] <;> rfl) | (simp [*, errW_none, errW_some] <;> rfl), by repeat (first | (with_reducible first | exact HB.out | apply below_alloc | apply pw_below_drewN | apply below_drew1 | refine below_set ?_ GE324.out | refine below_set ?_ GE325.out) | exact HB.out)⟩
         ·rw [if_neg c17] at H
          have c17b0 : (!(((rd_T37 l0_1 x5_2).f0) == ((rd_T37 l1_1 x5_2).f0)) || (!(((rd_T37 l0_1 x5_2).f1) == ((rd_T37 l1_1 x5_2).f1)) || (!(((rd_T37 l0_1 x5_2).f2) == ((rd_T37 l1_1 x5_2).f2)) || (!(((rd_T37 l0_1 x5_2).f3) == ((rd_T37 l1_1 x5_2).f3)))))) = false := by simpa using c17
          clear c17
          have H' := Aside0.mk H
          clear H
          have hnb21 := NB324_325.out
          have hnc21 := NB325_324.out
          have hcz22_0 : wr.cell? ⟨gb324, 0, none⟩ = some (.int .i64 a0_0) := (blk_cell BK324.out 0).trans rfl
          have hcz22_1 : wr.cell? ⟨gb324, 1, none⟩ = some (.slice A0_1 l0_1.length c0_1) := (blk_cell BK324.out 1).trans rfl
          have hfz22_0 := blk_frozen BK324.out 0
          have hfz22_1 := blk_frozen BK324.out 1
          have p326 : 0 ≤ (x5_2 : Int) := of_decide_eq_true (by first | (with_reducible assumption) | assumption)
          have q326 : x5_2 < (l0_1.length : Int) := of_decide_eq_true (by first | (with_reducible assumption) | assumption)
          obtain ⟨ad326, e326, hx326_0, hx326_1, hx326_2, hx326_3⟩ := at_T37 HR0_1.out x5_2 p326 q326
          cases e326
          replace hx326_0 := (HB.out.cell (World.block_lt_of_cell? w _ hx326_0)).trans hx326_0
          replace hx326_1 := (HB.out.cell (World.block_lt_of_cell? w _ hx326_1)).trans hx326_1
          replace hx326_2 := (HB.out.cell (World.block_lt_of_cell? w _ hx326_2)).trans hx326_2
          replace hx326_3 := (HB.out.cell (World.block_lt_of_cell? w _ hx326_3)).trans hx326_3
          replace p326 := eq_true p326
          replace q326 := eq_true q326
          have hcz23_0 : wr.cell? ⟨gb325, 0, none⟩ = some (.int .i64 a1_0) := (blk_cell BK325.out 0).trans rfl
          have hcz23_1 : wr.cell? ⟨gb325, 1, none⟩ = some (.slice A1_1 l1_1.length c1_1) := (blk_cell BK325.out 1).trans rfl
          have hfz23_0 := blk_frozen BK325.out 0
          have hfz23_1 := blk_frozen BK325.out 1
          have p327 : 0 ≤ (x5_2 : Int) := of_decide_eq_true (by first | (with_reducible assumption) | assumption)
          have q327 : x5_2 < (l1_1.length : Int) := of_decide_eq_true (by first | (with_reducible assumption) | assumption)
          obtain ⟨ad327, e327, hx327_0, hx327_1, hx327_2, hx327_3⟩ := at_T37 HR1_1.out x5_2 p327 q327
          cases e327
          replace hx327_0 := (HB.out.cell (World.block_lt_of_cell? w _ hx327_0)).trans hx327_0
          replace hx327_1 := (HB.out.cell (World.block_lt_of_cell? w _ hx327_1)).trans hx327_1
          replace hx327_2 := (HB.out.cell (World.block_lt_of_cell? w _ hx327_2)).trans hx327_2
          replace hx327_3 := (HB.out.cell (World.block_lt_of_cell? w _ hx327_3)).trans hx327_3
          replace p327 := eq_true p327
          replace q327 := eq_true q327
          go_wp2
          repeat (go_quiet (fail); try go_wp2)
          go_roundg k2
          case measure => have := HJ2.out; have := HK2.out; omega
          case rel => exact ⟨(wrap64 (x5_2 + 1)), (by first | rfl | (simp; done) | (simp [*]; done)), H', ⟨by have := HJ2.out; have := HK2.out; omega⟩, ⟨by (with_reducible repeat (first | refine blk_drewN ?_ _ | refine blk_drew ?_ | refine blk_alloc ?_ _)); exact BK324.out⟩, ⟨by (with_reducible repeat (first | refine blk_drewN ?_ _ | refine blk_drew ?_ | refine blk_alloc ?_ _)); exact BK325.out⟩, ⟨by repeat (first | (with_reducible first | exact HB.out | apply below_alloc | apply pw_below_drewN | apply below_drew1 | refine below_set ?_ GE324.out | refine below_set ?_ GE325.out) | exact HB.out)⟩⟩
        ·rw [if_neg c16] at H
         exact absurd H (by simp)
       ·rw [if_neg c15] at H
        exact absurd H (by simp)
      ·rw [if_neg c14] at H
       have c14b0 : decide (x5_2 < (l0_1.length : Int)) = false := decide_eq_false c14
       clear c14
       obtain rfl := Option.some.inj H
       have hnb24 := NB324_325.out
       have hnc24 := NB325_324.out
       have hcz25_0 : wr.cell? ⟨gb324, 0, none⟩ = some (.int .i64 a0_0) := (blk_cell BK324.out 0).trans rfl
       have hcz25_1 : wr.cell? ⟨gb324, 1, none⟩ = some (.slice A0_1 l0_1.length c0_1) := (blk_cell BK324.out 1).trans rfl
       have hfz25_0 := blk_frozen BK324.out 0
       have hfz25_1 := blk_frozen BK324.out 1
       go_wp2
       repeat (go_quiet (fail); try go_wp2)
       go_ret
       exact ⟨by first | rfl | (simp [errW_none, errW_some] <;> rfl) | (simp [*, errW_none, errW_some] <;> rfl), by repeat (first | (with_reducible first | exact HB.out | apply below_alloc | apply pw_below_drewN | apply below_drew1 | refine below_set ?_ GE324.out | refine below_set ?_ GE325.out) | exact HB.out)⟩

end Go.Proofs.Ytdpgdelimffjpaa.P

namespace Go.Proofs.Ytdpgdelimffjpaa.P
open Go.RowKit Go.Proofs.YtdpgdelimffjpaaW.PrintWords Go.Proofs.YtdpgdelimffjpaaW.PrintLast Go.Proofs.YtdpgdelimffjpaaW.PrintMore
attribute [local go_sem] max2_int min2_int max_two min_two max_three min_three max_four min_four   -- for this text's walks alone
set_option linter.unusedVariables false
set_option linter.unusedSimpArgs false

/-! ### pylonlaw15_spoil: function 46: by hand -/
def pylonlaw15_spoil.f (l0 : List (List Int)) : Option (Unit) := some ()
set_option maxRecDepth 100000 in
set_option maxHeartbeats 4000000 in
theorem pylonlaw15_spoil.real (S : Nat → Prop) (A0 : Option Addr) (vs : List Value) (c : Nat) (w : World) (hl : vs.length ≤ 9223372036854775807) (h : RowsOk S w A0 vs) :
  Calls Try.prog 46 #[.slice A0 vs.length c] w fun e w' => e = .returned (.tuple #[]) ∧ SpoilKept S w w' := by
 have H := Lib.hid h
 have HL := Lib.hid hl
 clear h hl
 go_enter Try.func46, Try.ntmps46
 go_wp2_with fail
 go_loopg [2] vs.length (fun kq v2 wr => ∃ i : Nat, i ≤ vs.length ∧ v2 = .int .i64 (i : Int) ∧ Hid (kq = vs.length - i) ∧ Hid (RowsOk S wr A0 vs ∧ SpoilKept S w wr))
 case atStart => exact ⟨0, Nat.zero_le _, rfl, rfl, H.out, SpoilKept.refl _ _⟩
 case round =>
  obtain ⟨i, hi, rfl, HK, HR⟩ := hrel
  have hL := HL.out
  by_cases hlt : i < vs.length
  ·have q2 : decide ((i : Int) < (vs.length : Int)) = true := decide_eq_true (by omega)
   have q3 : decide (0 ≤ (i : Int)) = true := decide_eq_true (by omega)
   have i1 : (0 ≤ (i : Int)) = True := eq_true (by omega)
   have i2 : ((i : Int) < (vs.length : Int)) = True := eq_true (by omega)
   obtain ⟨G, hA0, _⟩ := HR.out.1.no (by omega)
   subst hA0
   have hcell0 := HR.out.1.at_ G i hlt rfl
   obtain ⟨A, n, c', hv, hn, hc⟩ := HR.out.1.ok _ (List.getElem_mem hlt)
   have HC := Lib.hid hc
   rw [hv] at hcell0
   have HV := Lib.hid hv
   clear hc hv
   go_wp2_with fail
   go_loopg [3] n (fun kq v3 w2 => ∃ j : Nat, j ≤ n ∧ v3 = .int .i64 (j : Int) ∧ Hid (kq = n - j) ∧ Hid (RowsOk S w2 (some ⟨G, 0, none⟩) vs ∧ SpoilKept S w w2))
   case atStart => exact ⟨0, Nat.zero_le _, rfl, rfl, HR.out⟩
   case round =>
    obtain ⟨j, hj, rfl, HK2, HR2⟩ := hrel
    have hcell := HR2.out.1.at_ G i hlt rfl
    rw [HV.out] at hcell
    by_cases hjt : j < n
    ·have q4 : decide ((j : Int) < (n : Int)) = true := decide_eq_true (by omega)
     have i3 : (0 ≤ (j : Int)) = True := eq_true (by omega)
     have i4 : ((j : Int) < (n : Int)) = True := eq_true (by omega)
     have hrow := HR2.out.1.ok _ (List.getElem_mem hlt)
     rw [HV.out] at hrow
     obtain ⟨A2, n2, c2, hv2, _, hc2⟩ := hrow
     injection hv2 with e1 e2 e3
     subst e1 e2 e3
     obtain ⟨g, z, hA, hS, hx, hf⟩ := hc2 j hjt
     have HS := Lib.hid hS
     subst hA
     clear hc2 hS
     go_wp2_with fail
     go_roundg (n - (j + 1))
     case measure => have := HK2.out; omega
     case rel => exact ⟨j + 1, by omega, rfl, rfl, HR2.out.1.set HS.out j _, HR2.out.2.set HS.out j _⟩
    ·have q4 : decide ((j : Int) < (n : Int)) = false := decide_eq_false (by omega)
     go_wp2_with fail
     go_roundg (vs.length - (i + 1))
     case measure => have := HK.out; omega
     case rel => exact ⟨i + 1, by omega, rfl, rfl, HR2.out⟩
  ·have q2 : decide ((i : Int) < (vs.length : Int)) = false := decide_eq_false (by omega)
   go_wp2_with fail

   exact ⟨rfl, .tuple #[], by simp [results, Try.f46, go_sem], rfl, HR.out.2⟩


end Go.Proofs.Ytdpgdelimffjpaa.P

namespace Go.Proofs.Ytdpgdelimffjpaa.P
open Go.RowKit Go.Proofs.YtdpgdelimffjpaaW.PrintWords Go.Proofs.YtdpgdelimffjpaaW.PrintLast Go.Proofs.YtdpgdelimffjpaaW.PrintMore
attribute [local go_sem] max2_int min2_int max_two min_two max_three min_three max_four min_four   -- for this text's walks alone
set_option linter.unusedVariables false
set_option linter.unusedSimpArgs false

/-! ### pylonlaw15_IslandMatches: function 6 -/
mutual
def pylonlaw15_IslandMatches.l0 : Nat → List Int → List Int → List Int → Int → List Int → List (List Int) → Int → Int → List (S37) → Int → List (S37) → Option (Bool)
 | 0, _, _, _, _, _, _, _, _, _, _, _ => none
 | k + 1, x1, x6, x7, x8, x9, x11, x13, x329000, x329001, x341000, x341001 => if x13 < 2 then ((island_Of.f k x341000 x341001 x6).bind fun bt354 => ((island_Refs.f k x341000 x341001 x6).bind fun bt358 => ((island_Members.f k x341000 x341001 x6).bind fun bt362 => ((island_Count.f k x341000 x341001 x6).bind fun bt366 => (if bt354.2 = x8 then (if bt358.2 = x8 then (if bt362.2 = x8 then (if bt366.2 = x8 then (if bt366.1 = (x9.length : Int) then ((pylonref14_Ints.f k bt354.1 x7).bind fun t368 => (if t368 = true then ((pylonref14_Ints.f k bt358.1 x9).bind fun t369 => (if t369 = true then ((pylonref15_Rows.f k bt362.1 x11).bind fun t370 => (if t370 = true then ((pylonref14_Same.f k x341000 x341001 x329000 x329001).bind fun t371 => (if t371 = true then ((pylonref14_Ints.f k x6 x1).bind fun t372 => (pylonlaw15_IslandMatches.j1 k x1 x6 x7 x8 x9 x11 x13 bt354.1 bt358.1 bt362.1 (!t372) x329000 x329001 x341000 x341001)) else (pylonlaw15_IslandMatches.j1 k x1 x6 x7 x8 x9 x11 x13 bt354.1 bt358.1 bt362.1 true x329000 x329001 x341000 x341001))) else (pylonlaw15_IslandMatches.j1 k x1 x6 x7 x8 x9 x11 x13 bt354.1 bt358.1 bt362.1 true x329000 x329001 x341000 x341001))) else (pylonlaw15_IslandMatches.j1 k x1 x6 x7 x8 x9 x11 x13 bt354.1 bt358.1 bt362.1 true x329000 x329001 x341000 x341001))) else (pylonlaw15_IslandMatches.j1 k x1 x6 x7 x8 x9 x11 x13 bt354.1 bt358.1 bt362.1 true x329000 x329001 x341000 x341001))) else (pylonlaw15_IslandMatches.j1 k x1 x6 x7 x8 x9 x11 x13 bt354.1 bt358.1 bt362.1 true x329000 x329001 x341000 x341001)) else (pylonlaw15_IslandMatches.j1 k x1 x6 x7 x8 x9 x11 x13 bt354.1 bt358.1 bt362.1 true x329000 x329001 x341000 x341001)) else (pylonlaw15_IslandMatches.j1 k x1 x6 x7 x8 x9 x11 x13 bt354.1 bt358.1 bt362.1 true x329000 x329001 x341000 x341001)) else (pylonlaw15_IslandMatches.j1 k x1 x6 x7 x8 x9 x11 x13 bt354.1 bt358.1 bt362.1 true x329000 x329001 x341000 x341001)) else (pylonlaw15_IslandMatches.j1 k x1 x6 x7 x8 x9 x11 x13 bt354.1 bt358.1 bt362.1 true x329000 x329001 x341000 x341001)))))) else ((pylonlaw15_awake.f).bind fun t353 => (some t353))
def pylonlaw15_IslandMatches.j1 : Nat → List Int → List Int → List Int → Int → List Int → List (List Int) → Int → List Int → List Int → List (List Int) → Bool → Int → List (S37) → Int → List (S37) → Option (Bool)
 | 0, _, _, _, _, _, _, _, _, _, _, _, _, _, _, _ => none
 | k + 1, x1, x6, x7, x8, x9, x11, x13, x14, x16, x18, x134, x329000, x329001, x341000, x341001 => if x134 = true then (some false) else ((pylonlaw15_spoil.f (([x14, x16] : List (List Int)))).bind fun _ => ((pylonlaw15_spoil.f x18).bind fun _ => (pylonlaw15_IslandMatches.l0 k x1 x6 x7 x8 x9 x11 (wrap64 (x13 + 1)) x329000 x329001 x341000 x341001)))
end
def pylonlaw15_IslandMatches.f (k : Nat) (a0_0 : Int) (l0_1 : List (S37)) (l1 : List Int) : Option (Bool) := (pylonlaw14_Long.f k a0_0 l0_1 (([l1] : List (List Int)))).bind fun t332 => (if t332 = true then ((pylonlaw15_awake.f).bind fun t333 => (some t333)) else (if ([] : List (S37)).length + l0_1.length < 4398046511104 then (if ([] : List Int).length + l1.length < 17592186044416 then ((pylonref15_Of.f k a0_0 l0_1 l1).bind fun bt341 => ((pylonref15_Refs.f k a0_0 l0_1 l1).bind fun bt345 => ((pylonref15_Members.f k a0_0 l0_1 l1).bind fun bt349 => (pylonlaw15_IslandMatches.l0 k l1 (([] : List Int) ++ l1) bt341.1 bt341.2 bt345.1 bt349.1 0 a0_0 l0_1 a0_0 (([] : List (S37)) ++ l0_1))))) else (none)) else (none)))
def pylonlaw15_IslandMatches.T3 : Bool × List (List Nat × List Nat) := (true, [([], []), ([0], [0]), ([], []), ([2], [2]), ([3], [3]), ([1, 4], [1, 4]), ([], []), ([6, 4], [6]), ([], []), ([8, 5, 7, 0, 1, 2, 3, 4, 5, 8], [5, 8]), ([7, 9, 0, 1, 2, 3, 4, 5, 6, 7, 8, 9], [7])])
def pylonlaw15_IslandMatches.B3 : List Nat := [0, 1, 0, 4, 12, 31, 0, 92, 0, 511, 1023]
theorem pylonlaw15_IslandMatches.tab3 : rtab .any (opsOf Try.f6 3) = pylonlaw15_IslandMatches.T3 := by kernel_rfl
theorem pylonlaw15_IslandMatches.bits3 : waitsOk pylonlaw15_IslandMatches.T3.2 pylonlaw15_IslandMatches.B3 = true := by kernel_rfl
set_option maxHeartbeats 8000000 in
set_option maxRecDepth 100000 in
theorem pylonlaw15_IslandMatches.calls (k : Nat) (a0_0 : Int) (A0_1 : Option Addr) (c0_1 : Nat) (l0_1 : List (S37)) (P1_ : Nat → Prop) (A1 : Option Addr) (c1 : Nat) (l1 : List Int) (r : Bool) (w : World) (hr0_1 : Kd.C k37 w A0_1 l0_1.length l0_1) (hc0_1 : l0_1.length ≤ c0_1) (hs1 : Kd.V (Kd.int .i64) 3 w w.heap.size (fun k_ => P1_ k_) (.slice A1 l1.length c1) l1) (h : pylonlaw15_IslandMatches.f k a0_0 l0_1 l1 = some r) :
  Calls Try.prog 6 #[.agg #[.int .i64 a0_0, .slice A0_1 l0_1.length c0_1], .slice A1 l1.length c1] w fun e w' => e = .returned (.bool r) ∧ Below w.heap.size w w' := by
 have hu24 := Try.underlying24
 have HR0_1 := Aside0.mk hr0_1
 have HC0_1 := Aside0.mk hc0_1
 clear hr0_1 hc0_1
 have HO1 := Aside0.mk (show Kd.V (Kd.int .i64) 3 w w.heap.size (fun k_ => (P1_ k_ ∨ w.heap.size ≤ k_)) (.slice A1 l1.length c1) l1 from Kd.V_mono hs1 (fun k_ hk => .inl hk))
 have HB := Aside0.mk (Below.refl w.heap.size w)
 have H : ((pylonlaw14_Long.f k a0_0 l0_1 (([l1] : List (List Int)))).bind fun t332 => (if t332 = true then ((pylonlaw15_awake.f).bind fun t333 => (some t333)) else (if ([] : List (S37)).length + l0_1.length < 4398046511104 then (if ([] : List Int).length + l1.length < 17592186044416 then ((pylonref15_Of.f k a0_0 l0_1 l1).bind fun bt341 => ((pylonref15_Refs.f k a0_0 l0_1 l1).bind fun bt345 => ((pylonref15_Members.f k a0_0 l0_1 l1).bind fun bt349 => (pylonlaw15_IslandMatches.l0 k l1 (([] : List Int) ++ l1) bt341.1 bt341.2 bt345.1 bt349.1 0 a0_0 l0_1 a0_0 (([] : List (S37)) ++ l0_1))))) else (none)) else (none)))) = some r := h
 clear h
 obtain ⟨y329, hy329⟩ : ∃ y_ : List (List Int), y_ = (([l1] : List (List Int))) := ⟨_, rfl⟩
 replace H : ((pylonlaw14_Long.f k a0_0 l0_1 y329).bind fun t332 => (if t332 = true then ((pylonlaw15_awake.f).bind fun t333 => (some t333)) else (if ([] : List (S37)).length + l0_1.length < 4398046511104 then (if ([] : List Int).length + l1.length < 17592186044416 then ((pylonref15_Of.f k a0_0 l0_1 l1).bind fun bt341 => ((pylonref15_Refs.f k a0_0 l0_1 l1).bind fun bt345 => ((pylonref15_Members.f k a0_0 l0_1 l1).bind fun bt349 => (pylonlaw15_IslandMatches.l0 k l1 (([] : List Int) ++ l1) bt341.1 bt341.2 bt345.1 bt349.1 0 a0_0 l0_1 a0_0 (([] : List (S37)) ++ l0_1))))) else (none)) else (none)))) = some r := by first | (rw [hy329]; with_reducible exact H) | (have H2_ := (Option.bind_some _ _).symm.trans H; rw [hy329]; with_reducible exact H2_) | (have H2_ := (Option.bind_some _ _).symm.trans H; with_reducible exact H2_) | with_reducible exact H | (rw [hy329]; exact H) | exact H
 have Ny329 := Aside0.mk hy329
 clear hy329
 replace H := Option.bind_eq_some_iff.mp H
 obtain ⟨t332, A30, H⟩ := H
 replace H : (if t332 = true then ((pylonlaw15_awake.f).bind fun t333 => (some t333)) else (if ([] : List (S37)).length + l0_1.length < 4398046511104 then (if ([] : List Int).length + l1.length < 17592186044416 then ((pylonref15_Of.f k a0_0 l0_1 l1).bind fun bt341 => ((pylonref15_Refs.f k a0_0 l0_1 l1).bind fun bt345 => ((pylonref15_Members.f k a0_0 l0_1 l1).bind fun bt349 => (pylonlaw15_IslandMatches.l0 k l1 (([] : List Int) ++ l1) bt341.1 bt341.2 bt345.1 bt349.1 0 a0_0 l0_1 a0_0 (([] : List (S37)) ++ l0_1))))) else (none)) else (none))) = some r := H
 have A3 := Aside0.mk A30
 clear A30
 by_cases c4 : t332 = true
 ·subst c4
  have H1 : ((pylonlaw15_awake.f).bind fun t333 => (some t333)) = some r := by rw [if_pos rfl] at H; exact H
  clear H
  have H := H1
  clear H1
  replace H := Option.bind_eq_some_iff.mp H
  obtain ⟨t333, A50, H⟩ := H
  replace H : (some t333) = some r := H
  have A5 := Aside0.mk A50
  clear A50
  obtain rfl := Option.some.inj H
  go_enter Try.func6, Try.ntmps6
  go_wp2_with (first | ((with_reducible refine gate_dst (N := 2) rfl ?_); (try (refine gate_guard (by rfl) ?_; dsimp only)); refine box_event ?hg (N := 2) ?hd (cs := #[.int .i64 a0_0, .slice A0_1 l0_1.length c0_1]) (t := 24) ?hr ?_; (case hd => rfl); (case hg => rfl); (case hr => first | (go_simp; done) | (go_simp; rfl)); intro gb328 hg w6 hbox hb; have n0_ := Aside0.mk (Kd.V_below (Kd.V_elderB (by (with_reducible repeat (first | apply Kd.V_alloc | apply Kd.V_drewN | apply Kd.V_drew)); exact HO1.out) gb328 (Nat.le_of_eq hg.symm)) hb); have n1_ := Aside0.mk (below_step (by repeat (first | (with_reducible first | exact HB.out | apply below_alloc | apply pw_below_drewN | apply below_drew1) | exact HB.out)) hb); have n2_ := Aside0.mk (hbox); have n3_ := Aside0.mk ((by rw [hg]; exact (below_size (by repeat (first | (with_reducible first | exact HB.out | apply below_alloc | apply pw_below_drewN | apply below_drew1) | exact HB.out))) : w.heap.size ≤ gb328)); have n4_ := Aside0.mk ((by rw [hg]; exact (below_size (by repeat (first | (with_reducible first | exact HB.out | apply below_alloc | apply pw_below_drewN | apply below_drew1) | exact HB.out))) : w.heap.size ≤ gb328)); clear HO1; clear HB; have HO1 := n0_; have HB := n1_; have BK328 := n2_; have GW328 := n3_; have GE328 := n4_; clear n0_ n1_ n2_ n3_ n4_; clear hb hbox hg; have hcz7_0 : w6.cell? ⟨gb328, 0, none⟩ = some (.int .i64 a0_0) := (blk_cell BK328.out 0).trans rfl; have hcz7_1 : w6.cell? ⟨gb328, 1, none⟩ = some (.slice A0_1 l0_1.length c0_1) := (blk_cell BK328.out 1).trans rfl; have hfz7_0 := blk_frozen BK328.out 0; have hfz7_1 := blk_frozen BK328.out 1) | ((with_reducible refine gate_dst (N := 24) rfl ?_); (try (refine gate_guard (by rfl) ?_; dsimp only)); refine Kd.N_lit (Kd.slice 3 (Kd.int .i64)) _ 25 ?hg (N' := 24) ?hd (xs := ([l1] : List (List Int))) (inner := [.slice A1 l1.length c1]) (ok := (fun k_ => (P1_ k_ ∨ w.heap.size ≤ k_) ∧ k_ ≠ gb328)) (okp := (fun k_ => (P1_ k_ ∨ w.heap.size ≤ k_) ∧ k_ ≠ gb328)) ?hr ?hp (fun _ hk => hk) ((show ∀ k_, w6.heap.size ≤ k_ → (fun k_ => (P1_ k_ ∨ w.heap.size ≤ k_) ∧ k_ ≠ gb328) k_ from fun k_ hk => ⟨(.inr (Nat.le_trans (below_size (by repeat (first | (with_reducible first | exact HB.out | apply below_alloc | apply pw_below_drewN | apply below_drew1 | refine below_set ?_ GE328.out) | exact HB.out))) hk)), Kd.freshB (g := gb328) (o := .cells #[.int .i64 a0_0, .slice A0_1 l0_1.length c0_1] 24 (0, 0)) (by (with_reducible repeat (first | refine blk_drewN ?_ _ | refine blk_drew ?_ | refine blk_alloc ?_ _)); exact BK328.out) k_ hk⟩) _ (Nat.le_refl _)) (Below.refl _ _) (Nat.le_refl _) (by simp) ?_; (case hd => rfl); (case hg => rfl); (case hr => first | (go_simp; done) | (go_simp; rfl)); (case hp => exact (Reps.one (show Kd.FK (Kd.slice 3 (Kd.int .i64)) _ _ l1 [.slice A1 l1.length c1] from (Kd.FK_slice_mk (Kd.V_reads' (Kd.V_mono (ok' := (fun k_ => (P1_ k_ ∨ w.heap.size ≤ k_) ∧ k_ ≠ gb328)) (HO1.out) (fun k_ hk => ⟨hk.1, hk.2⟩))).2.1 (Kd.V_F (Kd.V_mono (ok' := (fun k_ => (P1_ k_ ∨ w.heap.size ≤ k_) ∧ k_ ≠ gb328)) (HO1.out) (fun k_ hk => ⟨hk.1, hk.2⟩))))) (Reps.none _ _))); intro v330 w8 ho9 hb hg_ hnew_; clear hg_ hnew_; (first | rw [← Ny329.out] at ho9 | (simp only [Int.reduceToNat] at ho9; rw [← Ny329.out] at ho9)); have n0_ := Aside0.mk (Kd.V_elder' (by (with_reducible repeat (first | apply Kd.V_alloc | apply Kd.V_drewN | apply Kd.V_drew)); exact HO1.out) (Kd.N_base ho9) hb); have n1_ := Aside0.mk (Kd.N_lower ho9 (below_size (by repeat (first | (with_reducible first | exact HB.out | apply below_alloc | apply pw_below_drewN | apply below_drew1 | refine below_set ?_ GE328.out) | exact HB.out)))); have n2_ := Aside0.mk (blk_below (g := gb328) (o := .cells #[.int .i64 a0_0, .slice A0_1 l0_1.length c0_1] 24 (0, 0)) (by (with_reducible repeat (first | refine blk_drewN ?_ _ | refine blk_drew ?_ | refine blk_alloc ?_ _)); exact BK328.out) hb); have n3_ := Aside0.mk (below_step (by repeat (first | (with_reducible first | exact HB.out | apply below_alloc | apply pw_below_drewN | apply below_drew1 | refine below_set ?_ GE328.out) | exact HB.out)) hb); clear HO1; clear BK328; clear HB; have HO1 := n0_; have HO331 := n1_; have BK328 := n2_; have HB := n3_; clear n0_ n1_ n2_ n3_; clear hb ho9; obtain ⟨Ao10, co10, eo10⟩ := Kd.N_slice HO331.out; subst eo10) | ((with_reducible refine gate_callee (f := 28) rfl ?_); refine goesL_ (some 25) rfl rfl Try.func28 (by kernel_rfl) rfl #[.agg #[.int .i64 a0_0, .slice A0_1 l0_1.length c0_1], .slice Ao10 y329.length co10] rfl (by (try simp only [List.map_toArray, List.map_cons, List.map_nil]); first | done | rfl | (simp only [List.length_drop, List.length_take]; rfl)) ?_; (with_reducible refine (pylonlaw14_Long.calls k a0_0 _ _ l0_1 _ _ y329 true _ ?side1 ?side2 ?side3 ?side4 A3.out).mono ?_); (case side1 => repeat (first | exact (Kd.C_below HR0_1.out HB.out) | (with_reducible refine Kd.C_alloc ?_ _) | (with_reducible refine Kd.C_drewN ?_ _) | (with_reducible refine Kd.C_drew ?_))); (case side2 => exact HC0_1.out); (case side3 => repeat (first | exact (Kd.N_reads' HO331.out).2.2 | (with_reducible refine Kd.C_alloc ?_ _) | (with_reducible refine Kd.C_drewN ?_ _) | (with_reducible refine Kd.C_drew ?_))); (case side4 => exact (Kd.N_reads' HO331.out).2.1); rintro e w11 ⟨rfl, hb⟩; refine ⟨_, rfl, ?_⟩; have n0_ := Aside0.mk (Kd.V_below (by (with_reducible repeat (first | apply Kd.V_alloc | apply Kd.V_drewN | apply Kd.V_drew)); exact HO1.out) hb); have n1_ := Aside0.mk (Kd.N_below (by (with_reducible repeat (first | apply Kd.N_alloc | apply Kd.N_drewN | apply Kd.N_drew)); exact HO331.out) hb); have n2_ := Aside0.mk (blk_below (g := gb328) (o := .cells #[.int .i64 a0_0, .slice A0_1 l0_1.length c0_1] 24 (0, 0)) (by (with_reducible repeat (first | refine blk_drewN ?_ _ | refine blk_drew ?_ | refine blk_alloc ?_ _)); exact BK328.out) hb); have n3_ := Aside0.mk (below_step (by repeat (first | (with_reducible first | exact HB.out | apply below_alloc | apply pw_below_drewN | apply below_drew1 | refine below_set ?_ GE328.out) | exact HB.out)) hb); clear HO1; clear HO331; clear BK328; clear HB; have HO1 := n0_; have HO331 := n1_; have BK328 := n2_; have HB := n3_; clear n0_ n1_ n2_ n3_; (try clear hb); (try clear hb2); (try clear hk); (try clear hi)) | ((with_reducible refine gate_callee (f := 29) rfl ?_); refine goesL_ (some 26) rfl rfl Try.func29 (by kernel_rfl) rfl #[] rfl (by (try simp only [List.map_toArray, List.map_cons, List.map_nil]); first | done | rfl | (simp only [List.length_drop, List.length_take]; rfl)) ?_; (with_reducible refine (pylonlaw15_awake.calls  t333 _ A5.out).mono ?_); rintro e w12 ⟨rfl, hb⟩; refine ⟨_, rfl, ?_⟩; have n0_ := Aside0.mk (Kd.V_below (by (with_reducible repeat (first | apply Kd.V_alloc | apply Kd.V_drewN | apply Kd.V_drew)); exact HO1.out) hb); have n1_ := Aside0.mk (Kd.N_below (by (with_reducible repeat (first | apply Kd.N_alloc | apply Kd.N_drewN | apply Kd.N_drew)); exact HO331.out) hb); have n2_ := Aside0.mk (blk_below (g := gb328) (o := .cells #[.int .i64 a0_0, .slice A0_1 l0_1.length c0_1] 24 (0, 0)) (by (with_reducible repeat (first | refine blk_drewN ?_ _ | refine blk_drew ?_ | refine blk_alloc ?_ _)); exact BK328.out) hb); have n3_ := Aside0.mk (below_step (by repeat (first | (with_reducible first | exact HB.out | apply below_alloc | apply pw_below_drewN | apply below_drew1 | refine below_set ?_ GE328.out) | exact HB.out)) hb); clear HO1; clear HO331; clear BK328; clear HB; have HO1 := n0_; have HO331 := n1_; have BK328 := n2_; have HB := n3_; clear n0_ n1_ n2_ n3_; (try clear hb); (try clear hb2); (try clear hk); (try clear hi)))
  go_ret
  exact ⟨by first | rfl | (simp [errW_none, errW_some] <;> rfl) | (simp [*, errW_none, errW_some] <;> rfl), by repeat (first | (with_reducible first | exact HB.out | apply below_alloc | apply pw_below_drewN | apply below_drew1 | refine below_set ?_ GE328.out) | exact HB.out)⟩
 ·replace c4 := Bool.eq_false_iff.mpr c4
  subst c4
  have H1 : (if ([] : List (S37)).length + l0_1.length < 4398046511104 then (if ([] : List Int).length + l1.length < 17592186044416 then ((pylonref15_Of.f k a0_0 l0_1 l1).bind fun bt341 => ((pylonref15_Refs.f k a0_0 l0_1 l1).bind fun bt345 => ((pylonref15_Members.f k a0_0 l0_1 l1).bind fun bt349 => (pylonlaw15_IslandMatches.l0 k l1 (([] : List Int) ++ l1) bt341.1 bt341.2 bt345.1 bt349.1 0 a0_0 l0_1 a0_0 (([] : List (S37)) ++ l0_1))))) else (none)) else (none)) = some r := by rw [if_neg (show ¬ (false = true) by decide)] at H; exact H
  clear H
  have H := H1
  clear H1
  by_cases c13 : ([] : List (S37)).length + l0_1.length < 4398046511104
  ·rw [if_pos c13] at H
   have LMc13 := Aside0.mk c13
   clear c13
   obtain ⟨y334, hy334⟩ : ∃ y_ : List (S37), y_ = (([] : List (S37)) ++ l0_1) := ⟨_, rfl⟩
   replace H : (if ([] : List Int).length + l1.length < 17592186044416 then ((pylonref15_Of.f k a0_0 l0_1 l1).bind fun bt341 => ((pylonref15_Refs.f k a0_0 l0_1 l1).bind fun bt345 => ((pylonref15_Members.f k a0_0 l0_1 l1).bind fun bt349 => (pylonlaw15_IslandMatches.l0 k l1 (([] : List Int) ++ l1) bt341.1 bt341.2 bt345.1 bt349.1 0 a0_0 l0_1 a0_0 y334)))) else (none)) = some r := by first | (rw [hy334]; with_reducible exact H) | (have H2_ := (Option.bind_some _ _).symm.trans H; rw [hy334]; with_reducible exact H2_) | (have H2_ := (Option.bind_some _ _).symm.trans H; with_reducible exact H2_) | with_reducible exact H | (rw [hy334]; exact H) | exact H
   have Ny334 := Aside0.mk hy334
   clear hy334
   by_cases c14 : ([] : List Int).length + l1.length < 17592186044416
   ·rw [if_pos c14] at H
    have LMc14 := Aside0.mk c14
    clear c14
    obtain ⟨y337, hy337⟩ : ∃ y_ : List Int, y_ = (([] : List Int) ++ l1) := ⟨_, rfl⟩
    replace H : ((pylonref15_Of.f k a0_0 l0_1 l1).bind fun bt341 => ((pylonref15_Refs.f k a0_0 l0_1 l1).bind fun bt345 => ((pylonref15_Members.f k a0_0 l0_1 l1).bind fun bt349 => (pylonlaw15_IslandMatches.l0 k l1 y337 bt341.1 bt341.2 bt345.1 bt349.1 0 a0_0 l0_1 a0_0 y334)))) = some r := by first | (rw [hy337]; with_reducible exact H) | (have H2_ := (Option.bind_some _ _).symm.trans H; rw [hy337]; with_reducible exact H2_) | (have H2_ := (Option.bind_some _ _).symm.trans H; with_reducible exact H2_) | with_reducible exact H | (rw [hy337]; exact H) | exact H
    have Ny337 := Aside0.mk hy337
    clear hy337
    replace H := Option.bind_eq_some_iff.mp H
    obtain ⟨⟨t341, t344⟩, A150, H⟩ := H
    replace H : ((pylonref15_Refs.f k a0_0 l0_1 l1).bind fun bt345 => ((pylonref15_Members.f k a0_0 l0_1 l1).bind fun bt349 => (pylonlaw15_IslandMatches.l0 k l1 y337 t341 t344 bt345.1 bt349.1 0 a0_0 l0_1 a0_0 y334))) = some r := H
    have A15 := Aside0.mk A150
    clear A150
    replace H := Option.bind_eq_some_iff.mp H
    obtain ⟨⟨t345, t348⟩, A160, H⟩ := H
    replace H : ((pylonref15_Members.f k a0_0 l0_1 l1).bind fun bt349 => (pylonlaw15_IslandMatches.l0 k l1 y337 t341 t344 t345 bt349.1 0 a0_0 l0_1 a0_0 y334)) = some r := H
    have A16 := Aside0.mk A160
    clear A160
    replace H := Option.bind_eq_some_iff.mp H
    obtain ⟨⟨t349, t352⟩, A170, H⟩ := H
    replace H : (pylonlaw15_IslandMatches.l0 k l1 y337 t341 t344 t345 t349 0 a0_0 l0_1 a0_0 y334) = some r := H
    have A17 := Aside0.mk A170
    clear A170
    have H' := Aside0.mk H
    clear H
    go_enter Try.func6, Try.ntmps6
    try go_wp2_with (first | ((with_reducible refine gate_dst (N := 2) rfl ?_); (try (refine gate_guard (by rfl) ?_; dsimp only)); refine box_event ?hg (N := 2) ?hd (cs := #[.int .i64 a0_0, .slice A0_1 l0_1.length c0_1]) (t := 24) ?hr ?_; (case hd => rfl); (case hg => rfl); (case hr => first | (go_simp; done) | (go_simp; rfl)); intro gb328 hg w18 hbox hb; have n0_ := Aside0.mk (Kd.V_below (Kd.V_elderB (by (with_reducible repeat (first | apply Kd.V_alloc | apply Kd.V_drewN | apply Kd.V_drew)); exact HO1.out) gb328 (Nat.le_of_eq hg.symm)) hb); have n1_ := Aside0.mk (below_step (by repeat (first | (with_reducible first | exact HB.out | apply below_alloc | apply pw_below_drewN | apply below_drew1) | exact HB.out)) hb); have n2_ := Aside0.mk (hbox); have n3_ := Aside0.mk ((by rw [hg]; exact (below_size (by repeat (first | (with_reducible first | exact HB.out | apply below_alloc | apply pw_below_drewN | apply below_drew1) | exact HB.out))) : w.heap.size ≤ gb328)); have n4_ := Aside0.mk ((by rw [hg]; exact (below_size (by repeat (first | (with_reducible first | exact HB.out | apply below_alloc | apply pw_below_drewN | apply below_drew1) | exact HB.out))) : w.heap.size ≤ gb328)); clear HO1; clear HB; have HO1 := n0_; have HB := n1_; have BK328 := n2_; have GW328 := n3_; have GE328 := n4_; clear n0_ n1_ n2_ n3_ n4_; clear hb hbox hg; have hcz19_0 : w18.cell? ⟨gb328, 0, none⟩ = some (.int .i64 a0_0) := (blk_cell BK328.out 0).trans rfl; have hcz19_1 : w18.cell? ⟨gb328, 1, none⟩ = some (.slice A0_1 l0_1.length c0_1) := (blk_cell BK328.out 1).trans rfl; have hfz19_0 := blk_frozen BK328.out 0; have hfz19_1 := blk_frozen BK328.out 1) | ((with_reducible refine gate_dst (N := 24) rfl ?_); (try (refine gate_guard (by rfl) ?_; dsimp only)); refine Kd.N_lit (Kd.slice 3 (Kd.int .i64)) _ 25 ?hg (N' := 24) ?hd (xs := ([l1] : List (List Int))) (inner := [.slice A1 l1.length c1]) (ok := (fun k_ => (P1_ k_ ∨ w.heap.size ≤ k_) ∧ k_ ≠ gb328)) (okp := (fun k_ => (P1_ k_ ∨ w.heap.size ≤ k_) ∧ k_ ≠ gb328)) ?hr ?hp (fun _ hk => hk) ((show ∀ k_, w18.heap.size ≤ k_ → (fun k_ => (P1_ k_ ∨ w.heap.size ≤ k_) ∧ k_ ≠ gb328) k_ from fun k_ hk => ⟨(.inr (Nat.le_trans (below_size (by repeat (first | (with_reducible first | exact HB.out | apply below_alloc | apply pw_below_drewN | apply below_drew1 | refine below_set ?_ GE328.out) | exact HB.out))) hk)), Kd.freshB (g := gb328) (o := .cells #[.int .i64 a0_0, .slice A0_1 l0_1.length c0_1] 24 (0, 0)) (by (with_reducible repeat (first | refine blk_drewN ?_ _ | refine blk_drew ?_ | refine blk_alloc ?_ _)); exact BK328.out) k_ hk⟩) _ (Nat.le_refl _)) (Below.refl _ _) (Nat.le_refl _) (by simp) ?_; (case hd => rfl); (case hg => rfl); (case hr => first | (go_simp; done) | (go_simp; rfl)); (case hp => exact (Reps.one (show Kd.FK (Kd.slice 3 (Kd.int .i64)) _ _ l1 [.slice A1 l1.length c1] from (Kd.FK_slice_mk (Kd.V_reads' (Kd.V_mono (ok' := (fun k_ => (P1_ k_ ∨ w.heap.size ≤ k_) ∧ k_ ≠ gb328)) (HO1.out) (fun k_ hk => ⟨hk.1, hk.2⟩))).2.1 (Kd.V_F (Kd.V_mono (ok' := (fun k_ => (P1_ k_ ∨ w.heap.size ≤ k_) ∧ k_ ≠ gb328)) (HO1.out) (fun k_ hk => ⟨hk.1, hk.2⟩))))) (Reps.none _ _))); intro v330 w20 ho21 hb hg_ hnew_; clear hg_ hnew_; (first | rw [← Ny329.out] at ho21 | (simp only [Int.reduceToNat] at ho21; rw [← Ny329.out] at ho21)); have n0_ := Aside0.mk (Kd.V_elder' (by (with_reducible repeat (first | apply Kd.V_alloc | apply Kd.V_drewN | apply Kd.V_drew)); exact HO1.out) (Kd.N_base ho21) hb); have n1_ := Aside0.mk (Kd.N_lower ho21 (below_size (by repeat (first | (with_reducible first | exact HB.out | apply below_alloc | apply pw_below_drewN | apply below_drew1 | refine below_set ?_ GE328.out) | exact HB.out)))); have n2_ := Aside0.mk (blk_below (g := gb328) (o := .cells #[.int .i64 a0_0, .slice A0_1 l0_1.length c0_1] 24 (0, 0)) (by (with_reducible repeat (first | refine blk_drewN ?_ _ | refine blk_drew ?_ | refine blk_alloc ?_ _)); exact BK328.out) hb); have n3_ := Aside0.mk (below_step (by repeat (first | (with_reducible first | exact HB.out | apply below_alloc | apply pw_below_drewN | apply below_drew1 | refine below_set ?_ GE328.out) | exact HB.out)) hb); clear HO1; clear BK328; clear HB; have HO1 := n0_; have HO331 := n1_; have BK328 := n2_; have HB := n3_; clear n0_ n1_ n2_ n3_; clear hb ho21; obtain ⟨Ao22, co22, eo22⟩ := Kd.N_slice HO331.out; subst eo22) | ((with_reducible refine gate_callee (f := 28) rfl ?_); refine goesL_ (some 25) rfl rfl Try.func28 (by kernel_rfl) rfl #[.agg #[.int .i64 a0_0, .slice A0_1 l0_1.length c0_1], .slice Ao22 y329.length co22] rfl (by (try simp only [List.map_toArray, List.map_cons, List.map_nil]); first | done | rfl | (simp only [List.length_drop, List.length_take]; rfl)) ?_; (with_reducible refine (pylonlaw14_Long.calls k a0_0 _ _ l0_1 _ _ y329 false _ ?side1 ?side2 ?side3 ?side4 A3.out).mono ?_); (case side1 => repeat (first | exact (Kd.C_below HR0_1.out HB.out) | (with_reducible refine Kd.C_alloc ?_ _) | (with_reducible refine Kd.C_drewN ?_ _) | (with_reducible refine Kd.C_drew ?_))); (case side2 => exact HC0_1.out); (case side3 => repeat (first | exact (Kd.N_reads' HO331.out).2.2 | (with_reducible refine Kd.C_alloc ?_ _) | (with_reducible refine Kd.C_drewN ?_ _) | (with_reducible refine Kd.C_drew ?_))); (case side4 => exact (Kd.N_reads' HO331.out).2.1); rintro e w23 ⟨rfl, hb⟩; refine ⟨_, rfl, ?_⟩; have n0_ := Aside0.mk (Kd.V_below (by (with_reducible repeat (first | apply Kd.V_alloc | apply Kd.V_drewN | apply Kd.V_drew)); exact HO1.out) hb); have n1_ := Aside0.mk (Kd.N_below (by (with_reducible repeat (first | apply Kd.N_alloc | apply Kd.N_drewN | apply Kd.N_drew)); exact HO331.out) hb); have n2_ := Aside0.mk (blk_below (g := gb328) (o := .cells #[.int .i64 a0_0, .slice A0_1 l0_1.length c0_1] 24 (0, 0)) (by (with_reducible repeat (first | refine blk_drewN ?_ _ | refine blk_drew ?_ | refine blk_alloc ?_ _)); exact BK328.out) hb); have n3_ := Aside0.mk (below_step (by repeat (first | (with_reducible first | exact HB.out | apply below_alloc | apply pw_below_drewN | apply below_drew1 | refine below_set ?_ GE328.out) | exact HB.out)) hb); clear HO1; clear HO331; clear BK328; clear HB; have HO1 := n0_; have HO331 := n1_; have BK328 := n2_; have HB := n3_; clear n0_ n1_ n2_ n3_; (try clear hb); (try clear hb2); (try clear hk); (try clear hi)))
    have n0_ := Aside0.mk (Kd.V_drew HO1.out)
    have n1_ := Aside0.mk (Kd.N_drew HO331.out)
    have n2_ := Aside0.mk (blk_drew BK328.out)
    have n3_ := Aside0.mk (below_drew1 HB.out)
    clear HO1; clear HO331; clear BK328; clear HB
    have HO1 := n0_
    have HO331 := n1_
    have BK328 := n2_
    have HB := n3_
    clear n0_ n1_ n2_ n3_
    refine start_ (n := 11) (S := fun w' => w'.cell? ⟨gb328, 0, none⟩ = some (.int .i64 a0_0) ∧ w'.cell? ⟨gb328, 1, none⟩ = some (.slice A0_1 l0_1.length c0_1)) (ds := []) #[false, false, false, false, false, false, false, false, false, false, false] (by kernel_rfl) rfl rfl ⟨(blk_cell BK328.out 0).trans rfl, (blk_cell BK328.out 1).trans rfl⟩ (fun hHeld => ?_); refine with_tabW pylonlaw15_IslandMatches.tab3 pylonlaw15_IslandMatches.bits3 (fun HT_ HW_ => ?_)
    generalize w23.drew = w24 at HO1 HO331 BK328 HB hHeld ⊢
    refine pure_ (i := 0) (N := some 27) (v := ?_) (a' := ?_) #[true, false, false, false, false, false, false, false, false, false, false] rfl rfl (any_of HT_.out (by kernel_rfl)) (fun _ _ _ h => h) (Or.inl ⟨by rfl, ?_⟩) ?_ ?_
    rotate_left; (intro w'; go_simp; with_reducible rfl); rotate_left; (simp only [Act.put, List.setIfInBounds_toArray, List.set_cons_zero, List.set_cons_succ, i64_w, i32_w]; rfl)
    refine pure_ (i := 2) (N := some 29) (v := ?_) (a' := ?_) #[true, false, true, false, false, false, false, false, false, false, false] rfl rfl (any_of HT_.out (by kernel_rfl)) (fun _ _ _ h => h) (Or.inl ⟨by rfl, ?_⟩) ?_ ?_
    rotate_left; (intro w'; go_simp; with_reducible rfl); rotate_left; (simp only [Act.put, List.setIfInBounds_toArray, List.set_cons_zero, List.set_cons_succ, i64_w, i32_w]; rfl)
    refine pure_ (i := 6) (N := some 33) (v := ?_) (a' := ?_) #[true, false, true, false, false, false, true, false, false, false, false] rfl rfl (any_of HT_.out (by kernel_rfl)) (fun _ _ _ h => h) (Or.inl ⟨by rfl, ?_⟩) ?_ ?_
    rotate_left; (intro w'; go_simp; with_reducible rfl); rotate_left; (simp only [Act.put, List.setIfInBounds_toArray, List.set_cons_zero, List.set_cons_succ, i64_w, i32_w]; rfl)
    refine take_ (i := 1) (N := some 28) (v := ?_) (a' := ?_) #[true, true, true, false, false, false, true, false, false, false, false] rfl rfl (take_ofW HT_.out HW_.out (by kernel_rfl)) (fun _ _ _ h => h) (Or.inl ⟨by rfl, ?_⟩) hHeld ?_ ?_
    rotate_left; (rintro w' ⟨s0, s1⟩; go_simp; with_reducible rfl); rotate_left; (simp only [Act.put, List.setIfInBounds_toArray, List.set_cons_zero, List.set_cons_succ, i64_w, i32_w]; rfl)
    refine take_ (i := 3) (N := some 30) (v := ?_) (a' := ?_) #[true, true, true, true, false, false, true, false, false, false, false] rfl rfl (take_ofW HT_.out HW_.out (by kernel_rfl)) (fun _ _ _ h => h) (Or.inl ⟨by rfl, ?_⟩) hHeld ?_ ?_
    rotate_left; (rintro w' ⟨s0, s1⟩; go_simp; with_reducible rfl); rotate_left; (simp only [Act.put, List.setIfInBounds_toArray, List.set_cons_zero, List.set_cons_succ, i64_w, i32_w]; rfl)
    refine join_ (σ := Value × Value × Nat) 2 #[true, true, true, true, true, true, true, true, true, false, false] (fun s_ => [(31, s_.1), (34, s_.2.1), (5, .pointer (some ⟨s_.2.2, 0, none⟩)), (32, .agg #[.int .i64 a0_0, s_.1])]) (fun s_ w' => (w'.cell? ⟨gb328, 0, none⟩ = some (.int .i64 a0_0) ∧ w'.cell? ⟨gb328, 1, none⟩ = some (.slice A0_1 l0_1.length c0_1)) ∧ (Kd.V (Kd.int .i64) 3 w' w.heap.size (fun k_ => (P1_ k_ ∨ w.heap.size ≤ k_) ∧ some k_ ≠ (.slice Ao22 y329.length co22 : Value).ownBlock ∧ some k_ ≠ (s_.1 : Value).ownBlock ∧ some k_ ≠ (s_.2.1 : Value).ownBlock ∧ k_ ≠ gb328 ∧ k_ ≠ s_.2.2) (.slice A1 l1.length c1) l1) ∧ (Kd.N (Kd.slice 3 (Kd.int .i64)) 25 w' w.heap.size (fun k_ => (P1_ k_ ∨ w.heap.size ≤ k_) ∧ some k_ ≠ (s_.1 : Value).ownBlock ∧ some k_ ≠ (s_.2.1 : Value).ownBlock ∧ k_ ≠ gb328 ∧ k_ ≠ s_.2.2) (.slice Ao22 y329.length co22) y329) ∧ (Kd.R k37 37 w' w.heap.size (fun k_ => (w.heap.size ≤ k_)) s_.1 y334) ∧ (Kd.R (Kd.int .i64) 3 w' w.heap.size (fun k_ => (w.heap.size ≤ k_)) s_.2.1 y337) ∧ (w'.heap[gb328]? = some (.cells #[.int .i64 a0_0, .slice A0_1 l0_1.length c0_1] 24 (0, 0))) ∧ (w'.heap[s_.2.2]? = some (.cells #[.int .i64 0, .slice none 0 0] 24 (0, 0))) ∧ (w.heap.size ≤ s_.2.2) ∧ (w.heap.size ≤ s_.2.2) ∧ (gb328 ≠ s_.2.2) ∧ (s_.2.2 ≠ gb328) ∧ (Below w.heap.size w w')) ?_ ?_
    rotate_left
    ·intro hCont
     refine two_ (i := 4) (j := 8) (Ni := some 31) (Nj := some 5) #[true, true, true, true, true, false, true, false, false, false, false] #[true, true, true, true, false, false, true, false, true, false, false] rfl rfl rfl rfl (two_of HT_.out (by kernel_rfl)) (by decide) (by decide) (fun K hK => ?_) (fun K hK => ?_)
     ·skip
      refine Kd.R_append_rows_step k37 (w0 := w) w.heap.size (by rfl) (.const (.slice none 0 0)) (.tmp 30) 22 37 (.agg #[(.int .i64 0), (.int .i64 0), (.int .i64 0), (.int .i64 0)]) 32 rfl Try.underlying22 info37 rfl (by decide) (by omega) (.slice none 0 0) ([] : List (S37)) l0_1 _ _ _ (fun k_ => (w.heap.size ≤ k_)) (fun _ => False) rfl rfl ?aO ?aR (fun _ _ h => h) (fun _ h => h.elim) ?aF ?aB ?aS ?aL ?_
      (case aR => repeat (first | exact (Kd.C_below HR0_1.out HB.out) | (with_reducible refine Kd.C_alloc ?_ _) | (with_reducible refine Kd.C_drewN ?_ _) | (with_reducible refine Kd.C_drew ?_)))
      (case aB => exact (by repeat (first | (with_reducible first | exact HB.out | apply below_alloc | apply pw_below_drewN | apply below_drew1 | refine below_set ?_ GE328.out) | exact HB.out)))
      (case aF => exact (fun k_ hk => (Nat.le_trans (below_size (by repeat (first | (with_reducible first | exact HB.out | apply below_alloc | apply pw_below_drewN | apply below_drew1 | refine below_set ?_ GE328.out) | exact HB.out))) hk)))
      (case aO => exact ((Kd.R_nil _ _ _ _ (fun k_ => (w.heap.size ≤ k_)))))
      (case aS => exact (below_size (by repeat (first | (with_reducible first | exact HB.out | apply below_alloc | apply pw_below_drewN | apply below_drew1 | refine below_set ?_ GE328.out) | exact HB.out))))
      (case aL => have := LMc13.out; omega)
      intro v335 w25 ho hb hg hat
      rw [← Ny334.out] at ho
      have n0_ := Aside0.mk (Kd.V_afterv (Kd.V_apart_nil (by (with_reducible repeat (first | apply Kd.V_alloc | apply Kd.V_drewN | apply Kd.V_drew)); exact HO1.out)) hg hat)
      have n1_ := Aside0.mk (blk_grown (g := gb328) (o := .cells #[.int .i64 a0_0, .slice A0_1 l0_1.length c0_1] 24 (0, 0)) (by (with_reducible repeat (first | refine blk_drewN ?_ _ | refine blk_drew ?_ | refine blk_alloc ?_ _)); exact BK328.out) hg (by simp [Value.ownBlock]))
      have n2_ := Aside0.mk (Kd.N_afterv (Kd.N_apart_nil (by (with_reducible repeat (first | apply Kd.N_alloc | apply Kd.N_drewN | apply Kd.N_drew)); exact HO331.out)) hg hat)
      have n3_ := Aside0.mk (hb)
      have n4_ := Aside0.mk (ho)
      clear HO1; clear BK328; clear HO331; clear HB
      have HO1 := n0_
      have BK328 := n1_
      have HO331 := n2_
      have HB := n3_
      have HO336 := n4_
      clear n0_ n1_ n2_ n3_ n4_; clear ho hb hg hat
      obtain ⟨Ao26, co26, eo26⟩ := Kd.R_slice HO336.out
      (first | subst eo26 | (injection eo26 with f1_ f2_ f3_; have f4_ := f1_.symm; have f5_ := f3_.symm; clear f1_ f2_ f3_; subst f4_; subst f5_))
      refine hK.out _ _ ⟨(blk_cell BK328.out 0).trans rfl, (blk_cell BK328.out 1).trans rfl⟩ (fun hHeld => ?_)
      clear hK K
      refine norm_ (a' := ?_) ?_ ?_
      rotate_left
      ·show Act.put _ (some 31) _ = _
       simp only [Act.put, List.setIfInBounds_toArray, List.set_cons_zero, List.set_cons_succ, i64_w, i32_w]
       rfl
      refine pure_ (i := 5) (N := some 32) (v := ?_) (a' := ?_) #[true, true, true, true, true, true, true, false, false, false, false] rfl rfl (any_of HT_.out (by kernel_rfl)) (fun _ _ _ h => h) (Or.inl ⟨by rfl, ?_⟩) ?_ ?_
      rotate_left; (intro w'; go_simp; with_reducible rfl); rotate_left; (simp only [Act.put, List.setIfInBounds_toArray, List.set_cons_zero, List.set_cons_succ, i64_w, i32_w]; rfl)
      refine two_ (i := 7) (j := 8) (Ni := some 34) (Nj := some 5) #[true, true, true, true, true, true, true, true, false, false, false] #[true, true, true, true, true, true, true, false, true, false, false] rfl rfl rfl rfl (two_of HT_.out (by kernel_rfl)) (by decide) (by decide) (fun K hK => ?_) (fun K hK => ?_)
      ·skip
       refine Kd.R_append_rows_step (Kd.int .i64) (w0 := w) w.heap.size (by rfl) (.const (.slice none 0 0)) (.tmp 33) 25 3 (.int .i64 0) 8 rfl Try.underlying25 info3 rfl (by decide) (by omega) (.slice none 0 0) ([] : List Int) l1 _ _ _ (fun k_ => (w.heap.size ≤ k_)) (fun _ => False) rfl rfl ?aO ?aR (fun _ _ h => h) (fun _ h => h.elim) ?aF ?aB ?aS ?aL ?_
       (case aR => repeat (first | exact (Kd.V_reads' HO1.out).2.2 | (with_reducible refine Kd.C_alloc ?_ _) | (with_reducible refine Kd.C_drewN ?_ _) | (with_reducible refine Kd.C_drew ?_)))
       (case aB => exact (by repeat (first | (with_reducible first | exact HB.out | apply below_alloc | apply pw_below_drewN | apply below_drew1 | refine below_set ?_ GE328.out) | exact HB.out)))
       (case aF => exact (fun k_ hk => (Nat.le_trans (below_size (by repeat (first | (with_reducible first | exact HB.out | apply below_alloc | apply pw_below_drewN | apply below_drew1 | refine below_set ?_ GE328.out) | exact HB.out))) hk)))
       (case aO => exact ((Kd.R_nil _ _ _ _ (fun k_ => (w.heap.size ≤ k_)))))
       (case aS => exact (below_size (by repeat (first | (with_reducible first | exact HB.out | apply below_alloc | apply pw_below_drewN | apply below_drew1 | refine below_set ?_ GE328.out) | exact HB.out))))
       (case aL => have := LMc14.out; omega)
       intro v338 w27 ho hb hg hat
       rw [← Ny337.out] at ho
       have n0_ := Aside0.mk (Kd.V_afterv (Kd.V_apart_nil (by (with_reducible repeat (first | apply Kd.V_alloc | apply Kd.V_drewN | apply Kd.V_drew)); exact HO1.out)) hg hat)
       have n1_ := Aside0.mk (blk_grown (g := gb328) (o := .cells #[.int .i64 a0_0, .slice A0_1 l0_1.length c0_1] 24 (0, 0)) (by (with_reducible repeat (first | refine blk_drewN ?_ _ | refine blk_drew ?_ | refine blk_alloc ?_ _)); exact BK328.out) hg (by simp [Value.ownBlock]))
       have n2_ := Aside0.mk (Kd.N_afterv (Kd.N_apart_nil (by (with_reducible repeat (first | apply Kd.N_alloc | apply Kd.N_drewN | apply Kd.N_drew)); exact HO331.out)) hg hat)
       have n3_ := Aside0.mk (Kd.R_grown (by (with_reducible repeat (first | apply Kd.R_alloc | apply Kd.R_drewN | apply Kd.R_drew)); exact HO336.out) hg (fun _ _ => by simp [Value.ownBlock]))
       have n4_ := Aside0.mk (hb)
       have n5_ := Aside0.mk (ho)
       clear HO1; clear BK328; clear HO331; clear HO336; clear HB
       have HO1 := n0_
       have BK328 := n1_
       have HO331 := n2_
       have HO336 := n3_
       have HB := n4_
       have HO339 := n5_
       clear n0_ n1_ n2_ n3_ n4_ n5_; clear ho hb hg hat
       refine hK.out _ _ ⟨(blk_cell BK328.out 0).trans rfl, (blk_cell BK328.out 1).trans rfl⟩ (fun hHeld => ?_)
       clear hK K
       refine norm_ (a' := ?_) ?_ ?_
       rotate_left
       ·show Act.put _ (some 34) _ = _
        simp only [Act.put, List.setIfInBounds_toArray, List.set_cons_zero, List.set_cons_succ, i64_w, i32_w]
        rfl
       refine one_ (i := 8) (N := some 5) #[true, true, true, true, true, true, true, true, true, false, false] rfl rfl (one_of HT_.out (by kernel_rfl)) (by decide) (fun K hK => ?_)
       refine box_step ?hg (N := 5) ?hd (cs := #[.int .i64 0, .slice none 0 0]) (t := 24) ?hr ?_; (case hd => rfl); (case hg => rfl); (case hr => first | (go_simp; done) | (go_simp; rfl))
       intro gb340 hg w28 hbox hb
       have n0_ := Aside0.mk (Kd.V_below (Kd.V_elderB (by (with_reducible repeat (first | apply Kd.V_alloc | apply Kd.V_drewN | apply Kd.V_drew)); exact HO1.out) gb340 (Nat.le_of_eq hg.symm)) hb)
       have n1_ := Aside0.mk (Kd.N_below (Kd.N_elderB (by (with_reducible repeat (first | apply Kd.N_alloc | apply Kd.N_drewN | apply Kd.N_drew)); exact HO331.out) gb340 (Nat.le_of_eq hg.symm)) hb)
       have n2_ := Aside0.mk (Kd.R_below (by (with_reducible repeat (first | apply Kd.R_alloc | apply Kd.R_drewN | apply Kd.R_drew)); exact HO336.out) hb)
       have n3_ := Aside0.mk (Kd.R_below (by (with_reducible repeat (first | apply Kd.R_alloc | apply Kd.R_drewN | apply Kd.R_drew)); exact HO339.out) hb)
       have n4_ := Aside0.mk (blk_below (g := gb328) (o := .cells #[.int .i64 a0_0, .slice A0_1 l0_1.length c0_1] 24 (0, 0)) (by (with_reducible repeat (first | refine blk_drewN ?_ _ | refine blk_drew ?_ | refine blk_alloc ?_ _)); exact BK328.out) hb)
       have n5_ := Aside0.mk (below_step (by repeat (first | (with_reducible first | exact HB.out | apply below_alloc | apply pw_below_drewN | apply below_drew1 | refine below_set ?_ GE328.out) | exact HB.out)) hb)
       have n6_ := Aside0.mk (hbox)
       have n7_ := Aside0.mk ((by rw [hg]; exact (below_size (by repeat (first | (with_reducible first | exact HB.out | apply below_alloc | apply pw_below_drewN | apply below_drew1 | refine below_set ?_ GE328.out) | exact HB.out))) : w.heap.size ≤ gb340))
       have n8_ := Aside0.mk ((by rw [hg]; exact (below_size (by repeat (first | (with_reducible first | exact HB.out | apply below_alloc | apply pw_below_drewN | apply below_drew1 | refine below_set ?_ GE328.out) | exact HB.out))) : w.heap.size ≤ gb340))
       have n9_ := Aside0.mk ((by rw [hg]; exact Nat.ne_of_lt (blk_lt (g := gb328) (o := .cells #[.int .i64 a0_0, .slice A0_1 l0_1.length c0_1] 24 (0, 0)) (by (with_reducible repeat (first | refine blk_drewN ?_ _ | refine blk_drew ?_ | refine blk_alloc ?_ _)); exact BK328.out)) : gb328 ≠ gb340))
       have n10_ := Aside0.mk ((by rw [hg]; exact Nat.ne_of_gt (blk_lt (g := gb328) (o := .cells #[.int .i64 a0_0, .slice A0_1 l0_1.length c0_1] 24 (0, 0)) (by (with_reducible repeat (first | refine blk_drewN ?_ _ | refine blk_drew ?_ | refine blk_alloc ?_ _)); exact BK328.out)) : gb340 ≠ gb328))
       clear HO1; clear HO331; clear HO336; clear HO339; clear BK328; clear HB
       have HO1 := n0_
       have HO331 := n1_
       have HO336 := n2_
       have HO339 := n3_
       have BK328 := n4_
       have HB := n5_
       have BK340 := n6_
       have GW340 := n7_
       have GE340 := n8_
       have NB328_340 := n9_
       have NB340_328 := n10_
       clear n0_ n1_ n2_ n3_ n4_ n5_ n6_ n7_ n8_ n9_ n10_; clear hb hbox hg
       refine hK.out _ _ ⟨(blk_cell BK328.out 0).trans rfl, (blk_cell BK328.out 1).trans rfl⟩ (fun hHeld => ?_)
       clear hK K
       refine norm_ (a' := ?_) ?_ ?_
       rotate_left
       ·show Act.put _ (some 5) _ = _
        simp only [Act.put, List.setIfInBounds_toArray, List.set_cons_zero, List.set_cons_succ, i64_w, i32_w]
        rfl
       exact norm_ (by simp only [putAll, Act.put, List.setIfInBounds_toArray, List.set_cons_zero, List.set_cons_succ]) (hCont (.slice Ao26 y334.length co26, v338, gb340) _ ⟨hHeld, (by (with_reducible repeat (first | apply Kd.V_alloc | apply Kd.V_drewN | apply Kd.V_drew)); exact Kd.V_mono HO1.out (fun _ hk => ⟨hk.1.1.1.1.1, ⟨hk.1.1.1.2, ⟨hk.1.1.2, ⟨hk.1.2, ⟨hk.1.1.1.1.2, hk.2⟩⟩⟩⟩⟩)), (by (with_reducible repeat (first | apply Kd.N_alloc | apply Kd.N_drewN | apply Kd.N_drew)); exact Kd.N_mono HO331.out (fun _ hk => ⟨hk.1.1.1.1, ⟨hk.1.1.2, ⟨hk.1.2, ⟨hk.1.1.1.2, hk.2⟩⟩⟩⟩)), (by (with_reducible repeat (first | apply Kd.R_alloc | apply Kd.R_drewN | apply Kd.R_drew)); exact HO336.out), (by (with_reducible repeat (first | apply Kd.R_alloc | apply Kd.R_drewN | apply Kd.R_drew)); exact HO339.out), (by (with_reducible repeat (first | refine blk_drewN ?_ _ | refine blk_drew ?_ | refine blk_alloc ?_ _)); exact BK328.out), (by (with_reducible repeat (first | refine blk_drewN ?_ _ | refine blk_drew ?_ | refine blk_alloc ?_ _)); exact BK340.out), GW340.out, GE340.out, NB328_340.out, NB340_328.out, (by repeat (first | (with_reducible first | exact HB.out | apply below_alloc | apply pw_below_drewN | apply below_drew1 | refine below_set ?_ GE328.out | refine below_set ?_ GE340.out) | exact HB.out))⟩)
      ·skip
       refine box_step ?hg (N := 5) ?hd (cs := #[.int .i64 0, .slice none 0 0]) (t := 24) ?hr ?_; (case hd => rfl); (case hg => rfl); (case hr => first | (go_simp; done) | (go_simp; rfl))
       intro gb340 hg w27 hbox hb
       have n0_ := Aside0.mk (Kd.V_below (Kd.V_elderB (by (with_reducible repeat (first | apply Kd.V_alloc | apply Kd.V_drewN | apply Kd.V_drew)); exact HO1.out) gb340 (Nat.le_of_eq hg.symm)) hb)
       have n1_ := Aside0.mk (Kd.N_below (Kd.N_elderB (by (with_reducible repeat (first | apply Kd.N_alloc | apply Kd.N_drewN | apply Kd.N_drew)); exact HO331.out) gb340 (Nat.le_of_eq hg.symm)) hb)
       have n2_ := Aside0.mk (Kd.R_below (by (with_reducible repeat (first | apply Kd.R_alloc | apply Kd.R_drewN | apply Kd.R_drew)); exact HO336.out) hb)
       have n3_ := Aside0.mk (blk_below (g := gb328) (o := .cells #[.int .i64 a0_0, .slice A0_1 l0_1.length c0_1] 24 (0, 0)) (by (with_reducible repeat (first | refine blk_drewN ?_ _ | refine blk_drew ?_ | refine blk_alloc ?_ _)); exact BK328.out) hb)
       have n4_ := Aside0.mk (below_step (by repeat (first | (with_reducible first | exact HB.out | apply below_alloc | apply pw_below_drewN | apply below_drew1 | refine below_set ?_ GE328.out) | exact HB.out)) hb)
       have n5_ := Aside0.mk (hbox)
       have n6_ := Aside0.mk ((by rw [hg]; exact (below_size (by repeat (first | (with_reducible first | exact HB.out | apply below_alloc | apply pw_below_drewN | apply below_drew1 | refine below_set ?_ GE328.out) | exact HB.out))) : w.heap.size ≤ gb340))
       have n7_ := Aside0.mk ((by rw [hg]; exact (below_size (by repeat (first | (with_reducible first | exact HB.out | apply below_alloc | apply pw_below_drewN | apply below_drew1 | refine below_set ?_ GE328.out) | exact HB.out))) : w.heap.size ≤ gb340))
       have n8_ := Aside0.mk ((by rw [hg]; exact Nat.ne_of_lt (blk_lt (g := gb328) (o := .cells #[.int .i64 a0_0, .slice A0_1 l0_1.length c0_1] 24 (0, 0)) (by (with_reducible repeat (first | refine blk_drewN ?_ _ | refine blk_drew ?_ | refine blk_alloc ?_ _)); exact BK328.out)) : gb328 ≠ gb340))
       have n9_ := Aside0.mk ((by rw [hg]; exact Nat.ne_of_gt (blk_lt (g := gb328) (o := .cells #[.int .i64 a0_0, .slice A0_1 l0_1.length c0_1] 24 (0, 0)) (by (with_reducible repeat (first | refine blk_drewN ?_ _ | refine blk_drew ?_ | refine blk_alloc ?_ _)); exact BK328.out)) : gb340 ≠ gb328))
       clear HO1; clear HO331; clear HO336; clear BK328; clear HB
       have HO1 := n0_
       have HO331 := n1_
       have HO336 := n2_
       have BK328 := n3_
       have HB := n4_
       have BK340 := n5_
       have GW340 := n6_
       have GE340 := n7_
       have NB328_340 := n8_
       have NB340_328 := n9_
       clear n0_ n1_ n2_ n3_ n4_ n5_ n6_ n7_ n8_ n9_; clear hb hbox hg
       refine hK.out _ _ ⟨(blk_cell BK328.out 0).trans rfl, (blk_cell BK328.out 1).trans rfl⟩ (fun hHeld => ?_)
       clear hK K
       refine norm_ (a' := ?_) ?_ ?_
       rotate_left
       ·show Act.put _ (some 5) _ = _
        simp only [Act.put, List.setIfInBounds_toArray, List.set_cons_zero, List.set_cons_succ, i64_w, i32_w]
        rfl
       refine one_ (i := 7) (N := some 34) #[true, true, true, true, true, true, true, true, true, false, false] rfl rfl (one_of HT_.out (by kernel_rfl)) (by decide) (fun K hK => ?_)
       refine Kd.R_append_rows_step (Kd.int .i64) (w0 := w) w.heap.size (by rfl) (.const (.slice none 0 0)) (.tmp 33) 25 3 (.int .i64 0) 8 rfl Try.underlying25 info3 rfl (by decide) (by omega) (.slice none 0 0) ([] : List Int) l1 _ _ _ (fun k_ => (w.heap.size ≤ k_)) (fun _ => False) rfl rfl ?aO ?aR (fun _ _ h => h) (fun _ h => h.elim) ?aF ?aB ?aS ?aL ?_
       (case aR => repeat (first | exact (Kd.V_reads' HO1.out).2.2 | (with_reducible refine Kd.C_alloc ?_ _) | (with_reducible refine Kd.C_drewN ?_ _) | (with_reducible refine Kd.C_drew ?_)))
       (case aB => exact (by repeat (first | (with_reducible first | exact HB.out | apply below_alloc | apply pw_below_drewN | apply below_drew1 | refine below_set ?_ GE328.out | refine below_set ?_ GE340.out) | exact HB.out)))
       (case aF => exact (fun k_ hk => (Nat.le_trans (below_size (by repeat (first | (with_reducible first | exact HB.out | apply below_alloc | apply pw_below_drewN | apply below_drew1 | refine below_set ?_ GE328.out | refine below_set ?_ GE340.out) | exact HB.out))) hk)))
       (case aO => exact ((Kd.R_nil _ _ _ _ (fun k_ => (w.heap.size ≤ k_)))))
       (case aS => exact (below_size (by repeat (first | (with_reducible first | exact HB.out | apply below_alloc | apply pw_below_drewN | apply below_drew1 | refine below_set ?_ GE328.out | refine below_set ?_ GE340.out) | exact HB.out))))
       (case aL => have := LMc14.out; omega)
       intro v338 w28 ho hb hg hat
       rw [← Ny337.out] at ho
       have n0_ := Aside0.mk (Kd.V_afterv (Kd.V_apart_nil (by (with_reducible repeat (first | apply Kd.V_alloc | apply Kd.V_drewN | apply Kd.V_drew)); exact HO1.out)) hg hat)
       have n1_ := Aside0.mk (blk_grown (g := gb328) (o := .cells #[.int .i64 a0_0, .slice A0_1 l0_1.length c0_1] 24 (0, 0)) (by (with_reducible repeat (first | refine blk_drewN ?_ _ | refine blk_drew ?_ | refine blk_alloc ?_ _)); exact BK328.out) hg (by simp [Value.ownBlock]))
       have n2_ := Aside0.mk (Kd.N_afterv (Kd.N_apart_nil (by (with_reducible repeat (first | apply Kd.N_alloc | apply Kd.N_drewN | apply Kd.N_drew)); exact HO331.out)) hg hat)
       have n3_ := Aside0.mk (Kd.R_grown (by (with_reducible repeat (first | apply Kd.R_alloc | apply Kd.R_drewN | apply Kd.R_drew)); exact HO336.out) hg (fun _ _ => by simp [Value.ownBlock]))
       have n4_ := Aside0.mk (blk_grown (g := gb340) (o := .cells #[.int .i64 0, .slice none 0 0] 24 (0, 0)) (by (with_reducible repeat (first | refine blk_drewN ?_ _ | refine blk_drew ?_ | refine blk_alloc ?_ _)); exact BK340.out) hg (by simp [Value.ownBlock]))
       have n5_ := Aside0.mk (hb)
       have n6_ := Aside0.mk (ho)
       clear HO1; clear BK328; clear HO331; clear HO336; clear BK340; clear HB
       have HO1 := n0_
       have BK328 := n1_
       have HO331 := n2_
       have HO336 := n3_
       have BK340 := n4_
       have HB := n5_
       have HO339 := n6_
       clear n0_ n1_ n2_ n3_ n4_ n5_ n6_; clear ho hb hg hat
       refine hK.out _ _ ⟨(blk_cell BK328.out 0).trans rfl, (blk_cell BK328.out 1).trans rfl⟩ (fun hHeld => ?_)
       clear hK K
       refine norm_ (a' := ?_) ?_ ?_
       rotate_left
       ·show Act.put _ (some 34) _ = _
        simp only [Act.put, List.setIfInBounds_toArray, List.set_cons_zero, List.set_cons_succ, i64_w, i32_w]
        rfl
       exact norm_ (by simp only [putAll, Act.put, List.setIfInBounds_toArray, List.set_cons_zero, List.set_cons_succ]) (hCont (.slice Ao26 y334.length co26, v338, gb340) _ ⟨hHeld, (by (with_reducible repeat (first | apply Kd.V_alloc | apply Kd.V_drewN | apply Kd.V_drew)); exact Kd.V_mono HO1.out (fun _ hk => ⟨hk.1.1.1.1.1, ⟨hk.1.1.1.2, ⟨hk.1.1.2, ⟨hk.2, ⟨hk.1.1.1.1.2, hk.1.2⟩⟩⟩⟩⟩)), (by (with_reducible repeat (first | apply Kd.N_alloc | apply Kd.N_drewN | apply Kd.N_drew)); exact Kd.N_mono HO331.out (fun _ hk => ⟨hk.1.1.1.1, ⟨hk.1.1.2, ⟨hk.2, ⟨hk.1.1.1.2, hk.1.2⟩⟩⟩⟩)), (by (with_reducible repeat (first | apply Kd.R_alloc | apply Kd.R_drewN | apply Kd.R_drew)); exact HO336.out), (by (with_reducible repeat (first | apply Kd.R_alloc | apply Kd.R_drewN | apply Kd.R_drew)); exact HO339.out), (by (with_reducible repeat (first | refine blk_drewN ?_ _ | refine blk_drew ?_ | refine blk_alloc ?_ _)); exact BK328.out), (by (with_reducible repeat (first | refine blk_drewN ?_ _ | refine blk_drew ?_ | refine blk_alloc ?_ _)); exact BK340.out), GW340.out, GE340.out, NB328_340.out, NB340_328.out, (by repeat (first | (with_reducible first | exact HB.out | apply below_alloc | apply pw_below_drewN | apply below_drew1 | refine below_set ?_ GE328.out | refine below_set ?_ GE340.out) | exact HB.out))⟩)
     ·skip
      refine box_step ?hg (N := 5) ?hd (cs := #[.int .i64 0, .slice none 0 0]) (t := 24) ?hr ?_; (case hd => rfl); (case hg => rfl); (case hr => first | (go_simp; done) | (go_simp; rfl))
      intro gb340 hg w25 hbox hb
      have n0_ := Aside0.mk (Kd.V_below (Kd.V_elderB (by (with_reducible repeat (first | apply Kd.V_alloc | apply Kd.V_drewN | apply Kd.V_drew)); exact HO1.out) gb340 (Nat.le_of_eq hg.symm)) hb)
      have n1_ := Aside0.mk (Kd.N_below (Kd.N_elderB (by (with_reducible repeat (first | apply Kd.N_alloc | apply Kd.N_drewN | apply Kd.N_drew)); exact HO331.out) gb340 (Nat.le_of_eq hg.symm)) hb)
      have n2_ := Aside0.mk (blk_below (g := gb328) (o := .cells #[.int .i64 a0_0, .slice A0_1 l0_1.length c0_1] 24 (0, 0)) (by (with_reducible repeat (first | refine blk_drewN ?_ _ | refine blk_drew ?_ | refine blk_alloc ?_ _)); exact BK328.out) hb)
      have n3_ := Aside0.mk (below_step (by repeat (first | (with_reducible first | exact HB.out | apply below_alloc | apply pw_below_drewN | apply below_drew1 | refine below_set ?_ GE328.out) | exact HB.out)) hb)
      have n4_ := Aside0.mk (hbox)
      have n5_ := Aside0.mk ((by rw [hg]; exact (below_size (by repeat (first | (with_reducible first | exact HB.out | apply below_alloc | apply pw_below_drewN | apply below_drew1 | refine below_set ?_ GE328.out) | exact HB.out))) : w.heap.size ≤ gb340))
      have n6_ := Aside0.mk ((by rw [hg]; exact (below_size (by repeat (first | (with_reducible first | exact HB.out | apply below_alloc | apply pw_below_drewN | apply below_drew1 | refine below_set ?_ GE328.out) | exact HB.out))) : w.heap.size ≤ gb340))
      have n7_ := Aside0.mk ((by rw [hg]; exact Nat.ne_of_lt (blk_lt (g := gb328) (o := .cells #[.int .i64 a0_0, .slice A0_1 l0_1.length c0_1] 24 (0, 0)) (by (with_reducible repeat (first | refine blk_drewN ?_ _ | refine blk_drew ?_ | refine blk_alloc ?_ _)); exact BK328.out)) : gb328 ≠ gb340))
      have n8_ := Aside0.mk ((by rw [hg]; exact Nat.ne_of_gt (blk_lt (g := gb328) (o := .cells #[.int .i64 a0_0, .slice A0_1 l0_1.length c0_1] 24 (0, 0)) (by (with_reducible repeat (first | refine blk_drewN ?_ _ | refine blk_drew ?_ | refine blk_alloc ?_ _)); exact BK328.out)) : gb340 ≠ gb328))
      clear HO1; clear HO331; clear BK328; clear HB
      have HO1 := n0_
      have HO331 := n1_
      have BK328 := n2_
      have HB := n3_
      have BK340 := n4_
      have GW340 := n5_
      have GE340 := n6_
      have NB328_340 := n7_
      have NB340_328 := n8_
      clear n0_ n1_ n2_ n3_ n4_ n5_ n6_ n7_ n8_; clear hb hbox hg
      refine hK.out _ _ ⟨(blk_cell BK328.out 0).trans rfl, (blk_cell BK328.out 1).trans rfl⟩ (fun hHeld => ?_)
      clear hK K
      refine norm_ (a' := ?_) ?_ ?_
      rotate_left
      ·show Act.put _ (some 5) _ = _
       simp only [Act.put, List.setIfInBounds_toArray, List.set_cons_zero, List.set_cons_succ, i64_w, i32_w]
       rfl
      refine one_ (i := 4) (N := some 31) #[true, true, true, true, true, false, true, false, true, false, false] rfl rfl (one_of HT_.out (by kernel_rfl)) (by decide) (fun K hK => ?_)
      refine Kd.R_append_rows_step k37 (w0 := w) w.heap.size (by rfl) (.const (.slice none 0 0)) (.tmp 30) 22 37 (.agg #[(.int .i64 0), (.int .i64 0), (.int .i64 0), (.int .i64 0)]) 32 rfl Try.underlying22 info37 rfl (by decide) (by omega) (.slice none 0 0) ([] : List (S37)) l0_1 _ _ _ (fun k_ => (w.heap.size ≤ k_)) (fun _ => False) rfl rfl ?aO ?aR (fun _ _ h => h) (fun _ h => h.elim) ?aF ?aB ?aS ?aL ?_
      (case aR => repeat (first | exact (Kd.C_below HR0_1.out HB.out) | (with_reducible refine Kd.C_alloc ?_ _) | (with_reducible refine Kd.C_drewN ?_ _) | (with_reducible refine Kd.C_drew ?_)))
      (case aB => exact (by repeat (first | (with_reducible first | exact HB.out | apply below_alloc | apply pw_below_drewN | apply below_drew1 | refine below_set ?_ GE328.out | refine below_set ?_ GE340.out) | exact HB.out)))
      (case aF => exact (fun k_ hk => (Nat.le_trans (below_size (by repeat (first | (with_reducible first | exact HB.out | apply below_alloc | apply pw_below_drewN | apply below_drew1 | refine below_set ?_ GE328.out | refine below_set ?_ GE340.out) | exact HB.out))) hk)))
      (case aO => exact ((Kd.R_nil _ _ _ _ (fun k_ => (w.heap.size ≤ k_)))))
      (case aS => exact (below_size (by repeat (first | (with_reducible first | exact HB.out | apply below_alloc | apply pw_below_drewN | apply below_drew1 | refine below_set ?_ GE328.out | refine below_set ?_ GE340.out) | exact HB.out))))
      (case aL => have := LMc13.out; omega)
      intro v335 w26 ho hb hg hat
      rw [← Ny334.out] at ho
      have n0_ := Aside0.mk (Kd.V_afterv (Kd.V_apart_nil (by (with_reducible repeat (first | apply Kd.V_alloc | apply Kd.V_drewN | apply Kd.V_drew)); exact HO1.out)) hg hat)
      have n1_ := Aside0.mk (blk_grown (g := gb328) (o := .cells #[.int .i64 a0_0, .slice A0_1 l0_1.length c0_1] 24 (0, 0)) (by (with_reducible repeat (first | refine blk_drewN ?_ _ | refine blk_drew ?_ | refine blk_alloc ?_ _)); exact BK328.out) hg (by simp [Value.ownBlock]))
      have n2_ := Aside0.mk (Kd.N_afterv (Kd.N_apart_nil (by (with_reducible repeat (first | apply Kd.N_alloc | apply Kd.N_drewN | apply Kd.N_drew)); exact HO331.out)) hg hat)
      have n3_ := Aside0.mk (blk_grown (g := gb340) (o := .cells #[.int .i64 0, .slice none 0 0] 24 (0, 0)) (by (with_reducible repeat (first | refine blk_drewN ?_ _ | refine blk_drew ?_ | refine blk_alloc ?_ _)); exact BK340.out) hg (by simp [Value.ownBlock]))
      have n4_ := Aside0.mk (hb)
      have n5_ := Aside0.mk (ho)
      clear HO1; clear BK328; clear HO331; clear BK340; clear HB
      have HO1 := n0_
      have BK328 := n1_
      have HO331 := n2_
      have BK340 := n3_
      have HB := n4_
      have HO336 := n5_
      clear n0_ n1_ n2_ n3_ n4_ n5_; clear ho hb hg hat
      obtain ⟨Ao27, co27, eo27⟩ := Kd.R_slice HO336.out
      (first | subst eo27 | (injection eo27 with f1_ f2_ f3_; have f4_ := f1_.symm; have f5_ := f3_.symm; clear f1_ f2_ f3_; subst f4_; subst f5_))
      refine hK.out _ _ ⟨(blk_cell BK328.out 0).trans rfl, (blk_cell BK328.out 1).trans rfl⟩ (fun hHeld => ?_)
      clear hK K
      refine norm_ (a' := ?_) ?_ ?_
      rotate_left
      ·show Act.put _ (some 31) _ = _
       simp only [Act.put, List.setIfInBounds_toArray, List.set_cons_zero, List.set_cons_succ, i64_w, i32_w]
       rfl
      refine pure_ (i := 5) (N := some 32) (v := ?_) (a' := ?_) #[true, true, true, true, true, true, true, false, true, false, false] rfl rfl (any_of HT_.out (by kernel_rfl)) (fun _ _ _ h => h) (Or.inl ⟨by rfl, ?_⟩) ?_ ?_
      rotate_left; (intro w'; go_simp; with_reducible rfl); rotate_left; (simp only [Act.put, List.setIfInBounds_toArray, List.set_cons_zero, List.set_cons_succ, i64_w, i32_w]; rfl)
      refine one_ (i := 7) (N := some 34) #[true, true, true, true, true, true, true, true, true, false, false] rfl rfl (one_of HT_.out (by kernel_rfl)) (by decide) (fun K hK => ?_)
      refine Kd.R_append_rows_step (Kd.int .i64) (w0 := w) w.heap.size (by rfl) (.const (.slice none 0 0)) (.tmp 33) 25 3 (.int .i64 0) 8 rfl Try.underlying25 info3 rfl (by decide) (by omega) (.slice none 0 0) ([] : List Int) l1 _ _ _ (fun k_ => (w.heap.size ≤ k_)) (fun _ => False) rfl rfl ?aO ?aR (fun _ _ h => h) (fun _ h => h.elim) ?aF ?aB ?aS ?aL ?_
      (case aR => repeat (first | exact (Kd.V_reads' HO1.out).2.2 | (with_reducible refine Kd.C_alloc ?_ _) | (with_reducible refine Kd.C_drewN ?_ _) | (with_reducible refine Kd.C_drew ?_)))
      (case aB => exact (by repeat (first | (with_reducible first | exact HB.out | apply below_alloc | apply pw_below_drewN | apply below_drew1 | refine below_set ?_ GE328.out | refine below_set ?_ GE340.out) | exact HB.out)))
      (case aF => exact (fun k_ hk => (Nat.le_trans (below_size (by repeat (first | (with_reducible first | exact HB.out | apply below_alloc | apply pw_below_drewN | apply below_drew1 | refine below_set ?_ GE328.out | refine below_set ?_ GE340.out) | exact HB.out))) hk)))
      (case aO => exact ((Kd.R_nil _ _ _ _ (fun k_ => (w.heap.size ≤ k_)))))
      (case aS => exact (below_size (by repeat (first | (with_reducible first | exact HB.out | apply below_alloc | apply pw_below_drewN | apply below_drew1 | refine below_set ?_ GE328.out | refine below_set ?_ GE340.out) | exact HB.out))))
      (case aL => have := LMc14.out; omega)
      intro v338 w28 ho hb hg hat
      rw [← Ny337.out] at ho
      have n0_ := Aside0.mk (Kd.V_afterv (Kd.V_apart_nil (by (with_reducible repeat (first | apply Kd.V_alloc | apply Kd.V_drewN | apply Kd.V_drew)); exact HO1.out)) hg hat)
      have n1_ := Aside0.mk (blk_grown (g := gb328) (o := .cells #[.int .i64 a0_0, .slice A0_1 l0_1.length c0_1] 24 (0, 0)) (by (with_reducible repeat (first | refine blk_drewN ?_ _ | refine blk_drew ?_ | refine blk_alloc ?_ _)); exact BK328.out) hg (by simp [Value.ownBlock]))
      have n2_ := Aside0.mk (Kd.N_afterv (Kd.N_apart_nil (by (with_reducible repeat (first | apply Kd.N_alloc | apply Kd.N_drewN | apply Kd.N_drew)); exact HO331.out)) hg hat)
      have n3_ := Aside0.mk (blk_grown (g := gb340) (o := .cells #[.int .i64 0, .slice none 0 0] 24 (0, 0)) (by (with_reducible repeat (first | refine blk_drewN ?_ _ | refine blk_drew ?_ | refine blk_alloc ?_ _)); exact BK340.out) hg (by simp [Value.ownBlock]))
      have n4_ := Aside0.mk (Kd.R_grown (by (with_reducible repeat (first | apply Kd.R_alloc | apply Kd.R_drewN | apply Kd.R_drew)); exact HO336.out) hg (fun _ _ => by simp [Value.ownBlock]))
      have n5_ := Aside0.mk (hb)
      have n6_ := Aside0.mk (ho)
      clear HO1; clear BK328; clear HO331; clear BK340; clear HO336; clear HB
      have HO1 := n0_
      have BK328 := n1_
      have HO331 := n2_
      have BK340 := n3_
      have HO336 := n4_
      have HB := n5_
      have HO339 := n6_
      clear n0_ n1_ n2_ n3_ n4_ n5_ n6_; clear ho hb hg hat
      refine hK.out _ _ ⟨(blk_cell BK328.out 0).trans rfl, (blk_cell BK328.out 1).trans rfl⟩ (fun hHeld => ?_)
      clear hK K
      refine norm_ (a' := ?_) ?_ ?_
      rotate_left
      ·show Act.put _ (some 34) _ = _
       simp only [Act.put, List.setIfInBounds_toArray, List.set_cons_zero, List.set_cons_succ, i64_w, i32_w]
       rfl
      exact norm_ (by simp only [putAll, Act.put, List.setIfInBounds_toArray, List.set_cons_zero, List.set_cons_succ]) (hCont (.slice Ao27 y334.length co27, v338, gb340) _ ⟨hHeld, (by (with_reducible repeat (first | apply Kd.V_alloc | apply Kd.V_drewN | apply Kd.V_drew)); exact Kd.V_mono HO1.out (fun _ hk => ⟨hk.1.1.1.1.1, ⟨hk.1.1.1.2, ⟨hk.1.2, ⟨hk.2, ⟨hk.1.1.1.1.2, hk.1.1.2⟩⟩⟩⟩⟩)), (by (with_reducible repeat (first | apply Kd.N_alloc | apply Kd.N_drewN | apply Kd.N_drew)); exact Kd.N_mono HO331.out (fun _ hk => ⟨hk.1.1.1.1, ⟨hk.1.2, ⟨hk.2, ⟨hk.1.1.1.2, hk.1.1.2⟩⟩⟩⟩)), (by (with_reducible repeat (first | apply Kd.R_alloc | apply Kd.R_drewN | apply Kd.R_drew)); exact HO336.out), (by (with_reducible repeat (first | apply Kd.R_alloc | apply Kd.R_drewN | apply Kd.R_drew)); exact HO339.out), (by (with_reducible repeat (first | refine blk_drewN ?_ _ | refine blk_drew ?_ | refine blk_alloc ?_ _)); exact BK328.out), (by (with_reducible repeat (first | refine blk_drewN ?_ _ | refine blk_drew ?_ | refine blk_alloc ?_ _)); exact BK340.out), GW340.out, GE340.out, NB328_340.out, NB340_328.out, (by repeat (first | (with_reducible first | exact HB.out | apply below_alloc | apply pw_below_drewN | apply below_drew1 | refine below_set ?_ GE328.out | refine below_set ?_ GE340.out) | exact HB.out))⟩)
    rintro ⟨v335, v338, gb340⟩ w29 ⟨hS_, h0_, h1_, h2_, h3_, h4_, h5_, h6_, h7_, h8_, h9_, h10_⟩
    have n0_ : Aside0 (Kd.V (Kd.int .i64) 3 w29 w.heap.size (fun k_ => (P1_ k_ ∨ w.heap.size ≤ k_) ∧ some k_ ≠ (.slice Ao22 y329.length co22 : Value).ownBlock ∧ some k_ ≠ (v335 : Value).ownBlock ∧ some k_ ≠ (v338 : Value).ownBlock ∧ k_ ≠ gb328 ∧ k_ ≠ gb340) (.slice A1 l1.length c1) l1) := ⟨h0_⟩
    have n1_ : Aside0 (Kd.N (Kd.slice 3 (Kd.int .i64)) 25 w29 w.heap.size (fun k_ => (P1_ k_ ∨ w.heap.size ≤ k_) ∧ some k_ ≠ (v335 : Value).ownBlock ∧ some k_ ≠ (v338 : Value).ownBlock ∧ k_ ≠ gb328 ∧ k_ ≠ gb340) (.slice Ao22 y329.length co22) y329) := ⟨h1_⟩
    have n2_ : Aside0 (Kd.R k37 37 w29 w.heap.size (fun k_ => (w.heap.size ≤ k_)) v335 y334) := ⟨h2_⟩
    have n3_ : Aside0 (Kd.R (Kd.int .i64) 3 w29 w.heap.size (fun k_ => (w.heap.size ≤ k_)) v338 y337) := ⟨h3_⟩
    have n4_ : Aside0 (w29.heap[gb328]? = some (.cells #[.int .i64 a0_0, .slice A0_1 l0_1.length c0_1] 24 (0, 0))) := ⟨h4_⟩
    have n5_ : Aside0 (w29.heap[gb340]? = some (.cells #[.int .i64 0, .slice none 0 0] 24 (0, 0))) := ⟨h5_⟩
    have n6_ : Aside0 (w.heap.size ≤ gb340) := ⟨h6_⟩
    have n7_ : Aside0 (w.heap.size ≤ gb340) := ⟨h7_⟩
    have n8_ : Aside0 (gb328 ≠ gb340) := ⟨h8_⟩
    have n9_ : Aside0 (gb340 ≠ gb328) := ⟨h9_⟩
    have n10_ : Aside0 (Below w.heap.size w w29) := ⟨h10_⟩
    clear HO1; clear HO331; clear BK328; clear HB; clear h0_ h1_ h2_ h3_ h4_ h5_ h6_ h7_ h8_ h9_ h10_
    have HO1 := n0_
    have HO331 := n1_
    have HO336 := n2_
    have HO339 := n3_
    have BK328 := n4_
    have BK340 := n5_
    have GW340 := n6_
    have GE340 := n7_
    have NB328_340 := n8_
    have NB340_328 := n9_
    have HB := n10_
    clear n0_ n1_ n2_ n3_ n4_ n5_ n6_ n7_ n8_ n9_ n10_
    have hHeld : w29.cell? ⟨gb328, 0, none⟩ = some (.int .i64 a0_0) ∧ w29.cell? ⟨gb328, 1, none⟩ = some (.slice A0_1 l0_1.length c0_1) := hS_
    obtain ⟨Ao30, co30, eo30⟩ := Kd.R_slice HO336.out
    (first | subst eo30 | (injection eo30 with f1_ f2_ f3_; have f4_ := f1_.symm; have f5_ := f3_.symm; clear f1_ f2_ f3_; subst f4_; subst f5_))
    refine norm_ (a' := ?_) ?_ ?_
    rotate_left
    ·simp only [putAll, Act.put, List.setIfInBounds_toArray, List.set_cons_zero, List.set_cons_succ]
     rfl
    refine one_ (i := 9) (N := none) #[true, true, true, true, true, true, true, true, true, true, false] rfl rfl (one_of HT_.out (by kernel_rfl)) (by decide) (fun K hK => ?_)
    have hs31 : w29.cell? ⟨gb340, 0, none⟩ = some (.int .i64 0) := (blk_cell BK340.out 0).trans rfl
    have hfs31 := blk_frozen BK340.out 0
    have hns31_0 := NB328_340.out
    have hms31_0 := NB340_328.out
    have hs32 : w29.cell? ⟨gb340, 1, none⟩ = some (.slice none 0 0) := (blk_cell BK340.out 1).trans rfl
    have hfs32 := blk_frozen BK340.out 1
    have hns32_0 := NB328_340.out
    have hms32_0 := NB340_328.out
    refine skip_ (w1 := ?_) (by rfl) rfl ?_ ?_
    rotate_left
    ·go_simp
     rfl
    refine hK.out _ _ ⟨((cell_far (p := ⟨gb340, _, none⟩) NB328_340.out _).trans (((cell_far (p := ⟨gb340, _, none⟩) NB328_340.out _).trans (hHeld.1)))), ((cell_far (p := ⟨gb340, _, none⟩) NB328_340.out _).trans (((cell_far (p := ⟨gb340, _, none⟩) NB328_340.out _).trans (hHeld.2))))⟩ (fun hHeld => ?_)
    clear hK K
    refine pure_ (i := 10) (N := some 6) (v := ?_) (a' := ?_) #[true, true, true, true, true, true, true, true, true, true, true] rfl rfl (any_of HT_.out (by kernel_rfl)) (fun _ _ _ h => h) (Or.inl ⟨by rfl, ?_⟩) ?_ ?_
    rotate_left; (intro w'; go_simp; with_reducible rfl); rotate_left; (simp only [Act.put, List.setIfInBounds_toArray, List.set_cons_zero, List.set_cons_succ, i64_w, i32_w]; rfl)
    refine done_ (done_of HT_.out (by kernel_rfl)) ?_
    have hnb33 := NB328_340.out
    have hnc33 := NB340_328.out
    have hcz34_0 : w29.cell? ⟨gb328, 0, none⟩ = some (.int .i64 a0_0) := (blk_cell BK328.out 0).trans rfl
    have hcz34_1 : w29.cell? ⟨gb328, 1, none⟩ = some (.slice A0_1 l0_1.length c0_1) := (blk_cell BK328.out 1).trans rfl
    have hfz34_0 := blk_frozen BK328.out 0
    have hfz34_1 := blk_frozen BK328.out 1
    try go_wp2_with (first | ((with_reducible refine gate_callee (f := 38) rfl ?_); refine goesL_ (some 38) rfl rfl Try.func38 (by kernel_rfl) rfl #[.agg #[.int .i64 a0_0, .slice A0_1 l0_1.length c0_1], .slice A1 l1.length c1] rfl (by (try simp only [List.map_toArray, List.map_cons, List.map_nil]); first | done | rfl | (simp only [List.length_drop, List.length_take]; rfl)) ?_; (with_reducible refine (pylonref15_Of.calls k a0_0 _ _ l0_1 _ _ l1 t341 t344 _ ?side1 ?side2 ?side3 ?side4 A15.out).mono ?_); (case side1 => exact Kd.C_below HR0_1.out (by repeat (first | (with_reducible first | exact HB.out | apply below_alloc | apply pw_below_drewN | apply below_drew1 | refine below_set ?_ GE328.out | refine below_set ?_ GE340.out) | exact HB.out))); (case side2 => exact HC0_1.out); (case side3 => refine (Kd.V_reads' (e := 3) (base := w.heap.size) (ok := fun k_ => ((P1_ k_ ∨ w.heap.size ≤ k_) ∧ (some k_ ≠ (.slice Ao22 y329.length co22 : Value).ownBlock ∧ (some k_ ≠ (.slice Ao30 y334.length co30 : Value).ownBlock ∧ (some k_ ≠ (v338 : Value).ownBlock ∧ (k_ ≠ gb328 ∧ k_ ≠ gb340)))))) (n := l1.length) (c := c1) ?_).2.2; exact (by (with_reducible repeat (first | apply Kd.V_alloc | apply Kd.V_drewN | apply Kd.V_drew)); exact (Kd.V_mono (Kd.V_far (p := ⟨gb340, 1, none⟩) (Kd.V_far (p := ⟨gb340, 0, none⟩) (Kd.V_mono HO1.out (fun k_ hk => (⟨hk, hk.2.2.2.2.2⟩ : _ ∧ k_ ≠ gb340))) (fun _ hk => hk.2) (.int .i64 a0_0)) (fun _ hk => hk.2) (.slice Ao30 y334.length co30)) (fun _ h_ => h_.1)))); (case side4 => exact (Kd.V_reads' HO1.out).2.1); rintro e w35 ⟨v342, rfl, ho0, hb⟩; refine ⟨_, rfl, ?_⟩; have n0_ := Aside0.mk (Kd.V_elder' (by (with_reducible repeat (first | apply Kd.V_alloc | apply Kd.V_drewN | apply Kd.V_drew)); exact (Kd.V_mono (Kd.V_far (p := ⟨gb340, 1, none⟩) (Kd.V_far (p := ⟨gb340, 0, none⟩) (Kd.V_mono HO1.out (fun k_ hk => (⟨hk, hk.2.2.2.2.2⟩ : _ ∧ k_ ≠ gb340))) (fun _ hk => hk.2) (.int .i64 a0_0)) (fun _ hk => hk.2) (.slice Ao30 y334.length co30)) (fun _ h_ => h_.1))) (Kd.R_base ho0) hb); have n1_ := Aside0.mk (Kd.N_elder' (by (with_reducible repeat (first | apply Kd.N_alloc | apply Kd.N_drewN | apply Kd.N_drew)); exact (Kd.N_mono (Kd.N_far (p := ⟨gb340, 1, none⟩) (Kd.N_far (p := ⟨gb340, 0, none⟩) (Kd.N_mono HO331.out (fun k_ hk => (⟨hk, hk.2.2.2.2⟩ : _ ∧ k_ ≠ gb340))) (fun _ hk => hk.2) (.int .i64 a0_0)) (fun _ hk => hk.2) (.slice Ao30 y334.length co30)) (fun _ h_ => h_.1))) (Kd.R_base ho0) hb); have n2_ := Aside0.mk (Kd.R_below (by (with_reducible repeat (first | apply Kd.R_alloc | apply Kd.R_drewN | apply Kd.R_drew)); exact (Kd.R_mono (Kd.R_far (p := ⟨gb340, 1, none⟩) (Kd.R_far (p := ⟨gb340, 0, none⟩) (Kd.R_types HO336.out BK340.out (by decide)) (fun _ hk => hk.2) (.int .i64 a0_0)) (fun _ hk => hk.2) (.slice Ao30 y334.length co30)) (fun _ h_ => h_.1))) hb); have n3_ := Aside0.mk (Kd.R_elder' (by (with_reducible repeat (first | apply Kd.R_alloc | apply Kd.R_drewN | apply Kd.R_drew)); exact (Kd.R_mono (Kd.R_far (p := ⟨gb340, 1, none⟩) (Kd.R_far (p := ⟨gb340, 0, none⟩) (Kd.R_types HO339.out BK340.out (by decide)) (fun _ hk => hk.2) (.int .i64 a0_0)) (fun _ hk => hk.2) (.slice Ao30 y334.length co30)) (fun _ h_ => h_.1))) (Kd.R_base ho0) hb); have n4_ := Aside0.mk (Kd.R_lower (Kd.R_new' (Kd.R_newM (M := fun k_ => (w.heap.size ≤ k_)) ho0 (below_size (by repeat (first | (with_reducible first | exact HB.out | apply below_alloc | apply pw_below_drewN | apply below_drew1 | refine below_set ?_ GE328.out | refine below_set ?_ GE340.out) | exact HB.out))) (fun k_ h_ => h_)) (Kd.R_lt (by (with_reducible repeat (first | apply Kd.R_alloc | apply Kd.R_drewN | apply Kd.R_drew)); exact (Kd.R_mono (Kd.R_far (p := ⟨gb340, 1, none⟩) (Kd.R_far (p := ⟨gb340, 0, none⟩) (Kd.R_types HO339.out BK340.out (by decide)) (fun _ hk => hk.2) (.int .i64 a0_0)) (fun _ hk => hk.2) (.slice Ao30 y334.length co30)) (fun _ h_ => h_.1))))) (below_size (by repeat (first | (with_reducible first | exact HB.out | apply below_alloc | apply pw_below_drewN | apply below_drew1 | refine below_set ?_ GE328.out | refine below_set ?_ GE340.out) | exact HB.out)))); have n5_ := Aside0.mk (blk_below (g := gb328) (o := .cells #[.int .i64 a0_0, .slice A0_1 l0_1.length c0_1] 24 (0, 0)) (by (with_reducible repeat (first | refine blk_drewN ?_ _ | refine blk_drew ?_ | refine blk_alloc ?_ _)); refine blk_far ?_ NB328_340.out _; (with_reducible repeat (first | refine blk_drewN ?_ _ | refine blk_drew ?_ | refine blk_alloc ?_ _)); refine blk_far ?_ NB328_340.out _; (with_reducible repeat (first | refine blk_drewN ?_ _ | refine blk_drew ?_ | refine blk_alloc ?_ _)); exact BK328.out) hb); have n6_ := Aside0.mk (blk_below (g := gb340) (o := .cells #[.int .i64 a0_0, .slice Ao30 y334.length co30] 24 (0, 0)) (by (with_reducible repeat (first | refine blk_drewN ?_ _ | refine blk_drew ?_ | refine blk_alloc ?_ _)); refine blk_put (cs := #[.int .i64 a0_0, .slice none 0 0]) ?_ 1 _ rfl; (with_reducible repeat (first | refine blk_drewN ?_ _ | refine blk_drew ?_ | refine blk_alloc ?_ _)); refine blk_put (cs := #[.int .i64 0, .slice none 0 0]) ?_ 0 _ rfl; (with_reducible repeat (first | refine blk_drewN ?_ _ | refine blk_drew ?_ | refine blk_alloc ?_ _)); exact BK340.out) hb); have n7_ := Aside0.mk (below_step (by repeat (first | (with_reducible first | exact HB.out | apply below_alloc | apply pw_below_drewN | apply below_drew1 | refine below_set ?_ GE328.out | refine below_set ?_ GE340.out) | exact HB.out)) hb); clear HO1; clear HO331; clear HO336; clear HO339; clear BK328; clear BK340; clear HB; have HO1 := n0_; have HO331 := n1_; have HO336 := n2_; have HO339 := n3_; have HO343 := n4_; have BK328 := n5_; have BK340 := n6_; have HB := n7_; clear n0_ n1_ n2_ n3_ n4_ n5_ n6_ n7_; (try clear hb); (try clear hb2); (try clear hk); (try clear hi); (try clear ho0); have hcz36_0 : w35.cell? ⟨gb328, 0, none⟩ = some (.int .i64 a0_0) := (blk_cell BK328.out 0).trans rfl; have hcz36_1 : w35.cell? ⟨gb328, 1, none⟩ = some (.slice A0_1 l0_1.length c0_1) := (blk_cell BK328.out 1).trans rfl; have hfz36_0 := blk_frozen BK328.out 0; have hfz36_1 := blk_frozen BK328.out 1) | ((with_reducible refine gate_callee (f := 39) rfl ?_); refine goesL_ (some 44) rfl rfl Try.func39 (by kernel_rfl) rfl #[.agg #[.int .i64 a0_0, .slice A0_1 l0_1.length c0_1], .slice A1 l1.length c1] rfl (by (try simp only [List.map_toArray, List.map_cons, List.map_nil]); first | done | rfl | (simp only [List.length_drop, List.length_take]; rfl)) ?_; (with_reducible refine (pylonref15_Refs.calls k a0_0 _ _ l0_1 _ _ l1 t345 t348 _ ?side1 ?side2 ?side3 ?side4 A16.out).mono ?_); (case side1 => repeat (first | exact (Kd.C_below HR0_1.out HB.out) | (with_reducible refine Kd.C_alloc ?_ _) | (with_reducible refine Kd.C_drewN ?_ _) | (with_reducible refine Kd.C_drew ?_))); (case side2 => exact HC0_1.out); (case side3 => repeat (first | exact (Kd.V_reads' HO1.out).2.2 | (with_reducible refine Kd.C_alloc ?_ _) | (with_reducible refine Kd.C_drewN ?_ _) | (with_reducible refine Kd.C_drew ?_))); (case side4 => exact (Kd.V_reads' HO1.out).2.1); rintro e w37 ⟨v346, rfl, ho0, hb⟩; refine ⟨_, rfl, ?_⟩; have n0_ := Aside0.mk (Kd.V_elder' (by (with_reducible repeat (first | apply Kd.V_alloc | apply Kd.V_drewN | apply Kd.V_drew)); exact HO1.out) (Kd.R_base ho0) hb); have n1_ := Aside0.mk (Kd.N_elder' (by (with_reducible repeat (first | apply Kd.N_alloc | apply Kd.N_drewN | apply Kd.N_drew)); exact HO331.out) (Kd.R_base ho0) hb); have n2_ := Aside0.mk (Kd.R_below (by (with_reducible repeat (first | apply Kd.R_alloc | apply Kd.R_drewN | apply Kd.R_drew)); exact HO336.out) hb); have n3_ := Aside0.mk (Kd.R_elder' (by (with_reducible repeat (first | apply Kd.R_alloc | apply Kd.R_drewN | apply Kd.R_drew)); exact HO339.out) (Kd.R_base ho0) hb); have n4_ := Aside0.mk (Kd.R_elder' (by (with_reducible repeat (first | apply Kd.R_alloc | apply Kd.R_drewN | apply Kd.R_drew)); exact HO343.out) (Kd.R_base ho0) hb); have n5_ := Aside0.mk (Kd.R_lower (Kd.R_new' (Kd.R_new' (Kd.R_newM (M := fun k_ => (w.heap.size ≤ k_)) ho0 (below_size (by repeat (first | (with_reducible first | exact HB.out | apply below_alloc | apply pw_below_drewN | apply below_drew1 | refine below_set ?_ GE328.out | refine below_set ?_ GE340.out) | exact HB.out))) (fun k_ h_ => h_)) (Kd.R_lt (by (with_reducible repeat (first | apply Kd.R_alloc | apply Kd.R_drewN | apply Kd.R_drew)); exact HO339.out))) (Kd.R_lt (by (with_reducible repeat (first | apply Kd.R_alloc | apply Kd.R_drewN | apply Kd.R_drew)); exact HO343.out))) (below_size (by repeat (first | (with_reducible first | exact HB.out | apply below_alloc | apply pw_below_drewN | apply below_drew1 | refine below_set ?_ GE328.out | refine below_set ?_ GE340.out) | exact HB.out)))); have n6_ := Aside0.mk (blk_below (g := gb328) (o := .cells #[.int .i64 a0_0, .slice A0_1 l0_1.length c0_1] 24 (0, 0)) (by (with_reducible repeat (first | refine blk_drewN ?_ _ | refine blk_drew ?_ | refine blk_alloc ?_ _)); exact BK328.out) hb); have n7_ := Aside0.mk (blk_below (g := gb340) (o := .cells #[.int .i64 a0_0, .slice Ao30 y334.length co30] 24 (0, 0)) (by (with_reducible repeat (first | refine blk_drewN ?_ _ | refine blk_drew ?_ | refine blk_alloc ?_ _)); exact BK340.out) hb); have n8_ := Aside0.mk (below_step (by repeat (first | (with_reducible first | exact HB.out | apply below_alloc | apply pw_below_drewN | apply below_drew1 | refine below_set ?_ GE328.out | refine below_set ?_ GE340.out) | exact HB.out)) hb); clear HO1; clear HO331; clear HO336; clear HO339; clear HO343; clear BK328; clear BK340; clear HB; have HO1 := n0_; have HO331 := n1_; have HO336 := n2_; have HO339 := n3_; have HO343 := n4_; have HO347 := n5_; have BK328 := n6_; have BK340 := n7_; have HB := n8_; clear n0_ n1_ n2_ n3_ n4_ n5_ n6_ n7_ n8_; (try clear hb); (try clear hb2); (try clear hk); (try clear hi); (try clear ho0); have hcz38_0 : w37.cell? ⟨gb328, 0, none⟩ = some (.int .i64 a0_0) := (blk_cell BK328.out 0).trans rfl; have hcz38_1 : w37.cell? ⟨gb328, 1, none⟩ = some (.slice A0_1 l0_1.length c0_1) := (blk_cell BK328.out 1).trans rfl; have hfz38_0 := blk_frozen BK328.out 0; have hfz38_1 := blk_frozen BK328.out 1) | ((with_reducible refine gate_callee (f := 40) rfl ?_); refine goesL_ (some 50) rfl rfl Try.func40 (by kernel_rfl) rfl #[.agg #[.int .i64 a0_0, .slice A0_1 l0_1.length c0_1], .slice A1 l1.length c1] rfl (by (try simp only [List.map_toArray, List.map_cons, List.map_nil]); first | done | rfl | (simp only [List.length_drop, List.length_take]; rfl)) ?_; (with_reducible refine (pylonref15_Members.calls k a0_0 _ _ l0_1 _ _ l1 t349 t352 _ ?side1 ?side2 ?side3 ?side4 A17.out).mono ?_); (case side1 => repeat (first | exact (Kd.C_below HR0_1.out HB.out) | (with_reducible refine Kd.C_alloc ?_ _) | (with_reducible refine Kd.C_drewN ?_ _) | (with_reducible refine Kd.C_drew ?_))); (case side2 => exact HC0_1.out); (case side3 => repeat (first | exact (Kd.V_reads' HO1.out).2.2 | (with_reducible refine Kd.C_alloc ?_ _) | (with_reducible refine Kd.C_drewN ?_ _) | (with_reducible refine Kd.C_drew ?_))); (case side4 => exact (Kd.V_reads' HO1.out).2.1); rintro e w39 ⟨v350, rfl, ho0, hb⟩; refine ⟨_, rfl, ?_⟩; have n0_ := Aside0.mk (Kd.V_elder' (by (with_reducible repeat (first | apply Kd.V_alloc | apply Kd.V_drewN | apply Kd.V_drew)); exact HO1.out) (Kd.N_base (Kd.S_N ho0)) hb); have n1_ := Aside0.mk (Kd.N_elder' (by (with_reducible repeat (first | apply Kd.N_alloc | apply Kd.N_drewN | apply Kd.N_drew)); exact HO331.out) (Kd.N_base (Kd.S_N ho0)) hb); have n2_ := Aside0.mk (Kd.R_below (by (with_reducible repeat (first | apply Kd.R_alloc | apply Kd.R_drewN | apply Kd.R_drew)); exact HO336.out) hb); have n3_ := Aside0.mk (Kd.R_below (by (with_reducible repeat (first | apply Kd.R_alloc | apply Kd.R_drewN | apply Kd.R_drew)); exact HO339.out) hb); have n4_ := Aside0.mk (Kd.R_below (by (with_reducible repeat (first | apply Kd.R_alloc | apply Kd.R_drewN | apply Kd.R_drew)); exact HO343.out) hb); have n5_ := Aside0.mk (Kd.R_below (by (with_reducible repeat (first | apply Kd.R_alloc | apply Kd.R_drewN | apply Kd.R_drew)); exact HO347.out) hb); have n6_ := Aside0.mk (Kd.N_lower (Kd.N_mono (ok' := fun k_ => (P1_ k_ ∨ w.heap.size ≤ k_) ∧ some k_ ≠ (.slice Ao22 y329.length co22 : Value).ownBlock ∧ some k_ ≠ (.slice Ao30 y334.length co30 : Value).ownBlock ∧ some k_ ≠ (v338 : Value).ownBlock ∧ some k_ ≠ (v342 : Value).ownBlock ∧ some k_ ≠ (v346 : Value).ownBlock ∧ k_ ≠ gb328 ∧ k_ ≠ gb340) (Kd.S_N (Kd.S_bound ho0)) (fun k_ hk_ => ⟨(.inr (Nat.le_trans (below_size (by repeat (first | (with_reducible first | exact HB.out | apply below_alloc | apply pw_below_drewN | apply below_drew1 | refine below_set ?_ GE328.out | refine below_set ?_ GE340.out) | exact HB.out))) hk_.2.1)), (Kd.fresh' (Kd.N_lt (by (with_reducible repeat (first | apply Kd.N_alloc | apply Kd.N_drewN | apply Kd.N_drew)); exact HO331.out)) k_ hk_.2.1), (Kd.fresh' (Kd.R_lt (by (with_reducible repeat (first | apply Kd.R_alloc | apply Kd.R_drewN | apply Kd.R_drew)); exact HO336.out)) k_ hk_.2.1), (Kd.fresh' (Kd.R_lt (by (with_reducible repeat (first | apply Kd.R_alloc | apply Kd.R_drewN | apply Kd.R_drew)); exact HO339.out)) k_ hk_.2.1), (Kd.fresh' (Kd.R_lt (by (with_reducible repeat (first | apply Kd.R_alloc | apply Kd.R_drewN | apply Kd.R_drew)); exact HO343.out)) k_ hk_.2.1), (Kd.fresh' (Kd.R_lt (by (with_reducible repeat (first | apply Kd.R_alloc | apply Kd.R_drewN | apply Kd.R_drew)); exact HO347.out)) k_ hk_.2.1), (Kd.freshB (g := gb328) (o := .cells #[.int .i64 a0_0, .slice A0_1 l0_1.length c0_1] 24 (0, 0)) (by (with_reducible repeat (first | refine blk_drewN ?_ _ | refine blk_drew ?_ | refine blk_alloc ?_ _)); exact BK328.out) k_ hk_.2.1), (Kd.freshB (g := gb340) (o := .cells #[.int .i64 a0_0, .slice Ao30 y334.length co30] 24 (0, 0)) (by (with_reducible repeat (first | refine blk_drewN ?_ _ | refine blk_drew ?_ | refine blk_alloc ?_ _)); exact BK340.out) k_ hk_.2.1)⟩)) (below_size (by repeat (first | (with_reducible first | exact HB.out | apply below_alloc | apply pw_below_drewN | apply below_drew1 | refine below_set ?_ GE328.out | refine below_set ?_ GE340.out) | exact HB.out)))); have n7_ := Aside0.mk (blk_below (g := gb328) (o := .cells #[.int .i64 a0_0, .slice A0_1 l0_1.length c0_1] 24 (0, 0)) (by (with_reducible repeat (first | refine blk_drewN ?_ _ | refine blk_drew ?_ | refine blk_alloc ?_ _)); exact BK328.out) hb); have n8_ := Aside0.mk (blk_below (g := gb340) (o := .cells #[.int .i64 a0_0, .slice Ao30 y334.length co30] 24 (0, 0)) (by (with_reducible repeat (first | refine blk_drewN ?_ _ | refine blk_drew ?_ | refine blk_alloc ?_ _)); exact BK340.out) hb); have n9_ := Aside0.mk (below_step (by repeat (first | (with_reducible first | exact HB.out | apply below_alloc | apply pw_below_drewN | apply below_drew1 | refine below_set ?_ GE328.out | refine below_set ?_ GE340.out) | exact HB.out)) hb); clear HO1; clear HO331; clear HO336; clear HO339; clear HO343; clear HO347; clear BK328; clear BK340; clear HB; have HO1 := n0_; have HO331 := n1_; have HO336 := n2_; have HO339 := n3_; have HO343 := n4_; have HO347 := n5_; have HO351 := n6_; have BK328 := n7_; have BK340 := n8_; have HB := n9_; clear n0_ n1_ n2_ n3_ n4_ n5_ n6_ n7_ n8_ n9_; (try clear hb); (try clear hb2); (try clear hk); (try clear hi); (try clear ho0)))
    go_loopg [13] k (fun kq v13 w' => ∃ (x13_1 : Int), v13 = .int .i64 x13_1 ∧ Aside0 (pylonlaw15_IslandMatches.l0 kq l1 y337 t341 t344 t345 t349 x13_1 a0_0 l0_1 a0_0 y334 = some r) ∧ Aside0 (kq ≤ k) ∧ Aside0 (Kd.V (Kd.int .i64) 3 w' w.heap.size (fun k_ => (P1_ k_ ∨ w.heap.size ≤ k_) ∧ some k_ ≠ (v338 : Value).ownBlock ∧ some k_ ≠ (v342 : Value).ownBlock ∧ some k_ ≠ (v346 : Value).ownBlock ∧ some k_ ≠ (v350 : Value).ownBlock ∧ some k_ ≠ ((.slice Ao30 y334.length co30) : Value).ownBlock ∧ k_ ≠ gb328 ∧ k_ ≠ gb340) (.slice A1 l1.length c1) l1) ∧ Aside0 (Kd.R (Kd.int .i64) 3 w' w.heap.size (fun k_ => (w.heap.size ≤ k_) ∧ some k_ ≠ (v342 : Value).ownBlock ∧ some k_ ≠ (v346 : Value).ownBlock) v338 y337) ∧ Aside0 (Kd.R (Kd.int .i64) 3 w' w.heap.size (fun k_ => (w.heap.size ≤ k_) ∧ some k_ ≠ (v338 : Value).ownBlock ∧ some k_ ≠ (v346 : Value).ownBlock) v342 t341) ∧ Aside0 (Kd.R (Kd.int .i64) 3 w' w.heap.size (fun k_ => (w.heap.size ≤ k_) ∧ some k_ ≠ (v338 : Value).ownBlock ∧ some k_ ≠ (v342 : Value).ownBlock) v346 t345) ∧ Aside0 (Kd.N (Kd.slice 3 (Kd.int .i64)) 25 w' w.heap.size (fun k_ => (P1_ k_ ∨ w.heap.size ≤ k_) ∧ some k_ ≠ (v338 : Value).ownBlock ∧ some k_ ≠ (v342 : Value).ownBlock ∧ some k_ ≠ (v346 : Value).ownBlock ∧ some k_ ≠ ((.slice Ao30 y334.length co30) : Value).ownBlock ∧ k_ ≠ gb328 ∧ k_ ≠ gb340) v350 t349) ∧ Aside0 (Kd.R k37 37 w' w.heap.size (fun k_ => (w.heap.size ≤ k_)) (.slice Ao30 y334.length co30) y334) ∧ Aside0 (w'.heap[gb328]? = some (.cells #[.int .i64 a0_0, (.slice A0_1 l0_1.length c0_1)] 24 (0, 0))) ∧ Aside0 (w'.heap[gb340]? = some (.cells #[.int .i64 a0_0, (.slice Ao30 y334.length co30)] 24 (0, 0))) ∧ Aside0 (Below w.heap.size w w'))
    case atStart => exact ⟨(0), (by first | rfl | (simp; done) | (simp [*]; done)), H', ⟨Nat.le_refl _⟩, ⟨by (with_reducible repeat (first | apply Kd.V_alloc | apply Kd.V_drewN | apply Kd.V_drew)); exact Kd.V_mono HO1.out (fun _ hk => ⟨hk.1.1.1.1, ⟨hk.1.1.1.2.2.2.1, ⟨hk.1.1.2, ⟨hk.1.2, ⟨hk.2, ⟨hk.1.1.1.2.2.1, ⟨hk.1.1.1.2.2.2.2.1, hk.1.1.1.2.2.2.2.2⟩⟩⟩⟩⟩⟩⟩)⟩, ⟨by (with_reducible repeat (first | apply Kd.R_alloc | apply Kd.R_drewN | apply Kd.R_drew)); exact Kd.R_mono HO339.out (fun _ hk => ⟨hk.1.1, ⟨hk.1.2, hk.2⟩⟩)⟩, ⟨by (with_reducible repeat (first | apply Kd.R_alloc | apply Kd.R_drewN | apply Kd.R_drew)); exact Kd.R_mono HO343.out (fun _ hk => ⟨hk.1.1.1, ⟨hk.1.2, hk.2⟩⟩)⟩, ⟨by (with_reducible repeat (first | apply Kd.R_alloc | apply Kd.R_drewN | apply Kd.R_drew)); exact Kd.R_mono HO347.out (fun _ hk => ⟨hk.1.1.1, ⟨hk.1.2, hk.2⟩⟩)⟩, ⟨by (with_reducible repeat (first | apply Kd.N_alloc | apply Kd.N_drewN | apply Kd.N_drew)); exact Kd.N_mono HO351.out (fun _ hk => ⟨hk.1, ⟨hk.2.2.2.1, ⟨hk.2.2.2.2.1, ⟨hk.2.2.2.2.2.1, ⟨hk.2.2.1, ⟨hk.2.2.2.2.2.2.1, hk.2.2.2.2.2.2.2⟩⟩⟩⟩⟩⟩)⟩, ⟨by (with_reducible repeat (first | apply Kd.R_alloc | apply Kd.R_drewN | apply Kd.R_drew)); exact HO336.out⟩, ⟨by (with_reducible repeat (first | refine blk_drewN ?_ _ | refine blk_drew ?_ | refine blk_alloc ?_ _)); exact BK328.out⟩, ⟨by (with_reducible repeat (first | refine blk_drewN ?_ _ | refine blk_drew ?_ | refine blk_alloc ?_ _)); exact BK340.out⟩, ⟨by repeat (first | (with_reducible first | exact HB.out | apply below_alloc | apply pw_below_drewN | apply below_drew1 | refine below_set ?_ GE328.out | refine below_set ?_ GE340.out) | exact HB.out)⟩⟩
    case round =>
     clear H'; (try clear c1); (try clear c2); (try clear p2); (try clear c3); (try clear c4); (try clear c6); (try clear c13); (try clear c14); (try clear c28); (try clear c29); (try clear c33); (try clear c38); (try clear c39); (try clear hcz19_0); (try clear hcz19_1); (try clear hcz34_0); (try clear hcz34_1); (try clear hcz36_0); (try clear hcz36_1); (try clear hcz38_0); (try clear hcz38_1); (try clear hcz7_0); (try clear hcz7_1); (try clear hfz19_0); (try clear hfz19_1); (try clear hfz34_0); (try clear hfz34_1); (try clear hfz36_0); (try clear hfz36_1); (try clear hfz38_0); (try clear hfz38_1); (try clear hfz7_0); (try clear hfz7_1)
     obtain ⟨x13_1, rfl, HA, HK1, HO_1, HO_6, HO_7, HO_9, HO_11, HO_341001, BK328, BK340, HB⟩ := hrel
     have RB := Aside0.mk (Below.refl wr.heap.size wr)
     have SVHO_1 := HO_1
     have SVHO_6 := HO_6
     have SVHO_7 := HO_7
     have SVHO_9 := HO_9
     have SVHO_11 := HO_11
     have SVHO_341001 := HO_341001
     have SVBK328 := BK328
     have SVBK340 := BK340
     have SVHB := HB
     cases gk with
     | zero => exact absurd HA.out (by simp [pylonlaw15_IslandMatches.l0])
     | succ k1 =>
      have H := HA.out
      clear HA
      simp only [pylonlaw15_IslandMatches.l0] at H
      by_cases c40 : x13_1 < 2
      ·rw [if_pos c40] at H
       have c40b0 : decide (x13_1 < 2) = true := decide_eq_true c40
       clear c40
       replace H := Option.bind_eq_some_iff.mp H
       obtain ⟨⟨t354, t357⟩, A410, H⟩ := H
       replace H : ((island_Refs.f k1 a0_0 y334 y337).bind fun bt358 => ((island_Members.f k1 a0_0 y334 y337).bind fun bt362 => ((island_Count.f k1 a0_0 y334 y337).bind fun bt366 => (if t357 = t344 then (if bt358.2 = t344 then (if bt362.2 = t344 then (if bt366.2 = t344 then (if bt366.1 = (t345.length : Int) then ((pylonref14_Ints.f k1 t354 t341).bind fun t368 => (if t368 = true then ((pylonref14_Ints.f k1 bt358.1 t345).bind fun t369 => (if t369 = true then ((pylonref15_Rows.f k1 bt362.1 t349).bind fun t370 => (if t370 = true then ((pylonref14_Same.f k1 a0_0 y334 a0_0 l0_1).bind fun t371 => (if t371 = true then ((pylonref14_Ints.f k1 y337 l1).bind fun t372 => (pylonlaw15_IslandMatches.j1 k1 l1 y337 t341 t344 t345 t349 x13_1 t354 bt358.1 bt362.1 (!t372) a0_0 l0_1 a0_0 y334)) else (pylonlaw15_IslandMatches.j1 k1 l1 y337 t341 t344 t345 t349 x13_1 t354 bt358.1 bt362.1 true a0_0 l0_1 a0_0 y334))) else (pylonlaw15_IslandMatches.j1 k1 l1 y337 t341 t344 t345 t349 x13_1 t354 bt358.1 bt362.1 true a0_0 l0_1 a0_0 y334))) else (pylonlaw15_IslandMatches.j1 k1 l1 y337 t341 t344 t345 t349 x13_1 t354 bt358.1 bt362.1 true a0_0 l0_1 a0_0 y334))) else (pylonlaw15_IslandMatches.j1 k1 l1 y337 t341 t344 t345 t349 x13_1 t354 bt358.1 bt362.1 true a0_0 l0_1 a0_0 y334))) else (pylonlaw15_IslandMatches.j1 k1 l1 y337 t341 t344 t345 t349 x13_1 t354 bt358.1 bt362.1 true a0_0 l0_1 a0_0 y334)) else (pylonlaw15_IslandMatches.j1 k1 l1 y337 t341 t344 t345 t349 x13_1 t354 bt358.1 bt362.1 true a0_0 l0_1 a0_0 y334)) else (pylonlaw15_IslandMatches.j1 k1 l1 y337 t341 t344 t345 t349 x13_1 t354 bt358.1 bt362.1 true a0_0 l0_1 a0_0 y334)) else (pylonlaw15_IslandMatches.j1 k1 l1 y337 t341 t344 t345 t349 x13_1 t354 bt358.1 bt362.1 true a0_0 l0_1 a0_0 y334)) else (pylonlaw15_IslandMatches.j1 k1 l1 y337 t341 t344 t345 t349 x13_1 t354 bt358.1 bt362.1 true a0_0 l0_1 a0_0 y334))))) = some r := H
       have A41 := Aside0.mk A410
       clear A410
       replace H := Option.bind_eq_some_iff.mp H
       obtain ⟨⟨t358, t361⟩, A420, H⟩ := H
       replace H : ((island_Members.f k1 a0_0 y334 y337).bind fun bt362 => ((island_Count.f k1 a0_0 y334 y337).bind fun bt366 => (if t357 = t344 then (if t361 = t344 then (if bt362.2 = t344 then (if bt366.2 = t344 then (if bt366.1 = (t345.length : Int) then ((pylonref14_Ints.f k1 t354 t341).bind fun t368 => (if t368 = true then ((pylonref14_Ints.f k1 t358 t345).bind fun t369 => (if t369 = true then ((pylonref15_Rows.f k1 bt362.1 t349).bind fun t370 => (if t370 = true then ((pylonref14_Same.f k1 a0_0 y334 a0_0 l0_1).bind fun t371 => (if t371 = true then ((pylonref14_Ints.f k1 y337 l1).bind fun t372 => (pylonlaw15_IslandMatches.j1 k1 l1 y337 t341 t344 t345 t349 x13_1 t354 t358 bt362.1 (!t372) a0_0 l0_1 a0_0 y334)) else (pylonlaw15_IslandMatches.j1 k1 l1 y337 t341 t344 t345 t349 x13_1 t354 t358 bt362.1 true a0_0 l0_1 a0_0 y334))) else (pylonlaw15_IslandMatches.j1 k1 l1 y337 t341 t344 t345 t349 x13_1 t354 t358 bt362.1 true a0_0 l0_1 a0_0 y334))) else (pylonlaw15_IslandMatches.j1 k1 l1 y337 t341 t344 t345 t349 x13_1 t354 t358 bt362.1 true a0_0 l0_1 a0_0 y334))) else (pylonlaw15_IslandMatches.j1 k1 l1 y337 t341 t344 t345 t349 x13_1 t354 t358 bt362.1 true a0_0 l0_1 a0_0 y334))) else (pylonlaw15_IslandMatches.j1 k1 l1 y337 t341 t344 t345 t349 x13_1 t354 t358 bt362.1 true a0_0 l0_1 a0_0 y334)) else (pylonlaw15_IslandMatches.j1 k1 l1 y337 t341 t344 t345 t349 x13_1 t354 t358 bt362.1 true a0_0 l0_1 a0_0 y334)) else (pylonlaw15_IslandMatches.j1 k1 l1 y337 t341 t344 t345 t349 x13_1 t354 t358 bt362.1 true a0_0 l0_1 a0_0 y334)) else (pylonlaw15_IslandMatches.j1 k1 l1 y337 t341 t344 t345 t349 x13_1 t354 t358 bt362.1 true a0_0 l0_1 a0_0 y334)) else (pylonlaw15_IslandMatches.j1 k1 l1 y337 t341 t344 t345 t349 x13_1 t354 t358 bt362.1 true a0_0 l0_1 a0_0 y334)))) = some r := H
       have A42 := Aside0.mk A420
       clear A420
       replace H := Option.bind_eq_some_iff.mp H
       obtain ⟨⟨t362, t365⟩, A430, H⟩ := H
       replace H : ((island_Count.f k1 a0_0 y334 y337).bind fun bt366 => (if t357 = t344 then (if t361 = t344 then (if t365 = t344 then (if bt366.2 = t344 then (if bt366.1 = (t345.length : Int) then ((pylonref14_Ints.f k1 t354 t341).bind fun t368 => (if t368 = true then ((pylonref14_Ints.f k1 t358 t345).bind fun t369 => (if t369 = true then ((pylonref15_Rows.f k1 t362 t349).bind fun t370 => (if t370 = true then ((pylonref14_Same.f k1 a0_0 y334 a0_0 l0_1).bind fun t371 => (if t371 = true then ((pylonref14_Ints.f k1 y337 l1).bind fun t372 => (pylonlaw15_IslandMatches.j1 k1 l1 y337 t341 t344 t345 t349 x13_1 t354 t358 t362 (!t372) a0_0 l0_1 a0_0 y334)) else (pylonlaw15_IslandMatches.j1 k1 l1 y337 t341 t344 t345 t349 x13_1 t354 t358 t362 true a0_0 l0_1 a0_0 y334))) else (pylonlaw15_IslandMatches.j1 k1 l1 y337 t341 t344 t345 t349 x13_1 t354 t358 t362 true a0_0 l0_1 a0_0 y334))) else (pylonlaw15_IslandMatches.j1 k1 l1 y337 t341 t344 t345 t349 x13_1 t354 t358 t362 true a0_0 l0_1 a0_0 y334))) else (pylonlaw15_IslandMatches.j1 k1 l1 y337 t341 t344 t345 t349 x13_1 t354 t358 t362 true a0_0 l0_1 a0_0 y334))) else (pylonlaw15_IslandMatches.j1 k1 l1 y337 t341 t344 t345 t349 x13_1 t354 t358 t362 true a0_0 l0_1 a0_0 y334)) else (pylonlaw15_IslandMatches.j1 k1 l1 y337 t341 t344 t345 t349 x13_1 t354 t358 t362 true a0_0 l0_1 a0_0 y334)) else (pylonlaw15_IslandMatches.j1 k1 l1 y337 t341 t344 t345 t349 x13_1 t354 t358 t362 true a0_0 l0_1 a0_0 y334)) else (pylonlaw15_IslandMatches.j1 k1 l1 y337 t341 t344 t345 t349 x13_1 t354 t358 t362 true a0_0 l0_1 a0_0 y334)) else (pylonlaw15_IslandMatches.j1 k1 l1 y337 t341 t344 t345 t349 x13_1 t354 t358 t362 true a0_0 l0_1 a0_0 y334))) = some r := H
       have A43 := Aside0.mk A430
       clear A430
       replace H := Option.bind_eq_some_iff.mp H
       obtain ⟨⟨t366, t367⟩, A440, H⟩ := H
       replace H : (if t357 = t344 then (if t361 = t344 then (if t365 = t344 then (if t367 = t344 then (if t366 = (t345.length : Int) then ((pylonref14_Ints.f k1 t354 t341).bind fun t368 => (if t368 = true then ((pylonref14_Ints.f k1 t358 t345).bind fun t369 => (if t369 = true then ((pylonref15_Rows.f k1 t362 t349).bind fun t370 => (if t370 = true then ((pylonref14_Same.f k1 a0_0 y334 a0_0 l0_1).bind fun t371 => (if t371 = true then ((pylonref14_Ints.f k1 y337 l1).bind fun t372 => (pylonlaw15_IslandMatches.j1 k1 l1 y337 t341 t344 t345 t349 x13_1 t354 t358 t362 (!t372) a0_0 l0_1 a0_0 y334)) else (pylonlaw15_IslandMatches.j1 k1 l1 y337 t341 t344 t345 t349 x13_1 t354 t358 t362 true a0_0 l0_1 a0_0 y334))) else (pylonlaw15_IslandMatches.j1 k1 l1 y337 t341 t344 t345 t349 x13_1 t354 t358 t362 true a0_0 l0_1 a0_0 y334))) else (pylonlaw15_IslandMatches.j1 k1 l1 y337 t341 t344 t345 t349 x13_1 t354 t358 t362 true a0_0 l0_1 a0_0 y334))) else (pylonlaw15_IslandMatches.j1 k1 l1 y337 t341 t344 t345 t349 x13_1 t354 t358 t362 true a0_0 l0_1 a0_0 y334))) else (pylonlaw15_IslandMatches.j1 k1 l1 y337 t341 t344 t345 t349 x13_1 t354 t358 t362 true a0_0 l0_1 a0_0 y334)) else (pylonlaw15_IslandMatches.j1 k1 l1 y337 t341 t344 t345 t349 x13_1 t354 t358 t362 true a0_0 l0_1 a0_0 y334)) else (pylonlaw15_IslandMatches.j1 k1 l1 y337 t341 t344 t345 t349 x13_1 t354 t358 t362 true a0_0 l0_1 a0_0 y334)) else (pylonlaw15_IslandMatches.j1 k1 l1 y337 t341 t344 t345 t349 x13_1 t354 t358 t362 true a0_0 l0_1 a0_0 y334)) else (pylonlaw15_IslandMatches.j1 k1 l1 y337 t341 t344 t345 t349 x13_1 t354 t358 t362 true a0_0 l0_1 a0_0 y334)) = some r := H
       have A44 := Aside0.mk A440
       clear A440
       have HC45 := Aside0.mk H
       clear H
       have hnb46 := NB340_328.out
       have hnc46 := NB328_340.out
       have hcz47_0 : wr.cell? ⟨gb340, 0, none⟩ = some (.int .i64 a0_0) := (blk_cell BK340.out 0).trans rfl
       have hcz47_1 : wr.cell? ⟨gb340, 1, none⟩ = some (.slice Ao30 y334.length co30) := (blk_cell BK340.out 1).trans rfl
       have hfz47_0 := blk_frozen BK340.out 0
       have hfz47_1 := blk_frozen BK340.out 1
       obtain ⟨Ao48, co48, eo48⟩ := Kd.R_slice HO_6.out
       subst eo48
       go_upto_region 14 with (first | ((with_reducible refine gate_callee (f := 30) rfl ?_); refine goesL_ (some 60) rfl rfl Try.func30 (by kernel_rfl) rfl #[.agg #[.int .i64 a0_0, .slice Ao30 y334.length co30], .slice Ao48 y337.length co48] rfl (by (try simp only [List.map_toArray, List.map_cons, List.map_nil]); first | done | rfl | (simp only [List.length_drop, List.length_take]; rfl)) ?_; (with_reducible refine (island_Of.calls k1 a0_0 _ _ y334 _ _ y337 t354 t357 _ ?side1 ?side2 ?side3 ?side4 A41.out).mono ?_); (case side1 => repeat (first | exact (Kd.R_reads' HO_341001.out).2.2 | (with_reducible refine Kd.C_alloc ?_ _) | (with_reducible refine Kd.C_drewN ?_ _) | (with_reducible refine Kd.C_drew ?_))); (case side2 => exact (Kd.R_reads' HO_341001.out).2.1); (case side3 => repeat (first | exact (Kd.R_reads' HO_6.out).2.2 | (with_reducible refine Kd.C_alloc ?_ _) | (with_reducible refine Kd.C_drewN ?_ _) | (with_reducible refine Kd.C_drew ?_))); (case side4 => exact (Kd.R_reads' HO_6.out).2.1); rintro e w49 ⟨v355, rfl, ho0, hb⟩; have KG356 := Aside0.mk (show ∀ k_, some k_ = (v355 : Value).ownBlock → wr.heap.size ≤ k_ from fun k_ h_ => Nat.le_trans RB.out.size (Kd.R_base ho0 k_ h_.symm)); have nR_ := Aside0.mk (below_step (by repeat (first | (with_reducible first | exact RB.out | apply below_alloc | apply pw_below_drewN | apply below_drew1) | exact RB.out)) hb); clear RB; have RB := nR_; clear nR_; refine ⟨_, rfl, ?_⟩; have n0_ := Aside0.mk (Kd.V_elder' (by (with_reducible repeat (first | apply Kd.V_alloc | apply Kd.V_drewN | apply Kd.V_drew)); exact HO_1.out) (Kd.R_base ho0) hb); have n1_ := Aside0.mk (Kd.R_elder' (by (with_reducible repeat (first | apply Kd.R_alloc | apply Kd.R_drewN | apply Kd.R_drew)); exact HO_6.out) (Kd.R_base ho0) hb); have n2_ := Aside0.mk (Kd.R_elder' (by (with_reducible repeat (first | apply Kd.R_alloc | apply Kd.R_drewN | apply Kd.R_drew)); exact HO_7.out) (Kd.R_base ho0) hb); have n3_ := Aside0.mk (Kd.R_elder' (by (with_reducible repeat (first | apply Kd.R_alloc | apply Kd.R_drewN | apply Kd.R_drew)); exact HO_9.out) (Kd.R_base ho0) hb); have n4_ := Aside0.mk (Kd.N_elder' (by (with_reducible repeat (first | apply Kd.N_alloc | apply Kd.N_drewN | apply Kd.N_drew)); exact HO_11.out) (Kd.R_base ho0) hb); have n5_ := Aside0.mk (Kd.R_below (by (with_reducible repeat (first | apply Kd.R_alloc | apply Kd.R_drewN | apply Kd.R_drew)); exact HO_341001.out) hb); have n6_ := Aside0.mk (Kd.R_lower (Kd.R_new' (Kd.R_new' (Kd.R_new' (Kd.R_newM (M := fun k_ => (w.heap.size ≤ k_)) ho0 (below_size (by repeat (first | (with_reducible first | exact HB.out | apply below_alloc | apply pw_below_drewN | apply below_drew1 | refine below_set ?_ GE328.out | refine below_set ?_ GE340.out) | exact HB.out))) (fun k_ h_ => h_)) (Kd.R_lt (by (with_reducible repeat (first | apply Kd.R_alloc | apply Kd.R_drewN | apply Kd.R_drew)); exact HO_6.out))) (Kd.R_lt (by (with_reducible repeat (first | apply Kd.R_alloc | apply Kd.R_drewN | apply Kd.R_drew)); exact HO_7.out))) (Kd.R_lt (by (with_reducible repeat (first | apply Kd.R_alloc | apply Kd.R_drewN | apply Kd.R_drew)); exact HO_9.out))) (below_size (by repeat (first | (with_reducible first | exact HB.out | apply below_alloc | apply pw_below_drewN | apply below_drew1 | refine below_set ?_ GE328.out | refine below_set ?_ GE340.out) | exact HB.out)))); have n7_ := Aside0.mk (blk_below (g := gb328) (o := .cells #[.int .i64 a0_0, .slice A0_1 l0_1.length c0_1] 24 (0, 0)) (by (with_reducible repeat (first | refine blk_drewN ?_ _ | refine blk_drew ?_ | refine blk_alloc ?_ _)); exact BK328.out) hb); have n8_ := Aside0.mk (blk_below (g := gb340) (o := .cells #[.int .i64 a0_0, .slice Ao30 y334.length co30] 24 (0, 0)) (by (with_reducible repeat (first | refine blk_drewN ?_ _ | refine blk_drew ?_ | refine blk_alloc ?_ _)); exact BK340.out) hb); have n9_ := Aside0.mk (below_step (by repeat (first | (with_reducible first | exact HB.out | apply below_alloc | apply pw_below_drewN | apply below_drew1 | refine below_set ?_ GE328.out | refine below_set ?_ GE340.out) | exact HB.out)) hb); clear HO_1; clear HO_6; clear HO_7; clear HO_9; clear HO_11; clear HO_341001; clear BK328; clear BK340; clear HB; have HO_1 := n0_; have HO_6 := n1_; have HO_7 := n2_; have HO_9 := n3_; have HO_11 := n4_; have HO_341001 := n5_; have HO356 := n6_; have BK328 := n7_; have BK340 := n8_; have HB := n9_; clear n0_ n1_ n2_ n3_ n4_ n5_ n6_ n7_ n8_ n9_; (try clear hb); (try clear hb2); (try clear hk); (try clear hi); (try clear ho0); have hcz50_0 : w49.cell? ⟨gb340, 0, none⟩ = some (.int .i64 a0_0) := (blk_cell BK340.out 0).trans rfl; have hcz50_1 : w49.cell? ⟨gb340, 1, none⟩ = some (.slice Ao30 y334.length co30) := (blk_cell BK340.out 1).trans rfl; have hfz50_0 := blk_frozen BK340.out 0; have hfz50_1 := blk_frozen BK340.out 1) | ((with_reducible refine gate_callee (f := 41) rfl ?_); refine goesL_ (some 66) rfl rfl Try.func41 (by kernel_rfl) rfl #[.agg #[.int .i64 a0_0, .slice Ao30 y334.length co30], .slice Ao48 y337.length co48] rfl (by (try simp only [List.map_toArray, List.map_cons, List.map_nil]); first | done | rfl | (simp only [List.length_drop, List.length_take]; rfl)) ?_; (with_reducible refine (island_Refs.calls k1 a0_0 _ _ y334 _ _ y337 t358 t361 _ ?side1 ?side2 ?side3 ?side4 A42.out).mono ?_); (case side1 => repeat (first | exact (Kd.R_reads' HO_341001.out).2.2 | (with_reducible refine Kd.C_alloc ?_ _) | (with_reducible refine Kd.C_drewN ?_ _) | (with_reducible refine Kd.C_drew ?_))); (case side2 => exact (Kd.R_reads' HO_341001.out).2.1); (case side3 => repeat (first | exact (Kd.R_reads' HO_6.out).2.2 | (with_reducible refine Kd.C_alloc ?_ _) | (with_reducible refine Kd.C_drewN ?_ _) | (with_reducible refine Kd.C_drew ?_))); (case side4 => exact (Kd.R_reads' HO_6.out).2.1); rintro e w51 ⟨v359, rfl, ho0, hb⟩; have KG360 := Aside0.mk (show ∀ k_, some k_ = (v359 : Value).ownBlock → wr.heap.size ≤ k_ from fun k_ h_ => Nat.le_trans RB.out.size (Kd.R_base ho0 k_ h_.symm)); have nR_ := Aside0.mk (below_step (by repeat (first | (with_reducible first | exact RB.out | apply below_alloc | apply pw_below_drewN | apply below_drew1) | exact RB.out)) hb); clear RB; have RB := nR_; clear nR_; refine ⟨_, rfl, ?_⟩; have n0_ := Aside0.mk (Kd.V_elder' (by (with_reducible repeat (first | apply Kd.V_alloc | apply Kd.V_drewN | apply Kd.V_drew)); exact HO_1.out) (Kd.R_base ho0) hb); have n1_ := Aside0.mk (Kd.R_elder' (by (with_reducible repeat (first | apply Kd.R_alloc | apply Kd.R_drewN | apply Kd.R_drew)); exact HO_6.out) (Kd.R_base ho0) hb); have n2_ := Aside0.mk (Kd.R_elder' (by (with_reducible repeat (first | apply Kd.R_alloc | apply Kd.R_drewN | apply Kd.R_drew)); exact HO_7.out) (Kd.R_base ho0) hb); have n3_ := Aside0.mk (Kd.R_elder' (by (with_reducible repeat (first | apply Kd.R_alloc | apply Kd.R_drewN | apply Kd.R_drew)); exact HO_9.out) (Kd.R_base ho0) hb); have n4_ := Aside0.mk (Kd.N_elder' (by (with_reducible repeat (first | apply Kd.N_alloc | apply Kd.N_drewN | apply Kd.N_drew)); exact HO_11.out) (Kd.R_base ho0) hb); have n5_ := Aside0.mk (Kd.R_below (by (with_reducible repeat (first | apply Kd.R_alloc | apply Kd.R_drewN | apply Kd.R_drew)); exact HO_341001.out) hb); have n6_ := Aside0.mk (Kd.R_elder' (by (with_reducible repeat (first | apply Kd.R_alloc | apply Kd.R_drewN | apply Kd.R_drew)); exact HO356.out) (Kd.R_base ho0) hb); have n7_ := Aside0.mk (Kd.R_lower (Kd.R_new' (Kd.R_new' (Kd.R_new' (Kd.R_new' (Kd.R_newM (M := fun k_ => (w.heap.size ≤ k_)) ho0 (below_size (by repeat (first | (with_reducible first | exact HB.out | apply below_alloc | apply pw_below_drewN | apply below_drew1 | refine below_set ?_ GE328.out | refine below_set ?_ GE340.out) | exact HB.out))) (fun k_ h_ => h_)) (Kd.R_lt (by (with_reducible repeat (first | apply Kd.R_alloc | apply Kd.R_drewN | apply Kd.R_drew)); exact HO_6.out))) (Kd.R_lt (by (with_reducible repeat (first | apply Kd.R_alloc | apply Kd.R_drewN | apply Kd.R_drew)); exact HO_7.out))) (Kd.R_lt (by (with_reducible repeat (first | apply Kd.R_alloc | apply Kd.R_drewN | apply Kd.R_drew)); exact HO_9.out))) (Kd.R_lt (by (with_reducible repeat (first | apply Kd.R_alloc | apply Kd.R_drewN | apply Kd.R_drew)); exact HO356.out))) (below_size (by repeat (first | (with_reducible first | exact HB.out | apply below_alloc | apply pw_below_drewN | apply below_drew1 | refine below_set ?_ GE328.out | refine below_set ?_ GE340.out) | exact HB.out)))); have n8_ := Aside0.mk (blk_below (g := gb328) (o := .cells #[.int .i64 a0_0, .slice A0_1 l0_1.length c0_1] 24 (0, 0)) (by (with_reducible repeat (first | refine blk_drewN ?_ _ | refine blk_drew ?_ | refine blk_alloc ?_ _)); exact BK328.out) hb); have n9_ := Aside0.mk (blk_below (g := gb340) (o := .cells #[.int .i64 a0_0, .slice Ao30 y334.length co30] 24 (0, 0)) (by (with_reducible repeat (first | refine blk_drewN ?_ _ | refine blk_drew ?_ | refine blk_alloc ?_ _)); exact BK340.out) hb); have n10_ := Aside0.mk (below_step (by repeat (first | (with_reducible first | exact HB.out | apply below_alloc | apply pw_below_drewN | apply below_drew1 | refine below_set ?_ GE328.out | refine below_set ?_ GE340.out) | exact HB.out)) hb); clear HO_1; clear HO_6; clear HO_7; clear HO_9; clear HO_11; clear HO_341001; clear HO356; clear BK328; clear BK340; clear HB; have HO_1 := n0_; have HO_6 := n1_; have HO_7 := n2_; have HO_9 := n3_; have HO_11 := n4_; have HO_341001 := n5_; have HO356 := n6_; have HO360 := n7_; have BK328 := n8_; have BK340 := n9_; have HB := n10_; clear n0_ n1_ n2_ n3_ n4_ n5_ n6_ n7_ n8_ n9_ n10_; (try clear hb); (try clear hb2); (try clear hk); (try clear hi); (try clear ho0); have hcz52_0 : w51.cell? ⟨gb340, 0, none⟩ = some (.int .i64 a0_0) := (blk_cell BK340.out 0).trans rfl; have hcz52_1 : w51.cell? ⟨gb340, 1, none⟩ = some (.slice Ao30 y334.length co30) := (blk_cell BK340.out 1).trans rfl; have hfz52_0 := blk_frozen BK340.out 0; have hfz52_1 := blk_frozen BK340.out 1) | ((with_reducible refine gate_callee (f := 42) rfl ?_); refine goesL_ (some 72) rfl rfl Try.func42 (by kernel_rfl) rfl #[.agg #[.int .i64 a0_0, .slice Ao30 y334.length co30], .slice Ao48 y337.length co48] rfl (by (try simp only [List.map_toArray, List.map_cons, List.map_nil]); first | done | rfl | (simp only [List.length_drop, List.length_take]; rfl)) ?_; (with_reducible refine (island_Members.calls k1 a0_0 _ _ y334 _ _ y337 t362 t365 _ ?side1 ?side2 ?side3 ?side4 A43.out).mono ?_); (case side1 => repeat (first | exact (Kd.R_reads' HO_341001.out).2.2 | (with_reducible refine Kd.C_alloc ?_ _) | (with_reducible refine Kd.C_drewN ?_ _) | (with_reducible refine Kd.C_drew ?_))); (case side2 => exact (Kd.R_reads' HO_341001.out).2.1); (case side3 => repeat (first | exact (Kd.R_reads' HO_6.out).2.2 | (with_reducible refine Kd.C_alloc ?_ _) | (with_reducible refine Kd.C_drewN ?_ _) | (with_reducible refine Kd.C_drew ?_))); (case side4 => exact (Kd.R_reads' HO_6.out).2.1); rintro e w53 ⟨v363, rfl, ho0, hb⟩; have KC := Aside0.mk (CRows.of_S ho0); have KB := Aside0.mk (KB_of ho0 (by repeat (first | (with_reducible first | exact RB.out | apply below_alloc | apply pw_below_drewN | apply below_drew1) | exact RB.out))); have KP356 := Aside0.mk (KP_of ho0 (by (with_reducible repeat (first | apply Kd.R_alloc | apply Kd.R_drewN | apply Kd.R_drew)); exact HO356.out)); have KP360 := Aside0.mk (KP_of ho0 (by (with_reducible repeat (first | apply Kd.R_alloc | apply Kd.R_drewN | apply Kd.R_drew)); exact HO360.out)); have nR_ := Aside0.mk (below_step (by repeat (first | (with_reducible first | exact RB.out | apply below_alloc | apply pw_below_drewN | apply below_drew1) | exact RB.out)) hb); clear RB; have RB := nR_; clear nR_; have RC := Aside0.mk (Below.refl w53.heap.size w53); refine ⟨_, rfl, ?_⟩; have n0_ := Aside0.mk (Kd.V_elder' (by (with_reducible repeat (first | apply Kd.V_alloc | apply Kd.V_drewN | apply Kd.V_drew)); exact HO_1.out) (Kd.N_base (Kd.S_N ho0)) hb); have n1_ := Aside0.mk (Kd.R_below (by (with_reducible repeat (first | apply Kd.R_alloc | apply Kd.R_drewN | apply Kd.R_drew)); exact HO_6.out) hb); have n2_ := Aside0.mk (Kd.R_below (by (with_reducible repeat (first | apply Kd.R_alloc | apply Kd.R_drewN | apply Kd.R_drew)); exact HO_7.out) hb); have n3_ := Aside0.mk (Kd.R_below (by (with_reducible repeat (first | apply Kd.R_alloc | apply Kd.R_drewN | apply Kd.R_drew)); exact HO_9.out) hb); have n4_ := Aside0.mk (Kd.N_elder' (by (with_reducible repeat (first | apply Kd.N_alloc | apply Kd.N_drewN | apply Kd.N_drew)); exact HO_11.out) (Kd.N_base (Kd.S_N ho0)) hb); have n5_ := Aside0.mk (Kd.R_below (by (with_reducible repeat (first | apply Kd.R_alloc | apply Kd.R_drewN | apply Kd.R_drew)); exact HO_341001.out) hb); have n6_ := Aside0.mk (Kd.R_below (by (with_reducible repeat (first | apply Kd.R_alloc | apply Kd.R_drewN | apply Kd.R_drew)); exact HO356.out) hb); have n7_ := Aside0.mk (Kd.R_below (by (with_reducible repeat (first | apply Kd.R_alloc | apply Kd.R_drewN | apply Kd.R_drew)); exact HO360.out) hb); have n8_ := Aside0.mk (Kd.N_lower (Kd.N_mono (ok' := fun k_ => (P1_ k_ ∨ w.heap.size ≤ k_) ∧ some k_ ≠ (.slice Ao48 y337.length co48 : Value).ownBlock ∧ some k_ ≠ (v342 : Value).ownBlock ∧ some k_ ≠ (v346 : Value).ownBlock ∧ some k_ ≠ (v350 : Value).ownBlock ∧ some k_ ≠ (.slice Ao30 y334.length co30 : Value).ownBlock ∧ some k_ ≠ (v355 : Value).ownBlock ∧ some k_ ≠ (v359 : Value).ownBlock ∧ k_ ≠ gb328 ∧ k_ ≠ gb340) (Kd.S_N (Kd.S_bound ho0)) (fun k_ hk_ => ⟨(.inr (Nat.le_trans (below_size (by repeat (first | (with_reducible first | exact HB.out | apply below_alloc | apply pw_below_drewN | apply below_drew1 | refine below_set ?_ GE328.out | refine below_set ?_ GE340.out) | exact HB.out))) hk_.2.1)), (Kd.fresh' (Kd.R_lt (by (with_reducible repeat (first | apply Kd.R_alloc | apply Kd.R_drewN | apply Kd.R_drew)); exact HO_6.out)) k_ hk_.2.1), (Kd.fresh' (Kd.R_lt (by (with_reducible repeat (first | apply Kd.R_alloc | apply Kd.R_drewN | apply Kd.R_drew)); exact HO_7.out)) k_ hk_.2.1), (Kd.fresh' (Kd.R_lt (by (with_reducible repeat (first | apply Kd.R_alloc | apply Kd.R_drewN | apply Kd.R_drew)); exact HO_9.out)) k_ hk_.2.1), (Kd.fresh' (Kd.N_lt (by (with_reducible repeat (first | apply Kd.N_alloc | apply Kd.N_drewN | apply Kd.N_drew)); exact HO_11.out)) k_ hk_.2.1), (Kd.fresh' (Kd.R_lt (by (with_reducible repeat (first | apply Kd.R_alloc | apply Kd.R_drewN | apply Kd.R_drew)); exact HO_341001.out)) k_ hk_.2.1), (Kd.fresh' (Kd.R_lt (by (with_reducible repeat (first | apply Kd.R_alloc | apply Kd.R_drewN | apply Kd.R_drew)); exact HO356.out)) k_ hk_.2.1), (Kd.fresh' (Kd.R_lt (by (with_reducible repeat (first | apply Kd.R_alloc | apply Kd.R_drewN | apply Kd.R_drew)); exact HO360.out)) k_ hk_.2.1), (Kd.freshB (g := gb328) (o := .cells #[.int .i64 a0_0, .slice A0_1 l0_1.length c0_1] 24 (0, 0)) (by (with_reducible repeat (first | refine blk_drewN ?_ _ | refine blk_drew ?_ | refine blk_alloc ?_ _)); exact BK328.out) k_ hk_.2.1), (Kd.freshB (g := gb340) (o := .cells #[.int .i64 a0_0, .slice Ao30 y334.length co30] 24 (0, 0)) (by (with_reducible repeat (first | refine blk_drewN ?_ _ | refine blk_drew ?_ | refine blk_alloc ?_ _)); exact BK340.out) k_ hk_.2.1)⟩)) (below_size (by repeat (first | (with_reducible first | exact HB.out | apply below_alloc | apply pw_below_drewN | apply below_drew1 | refine below_set ?_ GE328.out | refine below_set ?_ GE340.out) | exact HB.out)))); have n9_ := Aside0.mk (blk_below (g := gb328) (o := .cells #[.int .i64 a0_0, .slice A0_1 l0_1.length c0_1] 24 (0, 0)) (by (with_reducible repeat (first | refine blk_drewN ?_ _ | refine blk_drew ?_ | refine blk_alloc ?_ _)); exact BK328.out) hb); have n10_ := Aside0.mk (blk_below (g := gb340) (o := .cells #[.int .i64 a0_0, .slice Ao30 y334.length co30] 24 (0, 0)) (by (with_reducible repeat (first | refine blk_drewN ?_ _ | refine blk_drew ?_ | refine blk_alloc ?_ _)); exact BK340.out) hb); have n11_ := Aside0.mk (below_step (by repeat (first | (with_reducible first | exact HB.out | apply below_alloc | apply pw_below_drewN | apply below_drew1 | refine below_set ?_ GE328.out | refine below_set ?_ GE340.out) | exact HB.out)) hb); clear HO_1; clear HO_6; clear HO_7; clear HO_9; clear HO_11; clear HO_341001; clear HO356; clear HO360; clear BK328; clear BK340; clear HB; have HO_1 := n0_; have HO_6 := n1_; have HO_7 := n2_; have HO_9 := n3_; have HO_11 := n4_; have HO_341001 := n5_; have HO356 := n6_; have HO360 := n7_; have HO364 := n8_; have BK328 := n9_; have BK340 := n10_; have HB := n11_; clear n0_ n1_ n2_ n3_ n4_ n5_ n6_ n7_ n8_ n9_ n10_ n11_; (try clear hb); (try clear hb2); (try clear hk); (try clear hi); (try clear ho0); have hcz54_0 : w53.cell? ⟨gb340, 0, none⟩ = some (.int .i64 a0_0) := (blk_cell BK340.out 0).trans rfl; have hcz54_1 : w53.cell? ⟨gb340, 1, none⟩ = some (.slice Ao30 y334.length co30) := (blk_cell BK340.out 1).trans rfl; have hfz54_0 := blk_frozen BK340.out 0; have hfz54_1 := blk_frozen BK340.out 1) | ((with_reducible refine gate_callee (f := 43) rfl ?_); refine goesL_ (some 78) rfl rfl Try.func43 (by kernel_rfl) rfl #[.agg #[.int .i64 a0_0, .slice Ao30 y334.length co30], .slice Ao48 y337.length co48] rfl (by (try simp only [List.map_toArray, List.map_cons, List.map_nil]); first | done | rfl | (simp only [List.length_drop, List.length_take]; rfl)) ?_; (with_reducible refine (island_Count.calls k1 a0_0 _ _ y334 _ _ y337 t366 t367 _ ?side1 ?side2 ?side3 ?side4 A44.out).mono ?_); (case side1 => repeat (first | exact (Kd.R_reads' HO_341001.out).2.2 | (with_reducible refine Kd.C_alloc ?_ _) | (with_reducible refine Kd.C_drewN ?_ _) | (with_reducible refine Kd.C_drew ?_))); (case side2 => exact (Kd.R_reads' HO_341001.out).2.1); (case side3 => repeat (first | exact (Kd.R_reads' HO_6.out).2.2 | (with_reducible refine Kd.C_alloc ?_ _) | (with_reducible refine Kd.C_drewN ?_ _) | (with_reducible refine Kd.C_drew ?_))); (case side4 => exact (Kd.R_reads' HO_6.out).2.1); rintro e w55 ⟨rfl, hb⟩; have nR_ := Aside0.mk (below_step (by repeat (first | (with_reducible first | exact RB.out | apply below_alloc | apply pw_below_drewN | apply below_drew1) | exact RB.out)) hb); clear RB; have RB := nR_; clear nR_; (try (have nR_ := Aside0.mk (below_step (by repeat (first | (with_reducible first | exact RC.out | apply below_alloc | apply pw_below_drewN | apply below_drew1) | exact RC.out)) hb); clear RC; have RC := nR_; clear nR_)); refine ⟨_, rfl, ?_⟩; have n0_ := Aside0.mk (Kd.V_below (by (with_reducible repeat (first | apply Kd.V_alloc | apply Kd.V_drewN | apply Kd.V_drew)); exact HO_1.out) hb); have n1_ := Aside0.mk (Kd.R_below (by (with_reducible repeat (first | apply Kd.R_alloc | apply Kd.R_drewN | apply Kd.R_drew)); exact HO_6.out) hb); have n2_ := Aside0.mk (Kd.R_below (by (with_reducible repeat (first | apply Kd.R_alloc | apply Kd.R_drewN | apply Kd.R_drew)); exact HO_7.out) hb); have n3_ := Aside0.mk (Kd.R_below (by (with_reducible repeat (first | apply Kd.R_alloc | apply Kd.R_drewN | apply Kd.R_drew)); exact HO_9.out) hb); have n4_ := Aside0.mk (Kd.N_below (by (with_reducible repeat (first | apply Kd.N_alloc | apply Kd.N_drewN | apply Kd.N_drew)); exact HO_11.out) hb); have n5_ := Aside0.mk (Kd.R_below (by (with_reducible repeat (first | apply Kd.R_alloc | apply Kd.R_drewN | apply Kd.R_drew)); exact HO_341001.out) hb); have n6_ := Aside0.mk (Kd.R_below (by (with_reducible repeat (first | apply Kd.R_alloc | apply Kd.R_drewN | apply Kd.R_drew)); exact HO356.out) hb); have n7_ := Aside0.mk (Kd.R_below (by (with_reducible repeat (first | apply Kd.R_alloc | apply Kd.R_drewN | apply Kd.R_drew)); exact HO360.out) hb); have n8_ := Aside0.mk (Kd.N_below (by (with_reducible repeat (first | apply Kd.N_alloc | apply Kd.N_drewN | apply Kd.N_drew)); exact HO364.out) hb); have n9_ := Aside0.mk (blk_below (g := gb328) (o := .cells #[.int .i64 a0_0, .slice A0_1 l0_1.length c0_1] 24 (0, 0)) (by (with_reducible repeat (first | refine blk_drewN ?_ _ | refine blk_drew ?_ | refine blk_alloc ?_ _)); exact BK328.out) hb); have n10_ := Aside0.mk (blk_below (g := gb340) (o := .cells #[.int .i64 a0_0, .slice Ao30 y334.length co30] 24 (0, 0)) (by (with_reducible repeat (first | refine blk_drewN ?_ _ | refine blk_drew ?_ | refine blk_alloc ?_ _)); exact BK340.out) hb); have n11_ := Aside0.mk (below_step (by repeat (first | (with_reducible first | exact HB.out | apply below_alloc | apply pw_below_drewN | apply below_drew1 | refine below_set ?_ GE328.out | refine below_set ?_ GE340.out) | exact HB.out)) hb); clear HO_1; clear HO_6; clear HO_7; clear HO_9; clear HO_11; clear HO_341001; clear HO356; clear HO360; clear HO364; clear BK328; clear BK340; clear HB; have HO_1 := n0_; have HO_6 := n1_; have HO_7 := n2_; have HO_9 := n3_; have HO_11 := n4_; have HO_341001 := n5_; have HO356 := n6_; have HO360 := n7_; have HO364 := n8_; have BK328 := n9_; have BK340 := n10_; have HB := n11_; clear n0_ n1_ n2_ n3_ n4_ n5_ n6_ n7_ n8_ n9_ n10_ n11_; (try clear hb); (try clear hb2); (try clear hk); (try clear hi)))
       (try simp only [Act.put, List.setIfInBounds_toArray, List.set_cons_zero, List.set_cons_succ])
       go_cut [134] (fun v134 wc => ∃ (kq : Nat) (x134_44 : Bool), v134 = .bool x134_44 ∧ Aside0 (pylonlaw15_IslandMatches.j1 kq l1 y337 t341 t344 t345 t349 x13_1 t354 t358 t362 x134_44 a0_0 l0_1 a0_0 y334 = some r) ∧ Aside0 (kq ≤ k1) ∧ Aside0 (Kd.V (Kd.int .i64) 3 wc w.heap.size (fun k_ => (P1_ k_ ∨ w.heap.size ≤ k_) ∧ some k_ ≠ ((.slice Ao48 y337.length co48) : Value).ownBlock ∧ some k_ ≠ (v342 : Value).ownBlock ∧ some k_ ≠ (v346 : Value).ownBlock ∧ some k_ ≠ (v350 : Value).ownBlock ∧ some k_ ≠ (v355 : Value).ownBlock ∧ some k_ ≠ (v359 : Value).ownBlock ∧ some k_ ≠ (v363 : Value).ownBlock ∧ some k_ ≠ ((.slice Ao30 y334.length co30) : Value).ownBlock ∧ k_ ≠ gb328 ∧ k_ ≠ gb340) (.slice A1 l1.length c1) l1) ∧ Aside0 (Kd.R (Kd.int .i64) 3 wc w.heap.size (fun k_ => (w.heap.size ≤ k_) ∧ some k_ ≠ (v342 : Value).ownBlock ∧ some k_ ≠ (v346 : Value).ownBlock ∧ some k_ ≠ (v355 : Value).ownBlock ∧ some k_ ≠ (v359 : Value).ownBlock) (.slice Ao48 y337.length co48) y337) ∧ Aside0 (Kd.R (Kd.int .i64) 3 wc w.heap.size (fun k_ => (w.heap.size ≤ k_) ∧ some k_ ≠ ((.slice Ao48 y337.length co48) : Value).ownBlock ∧ some k_ ≠ (v346 : Value).ownBlock ∧ some k_ ≠ (v355 : Value).ownBlock ∧ some k_ ≠ (v359 : Value).ownBlock) v342 t341) ∧ Aside0 (Kd.R (Kd.int .i64) 3 wc w.heap.size (fun k_ => (w.heap.size ≤ k_) ∧ some k_ ≠ ((.slice Ao48 y337.length co48) : Value).ownBlock ∧ some k_ ≠ (v342 : Value).ownBlock ∧ some k_ ≠ (v355 : Value).ownBlock ∧ some k_ ≠ (v359 : Value).ownBlock) v346 t345) ∧ Aside0 (Kd.N (Kd.slice 3 (Kd.int .i64)) 25 wc w.heap.size (fun k_ => (P1_ k_ ∨ w.heap.size ≤ k_) ∧ some k_ ≠ ((.slice Ao48 y337.length co48) : Value).ownBlock ∧ some k_ ≠ (v342 : Value).ownBlock ∧ some k_ ≠ (v346 : Value).ownBlock ∧ some k_ ≠ (v355 : Value).ownBlock ∧ some k_ ≠ (v359 : Value).ownBlock ∧ some k_ ≠ (v363 : Value).ownBlock ∧ some k_ ≠ ((.slice Ao30 y334.length co30) : Value).ownBlock ∧ k_ ≠ gb328 ∧ k_ ≠ gb340) v350 t349) ∧ Aside0 (Kd.R (Kd.int .i64) 3 wc w.heap.size (fun k_ => (w.heap.size ≤ k_) ∧ some k_ ≠ ((.slice Ao48 y337.length co48) : Value).ownBlock ∧ some k_ ≠ (v342 : Value).ownBlock ∧ some k_ ≠ (v346 : Value).ownBlock ∧ some k_ ≠ (v359 : Value).ownBlock) v355 t354) ∧ Aside0 (Kd.R (Kd.int .i64) 3 wc w.heap.size (fun k_ => (w.heap.size ≤ k_) ∧ some k_ ≠ ((.slice Ao48 y337.length co48) : Value).ownBlock ∧ some k_ ≠ (v342 : Value).ownBlock ∧ some k_ ≠ (v346 : Value).ownBlock ∧ some k_ ≠ (v355 : Value).ownBlock) v359 t358) ∧ Aside0 (Kd.N (Kd.slice 3 (Kd.int .i64)) 25 wc w.heap.size (fun k_ => (P1_ k_ ∨ w.heap.size ≤ k_) ∧ some k_ ≠ ((.slice Ao48 y337.length co48) : Value).ownBlock ∧ some k_ ≠ (v342 : Value).ownBlock ∧ some k_ ≠ (v346 : Value).ownBlock ∧ some k_ ≠ (v350 : Value).ownBlock ∧ some k_ ≠ (v355 : Value).ownBlock ∧ some k_ ≠ (v359 : Value).ownBlock ∧ some k_ ≠ ((.slice Ao30 y334.length co30) : Value).ownBlock ∧ k_ ≠ gb328 ∧ k_ ≠ gb340) v363 t362) ∧ Aside0 (Kd.R k37 37 wc w.heap.size (fun k_ => (w.heap.size ≤ k_)) (.slice Ao30 y334.length co30) y334) ∧ Aside0 (wc.heap[gb328]? = some (.cells #[.int .i64 a0_0, (.slice A0_1 l0_1.length c0_1)] 24 (0, 0))) ∧ Aside0 (wc.heap[gb340]? = some (.cells #[.int .i64 a0_0, (.slice Ao30 y334.length co30)] 24 (0, 0))) ∧ Aside0 (Below w.heap.size w wc) ∧ Aside0 (Below wr.heap.size wr wc) ∧ Aside0 (Below w53.heap.size w53 wc))
       case first =>
        have H := HC45.out
        clear HC45
        by_cases c56 : t357 = t344
        ·rw [if_pos c56] at H
         have c56b0 : (t357 == t344) = true := beq_iff_eq.mpr c56
         have c56b1 : (t357 != t344) = false := bne_eq_false_iff_eq.mpr c56
         clear c56
         (first | rw [c56b0] | (simp only [i64_w, i32_w]; rw [c56b0]) | skip)
         by_cases c57 : t361 = t344
         ·rw [if_pos c57] at H
          have c57b0 : (t361 == t344) = true := beq_iff_eq.mpr c57
          have c57b1 : (t361 != t344) = false := bne_eq_false_iff_eq.mpr c57
          clear c57
          by_cases c58 : t365 = t344
          ·rw [if_pos c58] at H
           have c58b0 : (t365 == t344) = true := beq_iff_eq.mpr c58
           have c58b1 : (t365 != t344) = false := bne_eq_false_iff_eq.mpr c58
           clear c58
           by_cases c59 : t367 = t344
           ·rw [if_pos c59] at H
            have c59b0 : (t367 == t344) = true := beq_iff_eq.mpr c59
            have c59b1 : (t367 != t344) = false := bne_eq_false_iff_eq.mpr c59
            clear c59
            by_cases c60 : t366 = (t345.length : Int)
            ·rw [if_pos c60] at H
             have c60b0 : (t366 == (t345.length : Int)) = true := beq_iff_eq.mpr c60
             have c60b1 : (t366 != (t345.length : Int)) = false := bne_eq_false_iff_eq.mpr c60
             clear c60
             replace H := Option.bind_eq_some_iff.mp H
             obtain ⟨t368, A610, H⟩ := H
             replace H : (if t368 = true then ((pylonref14_Ints.f k1 t358 t345).bind fun t369 => (if t369 = true then ((pylonref15_Rows.f k1 t362 t349).bind fun t370 => (if t370 = true then ((pylonref14_Same.f k1 a0_0 y334 a0_0 l0_1).bind fun t371 => (if t371 = true then ((pylonref14_Ints.f k1 y337 l1).bind fun t372 => (pylonlaw15_IslandMatches.j1 k1 l1 y337 t341 t344 t345 t349 x13_1 t354 t358 t362 (!t372) a0_0 l0_1 a0_0 y334)) else (pylonlaw15_IslandMatches.j1 k1 l1 y337 t341 t344 t345 t349 x13_1 t354 t358 t362 true a0_0 l0_1 a0_0 y334))) else (pylonlaw15_IslandMatches.j1 k1 l1 y337 t341 t344 t345 t349 x13_1 t354 t358 t362 true a0_0 l0_1 a0_0 y334))) else (pylonlaw15_IslandMatches.j1 k1 l1 y337 t341 t344 t345 t349 x13_1 t354 t358 t362 true a0_0 l0_1 a0_0 y334))) else (pylonlaw15_IslandMatches.j1 k1 l1 y337 t341 t344 t345 t349 x13_1 t354 t358 t362 true a0_0 l0_1 a0_0 y334)) = some r := H
             have A61 := Aside0.mk A610
             clear A610
             by_cases c62 : t368 = true
             ·subst c62
              have H1 : ((pylonref14_Ints.f k1 t358 t345).bind fun t369 => (if t369 = true then ((pylonref15_Rows.f k1 t362 t349).bind fun t370 => (if t370 = true then ((pylonref14_Same.f k1 a0_0 y334 a0_0 l0_1).bind fun t371 => (if t371 = true then ((pylonref14_Ints.f k1 y337 l1).bind fun t372 => (pylonlaw15_IslandMatches.j1 k1 l1 y337 t341 t344 t345 t349 x13_1 t354 t358 t362 (!t372) a0_0 l0_1 a0_0 y334)) else (pylonlaw15_IslandMatches.j1 k1 l1 y337 t341 t344 t345 t349 x13_1 t354 t358 t362 true a0_0 l0_1 a0_0 y334))) else (pylonlaw15_IslandMatches.j1 k1 l1 y337 t341 t344 t345 t349 x13_1 t354 t358 t362 true a0_0 l0_1 a0_0 y334))) else (pylonlaw15_IslandMatches.j1 k1 l1 y337 t341 t344 t345 t349 x13_1 t354 t358 t362 true a0_0 l0_1 a0_0 y334))) = some r := by rw [if_pos rfl] at H; exact H
              clear H
              have H := H1
              clear H1
              replace H := Option.bind_eq_some_iff.mp H
              obtain ⟨t369, A630, H⟩ := H
              replace H : (if t369 = true then ((pylonref15_Rows.f k1 t362 t349).bind fun t370 => (if t370 = true then ((pylonref14_Same.f k1 a0_0 y334 a0_0 l0_1).bind fun t371 => (if t371 = true then ((pylonref14_Ints.f k1 y337 l1).bind fun t372 => (pylonlaw15_IslandMatches.j1 k1 l1 y337 t341 t344 t345 t349 x13_1 t354 t358 t362 (!t372) a0_0 l0_1 a0_0 y334)) else (pylonlaw15_IslandMatches.j1 k1 l1 y337 t341 t344 t345 t349 x13_1 t354 t358 t362 true a0_0 l0_1 a0_0 y334))) else (pylonlaw15_IslandMatches.j1 k1 l1 y337 t341 t344 t345 t349 x13_1 t354 t358 t362 true a0_0 l0_1 a0_0 y334))) else (pylonlaw15_IslandMatches.j1 k1 l1 y337 t341 t344 t345 t349 x13_1 t354 t358 t362 true a0_0 l0_1 a0_0 y334)) = some r := H
              have A63 := Aside0.mk A630
              clear A630
              by_cases c64 : t369 = true
              ·subst c64
               have H1 : ((pylonref15_Rows.f k1 t362 t349).bind fun t370 => (if t370 = true then ((pylonref14_Same.f k1 a0_0 y334 a0_0 l0_1).bind fun t371 => (if t371 = true then ((pylonref14_Ints.f k1 y337 l1).bind fun t372 => (pylonlaw15_IslandMatches.j1 k1 l1 y337 t341 t344 t345 t349 x13_1 t354 t358 t362 (!t372) a0_0 l0_1 a0_0 y334)) else (pylonlaw15_IslandMatches.j1 k1 l1 y337 t341 t344 t345 t349 x13_1 t354 t358 t362 true a0_0 l0_1 a0_0 y334))) else (pylonlaw15_IslandMatches.j1 k1 l1 y337 t341 t344 t345 t349 x13_1 t354 t358 t362 true a0_0 l0_1 a0_0 y334))) = some r := by rw [if_pos rfl] at H; exact H
               clear H
               have H := H1
               clear H1
               replace H := Option.bind_eq_some_iff.mp H
               obtain ⟨t370, A650, H⟩ := H
               replace H : (if t370 = true then ((pylonref14_Same.f k1 a0_0 y334 a0_0 l0_1).bind fun t371 => (if t371 = true then ((pylonref14_Ints.f k1 y337 l1).bind fun t372 => (pylonlaw15_IslandMatches.j1 k1 l1 y337 t341 t344 t345 t349 x13_1 t354 t358 t362 (!t372) a0_0 l0_1 a0_0 y334)) else (pylonlaw15_IslandMatches.j1 k1 l1 y337 t341 t344 t345 t349 x13_1 t354 t358 t362 true a0_0 l0_1 a0_0 y334))) else (pylonlaw15_IslandMatches.j1 k1 l1 y337 t341 t344 t345 t349 x13_1 t354 t358 t362 true a0_0 l0_1 a0_0 y334)) = some r := H
               have A65 := Aside0.mk A650
               clear A650
               by_cases c66 : t370 = true
               ·subst c66
                have H1 : ((pylonref14_Same.f k1 a0_0 y334 a0_0 l0_1).bind fun t371 => (if t371 = true then ((pylonref14_Ints.f k1 y337 l1).bind fun t372 => (pylonlaw15_IslandMatches.j1 k1 l1 y337 t341 t344 t345 t349 x13_1 t354 t358 t362 (!t372) a0_0 l0_1 a0_0 y334)) else (pylonlaw15_IslandMatches.j1 k1 l1 y337 t341 t344 t345 t349 x13_1 t354 t358 t362 true a0_0 l0_1 a0_0 y334))) = some r := by rw [if_pos rfl] at H; exact H
                clear H
                have H := H1
                clear H1
                replace H := Option.bind_eq_some_iff.mp H
                obtain ⟨t371, A670, H⟩ := H
                replace H : (if t371 = true then ((pylonref14_Ints.f k1 y337 l1).bind fun t372 => (pylonlaw15_IslandMatches.j1 k1 l1 y337 t341 t344 t345 t349 x13_1 t354 t358 t362 (!t372) a0_0 l0_1 a0_0 y334)) else (pylonlaw15_IslandMatches.j1 k1 l1 y337 t341 t344 t345 t349 x13_1 t354 t358 t362 true a0_0 l0_1 a0_0 y334)) = some r := H
                have A67 := Aside0.mk A670
                clear A670
                by_cases c68 : t371 = true
                ·subst c68
                 have H1 : ((pylonref14_Ints.f k1 y337 l1).bind fun t372 => (pylonlaw15_IslandMatches.j1 k1 l1 y337 t341 t344 t345 t349 x13_1 t354 t358 t362 (!t372) a0_0 l0_1 a0_0 y334)) = some r := by rw [if_pos rfl] at H; exact H
                 clear H
                 have H := H1
                 clear H1
                 replace H := Option.bind_eq_some_iff.mp H
                 obtain ⟨t372, A690, H⟩ := H
                 replace H : (pylonlaw15_IslandMatches.j1 k1 l1 y337 t341 t344 t345 t349 x13_1 t354 t358 t362 (!t372) a0_0 l0_1 a0_0 y334) = some r := H
                 have A69 := Aside0.mk A690
                 clear A690
                 have H' := Aside0.mk H
                 clear H
                 obtain ⟨Ao70, co70, eo70⟩ := Kd.R_slice HO_9.out
                 subst eo70
                 obtain ⟨Ao71, co71, eo71⟩ := Kd.R_slice HO356.out
                 subst eo71
                 obtain ⟨Ao72, co72, eo72⟩ := Kd.R_slice HO_7.out
                 subst eo72
                 go_wp2_with (first | (go_at_call 36; (with_reducible refine (pylonref14_Ints.calls k1 _ _ t354 _ _ t341 true _ ?side1 ?side2 ?side3 ?side4 A61.out).mono ?_); (case side1 => repeat (first | exact (Kd.R_reads' HO356.out).2.2 | (with_reducible refine Kd.C_alloc ?_ _) | (with_reducible refine Kd.C_drewN ?_ _) | (with_reducible refine Kd.C_drew ?_))); (case side2 => exact (Kd.R_reads' HO356.out).2.1); (case side3 => repeat (first | exact (Kd.R_reads' HO_7.out).2.2 | (with_reducible refine Kd.C_alloc ?_ _) | (with_reducible refine Kd.C_drewN ?_ _) | (with_reducible refine Kd.C_drew ?_))); (case side4 => exact (Kd.R_reads' HO_7.out).2.1); rintro e w' ⟨rfl, ⟨nd, rfl⟩⟩; obtain ⟨Ao73, co73, eo73⟩ := Kd.R_slice HO360.out; subst eo73) | (go_at_call 36; (with_reducible refine (pylonref14_Ints.calls k1 _ _ t358 _ _ t345 true _ ?side1 ?side2 ?side3 ?side4 A63.out).mono ?_); (case side1 => repeat (first | exact (Kd.R_reads' HO360.out).2.2 | (with_reducible refine Kd.C_alloc ?_ _) | (with_reducible refine Kd.C_drewN ?_ _) | (with_reducible refine Kd.C_drew ?_))); (case side2 => exact (Kd.R_reads' HO360.out).2.1); (case side3 => repeat (first | exact (Kd.R_reads' HO_9.out).2.2 | (with_reducible refine Kd.C_alloc ?_ _) | (with_reducible refine Kd.C_drewN ?_ _) | (with_reducible refine Kd.C_drew ?_))); (case side4 => exact (Kd.R_reads' HO_9.out).2.1); rintro e w' ⟨rfl, ⟨nd, rfl⟩⟩; obtain ⟨Ao74, co74, eo74⟩ := Kd.N_slice HO364.out; subst eo74; obtain ⟨Ao75, co75, eo75⟩ := Kd.N_slice HO_11.out; subst eo75) | (go_at_call 44; (with_reducible refine (pylonref15_Rows.calls k1 _ _ t362 _ _ t349 true _ ?side1 ?side2 ?side3 ?side4 A65.out).mono ?_); (case side1 => repeat (first | exact (Kd.N_reads' HO364.out).2.2 | (with_reducible refine Kd.C_alloc ?_ _) | (with_reducible refine Kd.C_drewN ?_ _) | (with_reducible refine Kd.C_drew ?_))); (case side2 => exact (Kd.N_reads' HO364.out).2.1); (case side3 => repeat (first | exact (Kd.N_reads' HO_11.out).2.2 | (with_reducible refine Kd.C_alloc ?_ _) | (with_reducible refine Kd.C_drewN ?_ _) | (with_reducible refine Kd.C_drew ?_))); (case side4 => exact (Kd.N_reads' HO_11.out).2.1); rintro e w' ⟨rfl, ⟨nd, rfl⟩⟩; have hnb76 := NB340_328.out; have hnc76 := NB328_340.out; have hcz77_0 : w55.cell? ⟨gb340, 0, none⟩ = some (.int .i64 a0_0) := (blk_cell BK340.out 0).trans rfl; have hcz77_1 : w55.cell? ⟨gb340, 1, none⟩ = some (.slice Ao30 y334.length co30) := (blk_cell BK340.out 1).trans rfl; have hfz77_0 := blk_frozen BK340.out 0; have hfz77_1 := blk_frozen BK340.out 1; have hcz78_0 : w55.cell? ⟨gb328, 0, none⟩ = some (.int .i64 a0_0) := (blk_cell BK328.out 0).trans rfl; have hcz78_1 : w55.cell? ⟨gb328, 1, none⟩ = some (.slice A0_1 l0_1.length c0_1) := (blk_cell BK328.out 1).trans rfl; have hfz78_0 := blk_frozen BK328.out 0; have hfz78_1 := blk_frozen BK328.out 1) | (go_at_call 45; (with_reducible refine (pylonref14_Same.calls k1 a0_0 _ _ y334 a0_0 _ _ l0_1 true _ ?side1 ?side2 ?side3 ?side4 A67.out).mono ?_); (case side1 => repeat (first | exact (Kd.R_reads' HO_341001.out).2.2 | (with_reducible refine Kd.C_alloc ?_ _) | (with_reducible refine Kd.C_drewN ?_ _) | (with_reducible refine Kd.C_drew ?_))); (case side2 => exact (Kd.R_reads' HO_341001.out).2.1); (case side3 => repeat (first | exact (Kd.C_below HR0_1.out (by repeat (first | (with_reducible first | exact HB.out | apply below_alloc | apply pw_below_drewN | apply below_drew1 | refine below_set ?_ GE328.out | refine below_set ?_ GE340.out) | exact HB.out))) | (with_reducible refine Kd.C_alloc ?_ _) | (with_reducible refine Kd.C_drewN ?_ _) | (with_reducible refine Kd.C_drew ?_))); (case side4 => exact HC0_1.out); rintro e w79 ⟨rfl, hb⟩; have nR_ := Aside0.mk (below_step (by repeat (first | (with_reducible first | exact RB.out | apply below_alloc | apply pw_below_drewN | apply below_drew1) | exact RB.out)) hb); clear RB; have RB := nR_; clear nR_; (try (have nR_ := Aside0.mk (below_step (by repeat (first | (with_reducible first | exact RC.out | apply below_alloc | apply pw_below_drewN | apply below_drew1) | exact RC.out)) hb); clear RC; have RC := nR_; clear nR_)); have n0_ := Aside0.mk (Kd.V_below (by (with_reducible repeat (first | apply Kd.V_alloc | apply Kd.V_drewN | apply Kd.V_drew)); exact HO_1.out) hb); have n1_ := Aside0.mk (Kd.R_below (by (with_reducible repeat (first | apply Kd.R_alloc | apply Kd.R_drewN | apply Kd.R_drew)); exact HO_6.out) hb); have n2_ := Aside0.mk (Kd.R_below (by (with_reducible repeat (first | apply Kd.R_alloc | apply Kd.R_drewN | apply Kd.R_drew)); exact HO_7.out) hb); have n3_ := Aside0.mk (Kd.R_below (by (with_reducible repeat (first | apply Kd.R_alloc | apply Kd.R_drewN | apply Kd.R_drew)); exact HO_9.out) hb); have n4_ := Aside0.mk (Kd.N_below (by (with_reducible repeat (first | apply Kd.N_alloc | apply Kd.N_drewN | apply Kd.N_drew)); exact HO_11.out) hb); have n5_ := Aside0.mk (Kd.R_below (by (with_reducible repeat (first | apply Kd.R_alloc | apply Kd.R_drewN | apply Kd.R_drew)); exact HO_341001.out) hb); have n6_ := Aside0.mk (Kd.R_below (by (with_reducible repeat (first | apply Kd.R_alloc | apply Kd.R_drewN | apply Kd.R_drew)); exact HO356.out) hb); have n7_ := Aside0.mk (Kd.R_below (by (with_reducible repeat (first | apply Kd.R_alloc | apply Kd.R_drewN | apply Kd.R_drew)); exact HO360.out) hb); have n8_ := Aside0.mk (Kd.N_below (by (with_reducible repeat (first | apply Kd.N_alloc | apply Kd.N_drewN | apply Kd.N_drew)); exact HO364.out) hb); have n9_ := Aside0.mk (blk_below (g := gb328) (o := .cells #[.int .i64 a0_0, .slice A0_1 l0_1.length c0_1] 24 (0, 0)) (by (with_reducible repeat (first | refine blk_drewN ?_ _ | refine blk_drew ?_ | refine blk_alloc ?_ _)); exact BK328.out) hb); have n10_ := Aside0.mk (blk_below (g := gb340) (o := .cells #[.int .i64 a0_0, .slice Ao30 y334.length co30] 24 (0, 0)) (by (with_reducible repeat (first | refine blk_drewN ?_ _ | refine blk_drew ?_ | refine blk_alloc ?_ _)); exact BK340.out) hb); have n11_ := Aside0.mk (below_step (by repeat (first | (with_reducible first | exact HB.out | apply below_alloc | apply pw_below_drewN | apply below_drew1 | refine below_set ?_ GE328.out | refine below_set ?_ GE340.out) | exact HB.out)) hb); clear HO_1; clear HO_6; clear HO_7; clear HO_9; clear HO_11; clear HO_341001; clear HO356; clear HO360; clear HO364; clear BK328; clear BK340; clear HB; have HO_1 := n0_; have HO_6 := n1_; have HO_7 := n2_; have HO_9 := n3_; have HO_11 := n4_; have HO_341001 := n5_; have HO356 := n6_; have HO360 := n7_; have HO364 := n8_; have BK328 := n9_; have BK340 := n10_; have HB := n11_; clear n0_ n1_ n2_ n3_ n4_ n5_ n6_ n7_ n8_ n9_ n10_ n11_; (try clear hb); (try clear hb2); (try clear hk); (try clear hi)) | (go_at_call 36; (with_reducible refine (pylonref14_Ints.calls k1 _ _ y337 _ _ l1 t372 _ ?side1 ?side2 ?side3 ?side4 A69.out).mono ?_); (case side1 => repeat (first | exact (Kd.R_reads' HO_6.out).2.2 | (with_reducible refine Kd.C_alloc ?_ _) | (with_reducible refine Kd.C_drewN ?_ _) | (with_reducible refine Kd.C_drew ?_))); (case side2 => exact (Kd.R_reads' HO_6.out).2.1); (case side3 => repeat (first | exact (Kd.V_reads' HO_1.out).2.2 | (with_reducible refine Kd.C_alloc ?_ _) | (with_reducible refine Kd.C_drewN ?_ _) | (with_reducible refine Kd.C_drew ?_))); (case side4 => exact (Kd.V_reads' HO_1.out).2.1); rintro e w' ⟨rfl, ⟨nd, rfl⟩⟩))
                 go_meet
                 case rel => exact ⟨_, (!t372), (by first | rfl | (simp; done) | (simp [*]; done)), H', ⟨by have := HK1.out; first | omega | exact Nat.le_refl _⟩, ⟨by (with_reducible repeat (first | apply Kd.V_alloc | apply Kd.V_drewN | apply Kd.V_drew)); exact Kd.V_mono HO_1.out (fun _ hk => ⟨hk.1.1.1.1, ⟨hk.1.1.1.2.1, ⟨hk.1.1.1.2.2.1, ⟨hk.1.1.1.2.2.2.1, ⟨hk.1.1.1.2.2.2.2.1, ⟨hk.1.1.2, ⟨hk.1.2, ⟨hk.2, ⟨hk.1.1.1.2.2.2.2.2.1, ⟨hk.1.1.1.2.2.2.2.2.2.1, hk.1.1.1.2.2.2.2.2.2.2⟩⟩⟩⟩⟩⟩⟩⟩⟩⟩)⟩, ⟨by (with_reducible repeat (first | apply Kd.R_alloc | apply Kd.R_drewN | apply Kd.R_drew)); exact Kd.R_mono HO_6.out (fun _ hk => ⟨hk.1.1.1, ⟨hk.1.1.2.1, ⟨hk.1.1.2.2, ⟨hk.1.2, hk.2⟩⟩⟩⟩)⟩, ⟨by (with_reducible repeat (first | apply Kd.R_alloc | apply Kd.R_drewN | apply Kd.R_drew)); exact Kd.R_mono HO_7.out (fun _ hk => ⟨hk.1.1.1, ⟨hk.1.1.2.1, ⟨hk.1.1.2.2, ⟨hk.1.2, hk.2⟩⟩⟩⟩)⟩, ⟨by (with_reducible repeat (first | apply Kd.R_alloc | apply Kd.R_drewN | apply Kd.R_drew)); exact Kd.R_mono HO_9.out (fun _ hk => ⟨hk.1.1.1, ⟨hk.1.1.2.1, ⟨hk.1.1.2.2, ⟨hk.1.2, hk.2⟩⟩⟩⟩)⟩, ⟨by (with_reducible repeat (first | apply Kd.N_alloc | apply Kd.N_drewN | apply Kd.N_drew)); exact Kd.N_mono HO_11.out (fun _ hk => ⟨hk.1.1.1.1, ⟨hk.1.1.1.2.1, ⟨hk.1.1.1.2.2.1, ⟨hk.1.1.1.2.2.2.1, ⟨hk.1.1.2, ⟨hk.1.2, ⟨hk.2, ⟨hk.1.1.1.2.2.2.2.1, ⟨hk.1.1.1.2.2.2.2.2.1, hk.1.1.1.2.2.2.2.2.2⟩⟩⟩⟩⟩⟩⟩⟩⟩)⟩, ⟨by (with_reducible repeat (first | apply Kd.R_alloc | apply Kd.R_drewN | apply Kd.R_drew)); exact Kd.R_mono HO356.out (fun _ hk => ⟨hk.1.1.1.1.1, ⟨hk.1.1.1.2, ⟨hk.1.1.2, ⟨hk.1.2, hk.2⟩⟩⟩⟩)⟩, ⟨by (with_reducible repeat (first | apply Kd.R_alloc | apply Kd.R_drewN | apply Kd.R_drew)); exact Kd.R_mono HO360.out (fun _ hk => ⟨hk.1.1.1.1.1, ⟨hk.1.1.1.2, ⟨hk.1.1.2, ⟨hk.1.2, hk.2⟩⟩⟩⟩)⟩, ⟨by (with_reducible repeat (first | apply Kd.N_alloc | apply Kd.N_drewN | apply Kd.N_drew)); exact Kd.N_mono HO364.out (fun _ hk => ⟨hk.1, ⟨hk.2.1, ⟨hk.2.2.1, ⟨hk.2.2.2.1, ⟨hk.2.2.2.2.1, ⟨hk.2.2.2.2.2.2.1, ⟨hk.2.2.2.2.2.2.2.1, ⟨hk.2.2.2.2.2.1, ⟨hk.2.2.2.2.2.2.2.2.1, hk.2.2.2.2.2.2.2.2.2⟩⟩⟩⟩⟩⟩⟩⟩⟩)⟩, ⟨by (with_reducible repeat (first | apply Kd.R_alloc | apply Kd.R_drewN | apply Kd.R_drew)); exact HO_341001.out⟩, ⟨by (with_reducible repeat (first | refine blk_drewN ?_ _ | refine blk_drew ?_ | refine blk_alloc ?_ _)); exact BK328.out⟩, ⟨by (with_reducible repeat (first | refine blk_drewN ?_ _ | refine blk_drew ?_ | refine blk_alloc ?_ _)); exact BK340.out⟩, ⟨by repeat (first | (with_reducible first | exact HB.out | apply below_alloc | apply pw_below_drewN | apply below_drew1 | refine below_set ?_ GE328.out | refine below_set ?_ GE340.out) | exact HB.out)⟩, ⟨by repeat (first | (with_reducible first | exact RB.out | apply below_alloc | apply pw_below_drewN | apply below_drew1) | exact RB.out)⟩, ⟨by repeat (first | (with_reducible first | exact RC.out | apply below_alloc | apply pw_below_drewN | apply below_drew1) | exact RC.out)⟩⟩
                ·replace c68 := Bool.eq_false_iff.mpr c68
                 subst c68
                 have H1 : (pylonlaw15_IslandMatches.j1 k1 l1 y337 t341 t344 t345 t349 x13_1 t354 t358 t362 true a0_0 l0_1 a0_0 y334) = some r := by rw [if_neg (show ¬ (false = true) by decide)] at H; exact H
                 clear H
                 have H := H1
                 clear H1
                 have H' := Aside0.mk H
                 clear H
                 obtain ⟨Ao80, co80, eo80⟩ := Kd.R_slice HO_9.out
                 subst eo80
                 obtain ⟨Ao81, co81, eo81⟩ := Kd.R_slice HO356.out
                 subst eo81
                 obtain ⟨Ao82, co82, eo82⟩ := Kd.R_slice HO_7.out
                 subst eo82
                 go_wp2_with (first | (go_at_call 36; (with_reducible refine (pylonref14_Ints.calls k1 _ _ t354 _ _ t341 true _ ?side1 ?side2 ?side3 ?side4 A61.out).mono ?_); (case side1 => repeat (first | exact (Kd.R_reads' HO356.out).2.2 | (with_reducible refine Kd.C_alloc ?_ _) | (with_reducible refine Kd.C_drewN ?_ _) | (with_reducible refine Kd.C_drew ?_))); (case side2 => exact (Kd.R_reads' HO356.out).2.1); (case side3 => repeat (first | exact (Kd.R_reads' HO_7.out).2.2 | (with_reducible refine Kd.C_alloc ?_ _) | (with_reducible refine Kd.C_drewN ?_ _) | (with_reducible refine Kd.C_drew ?_))); (case side4 => exact (Kd.R_reads' HO_7.out).2.1); rintro e w' ⟨rfl, ⟨nd, rfl⟩⟩; obtain ⟨Ao83, co83, eo83⟩ := Kd.R_slice HO360.out; subst eo83) | (go_at_call 36; (with_reducible refine (pylonref14_Ints.calls k1 _ _ t358 _ _ t345 true _ ?side1 ?side2 ?side3 ?side4 A63.out).mono ?_); (case side1 => repeat (first | exact (Kd.R_reads' HO360.out).2.2 | (with_reducible refine Kd.C_alloc ?_ _) | (with_reducible refine Kd.C_drewN ?_ _) | (with_reducible refine Kd.C_drew ?_))); (case side2 => exact (Kd.R_reads' HO360.out).2.1); (case side3 => repeat (first | exact (Kd.R_reads' HO_9.out).2.2 | (with_reducible refine Kd.C_alloc ?_ _) | (with_reducible refine Kd.C_drewN ?_ _) | (with_reducible refine Kd.C_drew ?_))); (case side4 => exact (Kd.R_reads' HO_9.out).2.1); rintro e w' ⟨rfl, ⟨nd, rfl⟩⟩; obtain ⟨Ao84, co84, eo84⟩ := Kd.N_slice HO364.out; subst eo84; obtain ⟨Ao85, co85, eo85⟩ := Kd.N_slice HO_11.out; subst eo85) | (go_at_call 44; (with_reducible refine (pylonref15_Rows.calls k1 _ _ t362 _ _ t349 true _ ?side1 ?side2 ?side3 ?side4 A65.out).mono ?_); (case side1 => repeat (first | exact (Kd.N_reads' HO364.out).2.2 | (with_reducible refine Kd.C_alloc ?_ _) | (with_reducible refine Kd.C_drewN ?_ _) | (with_reducible refine Kd.C_drew ?_))); (case side2 => exact (Kd.N_reads' HO364.out).2.1); (case side3 => repeat (first | exact (Kd.N_reads' HO_11.out).2.2 | (with_reducible refine Kd.C_alloc ?_ _) | (with_reducible refine Kd.C_drewN ?_ _) | (with_reducible refine Kd.C_drew ?_))); (case side4 => exact (Kd.N_reads' HO_11.out).2.1); rintro e w' ⟨rfl, ⟨nd, rfl⟩⟩; have hnb86 := NB340_328.out; have hnc86 := NB328_340.out; have hcz87_0 : w55.cell? ⟨gb340, 0, none⟩ = some (.int .i64 a0_0) := (blk_cell BK340.out 0).trans rfl; have hcz87_1 : w55.cell? ⟨gb340, 1, none⟩ = some (.slice Ao30 y334.length co30) := (blk_cell BK340.out 1).trans rfl; have hfz87_0 := blk_frozen BK340.out 0; have hfz87_1 := blk_frozen BK340.out 1; have hcz88_0 : w55.cell? ⟨gb328, 0, none⟩ = some (.int .i64 a0_0) := (blk_cell BK328.out 0).trans rfl; have hcz88_1 : w55.cell? ⟨gb328, 1, none⟩ = some (.slice A0_1 l0_1.length c0_1) := (blk_cell BK328.out 1).trans rfl; have hfz88_0 := blk_frozen BK328.out 0; have hfz88_1 := blk_frozen BK328.out 1) | (go_at_call 45; (with_reducible refine (pylonref14_Same.calls k1 a0_0 _ _ y334 a0_0 _ _ l0_1 false _ ?side1 ?side2 ?side3 ?side4 A67.out).mono ?_); (case side1 => repeat (first | exact (Kd.R_reads' HO_341001.out).2.2 | (with_reducible refine Kd.C_alloc ?_ _) | (with_reducible refine Kd.C_drewN ?_ _) | (with_reducible refine Kd.C_drew ?_))); (case side2 => exact (Kd.R_reads' HO_341001.out).2.1); (case side3 => repeat (first | exact (Kd.C_below HR0_1.out (by repeat (first | (with_reducible first | exact HB.out | apply below_alloc | apply pw_below_drewN | apply below_drew1 | refine below_set ?_ GE328.out | refine below_set ?_ GE340.out) | exact HB.out))) | (with_reducible refine Kd.C_alloc ?_ _) | (with_reducible refine Kd.C_drewN ?_ _) | (with_reducible refine Kd.C_drew ?_))); (case side4 => exact HC0_1.out); rintro e w89 ⟨rfl, hb⟩; have nR_ := Aside0.mk (below_step (by repeat (first | (with_reducible first | exact RB.out | apply below_alloc | apply pw_below_drewN | apply below_drew1) | exact RB.out)) hb); clear RB; have RB := nR_; clear nR_; (try (have nR_ := Aside0.mk (below_step (by repeat (first | (with_reducible first | exact RC.out | apply below_alloc | apply pw_below_drewN | apply below_drew1) | exact RC.out)) hb); clear RC; have RC := nR_; clear nR_)); have n0_ := Aside0.mk (Kd.V_below (by (with_reducible repeat (first | apply Kd.V_alloc | apply Kd.V_drewN | apply Kd.V_drew)); exact HO_1.out) hb); have n1_ := Aside0.mk (Kd.R_below (by (with_reducible repeat (first | apply Kd.R_alloc | apply Kd.R_drewN | apply Kd.R_drew)); exact HO_6.out) hb); have n2_ := Aside0.mk (Kd.R_below (by (with_reducible repeat (first | apply Kd.R_alloc | apply Kd.R_drewN | apply Kd.R_drew)); exact HO_7.out) hb); have n3_ := Aside0.mk (Kd.R_below (by (with_reducible repeat (first | apply Kd.R_alloc | apply Kd.R_drewN | apply Kd.R_drew)); exact HO_9.out) hb); have n4_ := Aside0.mk (Kd.N_below (by (with_reducible repeat (first | apply Kd.N_alloc | apply Kd.N_drewN | apply Kd.N_drew)); exact HO_11.out) hb); have n5_ := Aside0.mk (Kd.R_below (by (with_reducible repeat (first | apply Kd.R_alloc | apply Kd.R_drewN | apply Kd.R_drew)); exact HO_341001.out) hb); have n6_ := Aside0.mk (Kd.R_below (by (with_reducible repeat (first | apply Kd.R_alloc | apply Kd.R_drewN | apply Kd.R_drew)); exact HO356.out) hb); have n7_ := Aside0.mk (Kd.R_below (by (with_reducible repeat (first | apply Kd.R_alloc | apply Kd.R_drewN | apply Kd.R_drew)); exact HO360.out) hb); have n8_ := Aside0.mk (Kd.N_below (by (with_reducible repeat (first | apply Kd.N_alloc | apply Kd.N_drewN | apply Kd.N_drew)); exact HO364.out) hb); have n9_ := Aside0.mk (blk_below (g := gb328) (o := .cells #[.int .i64 a0_0, .slice A0_1 l0_1.length c0_1] 24 (0, 0)) (by (with_reducible repeat (first | refine blk_drewN ?_ _ | refine blk_drew ?_ | refine blk_alloc ?_ _)); exact BK328.out) hb); have n10_ := Aside0.mk (blk_below (g := gb340) (o := .cells #[.int .i64 a0_0, .slice Ao30 y334.length co30] 24 (0, 0)) (by (with_reducible repeat (first | refine blk_drewN ?_ _ | refine blk_drew ?_ | refine blk_alloc ?_ _)); exact BK340.out) hb); have n11_ := Aside0.mk (below_step (by repeat (first | (with_reducible first | exact HB.out | apply below_alloc | apply pw_below_drewN | apply below_drew1 | refine below_set ?_ GE328.out | refine below_set ?_ GE340.out) | exact HB.out)) hb); clear HO_1; clear HO_6; clear HO_7; clear HO_9; clear HO_11; clear HO_341001; clear HO356; clear HO360; clear HO364; clear BK328; clear BK340; clear HB; have HO_1 := n0_; have HO_6 := n1_; have HO_7 := n2_; have HO_9 := n3_; have HO_11 := n4_; have HO_341001 := n5_; have HO356 := n6_; have HO360 := n7_; have HO364 := n8_; have BK328 := n9_; have BK340 := n10_; have HB := n11_; clear n0_ n1_ n2_ n3_ n4_ n5_ n6_ n7_ n8_ n9_ n10_ n11_; (try clear hb); (try clear hb2); (try clear hk); (try clear hi)))
                 go_meet
                 case rel => exact ⟨_, (true), (by first | rfl | (simp; done) | (simp [*]; done)), H', ⟨by have := HK1.out; first | omega | exact Nat.le_refl _⟩, ⟨by (with_reducible repeat (first | apply Kd.V_alloc | apply Kd.V_drewN | apply Kd.V_drew)); exact Kd.V_mono HO_1.out (fun _ hk => ⟨hk.1.1.1.1, ⟨hk.1.1.1.2.1, ⟨hk.1.1.1.2.2.1, ⟨hk.1.1.1.2.2.2.1, ⟨hk.1.1.1.2.2.2.2.1, ⟨hk.1.1.2, ⟨hk.1.2, ⟨hk.2, ⟨hk.1.1.1.2.2.2.2.2.1, ⟨hk.1.1.1.2.2.2.2.2.2.1, hk.1.1.1.2.2.2.2.2.2.2⟩⟩⟩⟩⟩⟩⟩⟩⟩⟩)⟩, ⟨by (with_reducible repeat (first | apply Kd.R_alloc | apply Kd.R_drewN | apply Kd.R_drew)); exact Kd.R_mono HO_6.out (fun _ hk => ⟨hk.1.1.1, ⟨hk.1.1.2.1, ⟨hk.1.1.2.2, ⟨hk.1.2, hk.2⟩⟩⟩⟩)⟩, ⟨by (with_reducible repeat (first | apply Kd.R_alloc | apply Kd.R_drewN | apply Kd.R_drew)); exact Kd.R_mono HO_7.out (fun _ hk => ⟨hk.1.1.1, ⟨hk.1.1.2.1, ⟨hk.1.1.2.2, ⟨hk.1.2, hk.2⟩⟩⟩⟩)⟩, ⟨by (with_reducible repeat (first | apply Kd.R_alloc | apply Kd.R_drewN | apply Kd.R_drew)); exact Kd.R_mono HO_9.out (fun _ hk => ⟨hk.1.1.1, ⟨hk.1.1.2.1, ⟨hk.1.1.2.2, ⟨hk.1.2, hk.2⟩⟩⟩⟩)⟩, ⟨by (with_reducible repeat (first | apply Kd.N_alloc | apply Kd.N_drewN | apply Kd.N_drew)); exact Kd.N_mono HO_11.out (fun _ hk => ⟨hk.1.1.1.1, ⟨hk.1.1.1.2.1, ⟨hk.1.1.1.2.2.1, ⟨hk.1.1.1.2.2.2.1, ⟨hk.1.1.2, ⟨hk.1.2, ⟨hk.2, ⟨hk.1.1.1.2.2.2.2.1, ⟨hk.1.1.1.2.2.2.2.2.1, hk.1.1.1.2.2.2.2.2.2⟩⟩⟩⟩⟩⟩⟩⟩⟩)⟩, ⟨by (with_reducible repeat (first | apply Kd.R_alloc | apply Kd.R_drewN | apply Kd.R_drew)); exact Kd.R_mono HO356.out (fun _ hk => ⟨hk.1.1.1.1.1, ⟨hk.1.1.1.2, ⟨hk.1.1.2, ⟨hk.1.2, hk.2⟩⟩⟩⟩)⟩, ⟨by (with_reducible repeat (first | apply Kd.R_alloc | apply Kd.R_drewN | apply Kd.R_drew)); exact Kd.R_mono HO360.out (fun _ hk => ⟨hk.1.1.1.1.1, ⟨hk.1.1.1.2, ⟨hk.1.1.2, ⟨hk.1.2, hk.2⟩⟩⟩⟩)⟩, ⟨by (with_reducible repeat (first | apply Kd.N_alloc | apply Kd.N_drewN | apply Kd.N_drew)); exact Kd.N_mono HO364.out (fun _ hk => ⟨hk.1, ⟨hk.2.1, ⟨hk.2.2.1, ⟨hk.2.2.2.1, ⟨hk.2.2.2.2.1, ⟨hk.2.2.2.2.2.2.1, ⟨hk.2.2.2.2.2.2.2.1, ⟨hk.2.2.2.2.2.1, ⟨hk.2.2.2.2.2.2.2.2.1, hk.2.2.2.2.2.2.2.2.2⟩⟩⟩⟩⟩⟩⟩⟩⟩)⟩, ⟨by (with_reducible repeat (first | apply Kd.R_alloc | apply Kd.R_drewN | apply Kd.R_drew)); exact HO_341001.out⟩, ⟨by (with_reducible repeat (first | refine blk_drewN ?_ _ | refine blk_drew ?_ | refine blk_alloc ?_ _)); exact BK328.out⟩, ⟨by (with_reducible repeat (first | refine blk_drewN ?_ _ | refine blk_drew ?_ | refine blk_alloc ?_ _)); exact BK340.out⟩, ⟨by repeat (first | (with_reducible first | exact HB.out | apply below_alloc | apply pw_below_drewN | apply below_drew1 | refine below_set ?_ GE328.out | refine below_set ?_ GE340.out) | exact HB.out)⟩, ⟨by repeat (first | (with_reducible first | exact RB.out | apply below_alloc | apply pw_below_drewN | apply below_drew1) | exact RB.out)⟩, ⟨by repeat (first | (with_reducible first | exact RC.out | apply below_alloc | apply pw_below_drewN | apply below_drew1) | exact RC.out)⟩⟩
               ·replace c66 := Bool.eq_false_iff.mpr c66
                subst c66
                have H1 : (pylonlaw15_IslandMatches.j1 k1 l1 y337 t341 t344 t345 t349 x13_1 t354 t358 t362 true a0_0 l0_1 a0_0 y334) = some r := by rw [if_neg (show ¬ (false = true) by decide)] at H; exact H
                clear H
                have H := H1
                clear H1
                have H' := Aside0.mk H
                clear H
                obtain ⟨Ao90, co90, eo90⟩ := Kd.R_slice HO_9.out
                subst eo90
                obtain ⟨Ao91, co91, eo91⟩ := Kd.R_slice HO356.out
                subst eo91
                obtain ⟨Ao92, co92, eo92⟩ := Kd.R_slice HO_7.out
                subst eo92
                go_wp2_with (first | (go_at_call 36; (with_reducible refine (pylonref14_Ints.calls k1 _ _ t354 _ _ t341 true _ ?side1 ?side2 ?side3 ?side4 A61.out).mono ?_); (case side1 => repeat (first | exact (Kd.R_reads' HO356.out).2.2 | (with_reducible refine Kd.C_alloc ?_ _) | (with_reducible refine Kd.C_drewN ?_ _) | (with_reducible refine Kd.C_drew ?_))); (case side2 => exact (Kd.R_reads' HO356.out).2.1); (case side3 => repeat (first | exact (Kd.R_reads' HO_7.out).2.2 | (with_reducible refine Kd.C_alloc ?_ _) | (with_reducible refine Kd.C_drewN ?_ _) | (with_reducible refine Kd.C_drew ?_))); (case side4 => exact (Kd.R_reads' HO_7.out).2.1); rintro e w' ⟨rfl, ⟨nd, rfl⟩⟩; obtain ⟨Ao93, co93, eo93⟩ := Kd.R_slice HO360.out; subst eo93) | (go_at_call 36; (with_reducible refine (pylonref14_Ints.calls k1 _ _ t358 _ _ t345 true _ ?side1 ?side2 ?side3 ?side4 A63.out).mono ?_); (case side1 => repeat (first | exact (Kd.R_reads' HO360.out).2.2 | (with_reducible refine Kd.C_alloc ?_ _) | (with_reducible refine Kd.C_drewN ?_ _) | (with_reducible refine Kd.C_drew ?_))); (case side2 => exact (Kd.R_reads' HO360.out).2.1); (case side3 => repeat (first | exact (Kd.R_reads' HO_9.out).2.2 | (with_reducible refine Kd.C_alloc ?_ _) | (with_reducible refine Kd.C_drewN ?_ _) | (with_reducible refine Kd.C_drew ?_))); (case side4 => exact (Kd.R_reads' HO_9.out).2.1); rintro e w' ⟨rfl, ⟨nd, rfl⟩⟩; obtain ⟨Ao94, co94, eo94⟩ := Kd.N_slice HO364.out; subst eo94; obtain ⟨Ao95, co95, eo95⟩ := Kd.N_slice HO_11.out; subst eo95) | (go_at_call 44; (with_reducible refine (pylonref15_Rows.calls k1 _ _ t362 _ _ t349 false _ ?side1 ?side2 ?side3 ?side4 A65.out).mono ?_); (case side1 => repeat (first | exact (Kd.N_reads' HO364.out).2.2 | (with_reducible refine Kd.C_alloc ?_ _) | (with_reducible refine Kd.C_drewN ?_ _) | (with_reducible refine Kd.C_drew ?_))); (case side2 => exact (Kd.N_reads' HO364.out).2.1); (case side3 => repeat (first | exact (Kd.N_reads' HO_11.out).2.2 | (with_reducible refine Kd.C_alloc ?_ _) | (with_reducible refine Kd.C_drewN ?_ _) | (with_reducible refine Kd.C_drew ?_))); (case side4 => exact (Kd.N_reads' HO_11.out).2.1); rintro e w' ⟨rfl, ⟨nd, rfl⟩⟩))
                go_meet
                case rel => exact ⟨_, (true), (by first | rfl | (simp; done) | (simp [*]; done)), H', ⟨by have := HK1.out; first | omega | exact Nat.le_refl _⟩, ⟨by (with_reducible repeat (first | apply Kd.V_alloc | apply Kd.V_drewN | apply Kd.V_drew)); exact Kd.V_mono HO_1.out (fun _ hk => ⟨hk.1.1.1.1, ⟨hk.1.1.1.2.1, ⟨hk.1.1.1.2.2.1, ⟨hk.1.1.1.2.2.2.1, ⟨hk.1.1.1.2.2.2.2.1, ⟨hk.1.1.2, ⟨hk.1.2, ⟨hk.2, ⟨hk.1.1.1.2.2.2.2.2.1, ⟨hk.1.1.1.2.2.2.2.2.2.1, hk.1.1.1.2.2.2.2.2.2.2⟩⟩⟩⟩⟩⟩⟩⟩⟩⟩)⟩, ⟨by (with_reducible repeat (first | apply Kd.R_alloc | apply Kd.R_drewN | apply Kd.R_drew)); exact Kd.R_mono HO_6.out (fun _ hk => ⟨hk.1.1.1, ⟨hk.1.1.2.1, ⟨hk.1.1.2.2, ⟨hk.1.2, hk.2⟩⟩⟩⟩)⟩, ⟨by (with_reducible repeat (first | apply Kd.R_alloc | apply Kd.R_drewN | apply Kd.R_drew)); exact Kd.R_mono HO_7.out (fun _ hk => ⟨hk.1.1.1, ⟨hk.1.1.2.1, ⟨hk.1.1.2.2, ⟨hk.1.2, hk.2⟩⟩⟩⟩)⟩, ⟨by (with_reducible repeat (first | apply Kd.R_alloc | apply Kd.R_drewN | apply Kd.R_drew)); exact Kd.R_mono HO_9.out (fun _ hk => ⟨hk.1.1.1, ⟨hk.1.1.2.1, ⟨hk.1.1.2.2, ⟨hk.1.2, hk.2⟩⟩⟩⟩)⟩, ⟨by (with_reducible repeat (first | apply Kd.N_alloc | apply Kd.N_drewN | apply Kd.N_drew)); exact Kd.N_mono HO_11.out (fun _ hk => ⟨hk.1.1.1.1, ⟨hk.1.1.1.2.1, ⟨hk.1.1.1.2.2.1, ⟨hk.1.1.1.2.2.2.1, ⟨hk.1.1.2, ⟨hk.1.2, ⟨hk.2, ⟨hk.1.1.1.2.2.2.2.1, ⟨hk.1.1.1.2.2.2.2.2.1, hk.1.1.1.2.2.2.2.2.2⟩⟩⟩⟩⟩⟩⟩⟩⟩)⟩, ⟨by (with_reducible repeat (first | apply Kd.R_alloc | apply Kd.R_drewN | apply Kd.R_drew)); exact Kd.R_mono HO356.out (fun _ hk => ⟨hk.1.1.1.1.1, ⟨hk.1.1.1.2, ⟨hk.1.1.2, ⟨hk.1.2, hk.2⟩⟩⟩⟩)⟩, ⟨by (with_reducible repeat (first | apply Kd.R_alloc | apply Kd.R_drewN | apply Kd.R_drew)); exact Kd.R_mono HO360.out (fun _ hk => ⟨hk.1.1.1.1.1, ⟨hk.1.1.1.2, ⟨hk.1.1.2, ⟨hk.1.2, hk.2⟩⟩⟩⟩)⟩, ⟨by (with_reducible repeat (first | apply Kd.N_alloc | apply Kd.N_drewN | apply Kd.N_drew)); exact Kd.N_mono HO364.out (fun _ hk => ⟨hk.1, ⟨hk.2.1, ⟨hk.2.2.1, ⟨hk.2.2.2.1, ⟨hk.2.2.2.2.1, ⟨hk.2.2.2.2.2.2.1, ⟨hk.2.2.2.2.2.2.2.1, ⟨hk.2.2.2.2.2.1, ⟨hk.2.2.2.2.2.2.2.2.1, hk.2.2.2.2.2.2.2.2.2⟩⟩⟩⟩⟩⟩⟩⟩⟩)⟩, ⟨by (with_reducible repeat (first | apply Kd.R_alloc | apply Kd.R_drewN | apply Kd.R_drew)); exact HO_341001.out⟩, ⟨by (with_reducible repeat (first | refine blk_drewN ?_ _ | refine blk_drew ?_ | refine blk_alloc ?_ _)); exact BK328.out⟩, ⟨by (with_reducible repeat (first | refine blk_drewN ?_ _ | refine blk_drew ?_ | refine blk_alloc ?_ _)); exact BK340.out⟩, ⟨by repeat (first | (with_reducible first | exact HB.out | apply below_alloc | apply pw_below_drewN | apply below_drew1 | refine below_set ?_ GE328.out | refine below_set ?_ GE340.out) | exact HB.out)⟩, ⟨by repeat (first | (with_reducible first | exact RB.out | apply below_alloc | apply pw_below_drewN | apply below_drew1) | exact RB.out)⟩, ⟨by repeat (first | (with_reducible first | exact RC.out | apply below_alloc | apply pw_below_drewN | apply below_drew1) | exact RC.out)⟩⟩
              ·replace c64 := Bool.eq_false_iff.mpr c64
               subst c64
               have H1 : (pylonlaw15_IslandMatches.j1 k1 l1 y337 t341 t344 t345 t349 x13_1 t354 t358 t362 true a0_0 l0_1 a0_0 y334) = some r := by rw [if_neg (show ¬ (false = true) by decide)] at H; exact H
               clear H
               have H := H1
               clear H1
               have H' := Aside0.mk H
               clear H
               obtain ⟨Ao96, co96, eo96⟩ := Kd.R_slice HO_9.out
               subst eo96
               obtain ⟨Ao97, co97, eo97⟩ := Kd.R_slice HO356.out
               subst eo97
               obtain ⟨Ao98, co98, eo98⟩ := Kd.R_slice HO_7.out
               subst eo98
               go_wp2_with (first | (go_at_call 36; (with_reducible refine (pylonref14_Ints.calls k1 _ _ t354 _ _ t341 true _ ?side1 ?side2 ?side3 ?side4 A61.out).mono ?_); (case side1 => repeat (first | exact (Kd.R_reads' HO356.out).2.2 | (with_reducible refine Kd.C_alloc ?_ _) | (with_reducible refine Kd.C_drewN ?_ _) | (with_reducible refine Kd.C_drew ?_))); (case side2 => exact (Kd.R_reads' HO356.out).2.1); (case side3 => repeat (first | exact (Kd.R_reads' HO_7.out).2.2 | (with_reducible refine Kd.C_alloc ?_ _) | (with_reducible refine Kd.C_drewN ?_ _) | (with_reducible refine Kd.C_drew ?_))); (case side4 => exact (Kd.R_reads' HO_7.out).2.1); rintro e w' ⟨rfl, ⟨nd, rfl⟩⟩; obtain ⟨Ao99, co99, eo99⟩ := Kd.R_slice HO360.out; subst eo99) | (go_at_call 36; (with_reducible refine (pylonref14_Ints.calls k1 _ _ t358 _ _ t345 false _ ?side1 ?side2 ?side3 ?side4 A63.out).mono ?_); (case side1 => repeat (first | exact (Kd.R_reads' HO360.out).2.2 | (with_reducible refine Kd.C_alloc ?_ _) | (with_reducible refine Kd.C_drewN ?_ _) | (with_reducible refine Kd.C_drew ?_))); (case side2 => exact (Kd.R_reads' HO360.out).2.1); (case side3 => repeat (first | exact (Kd.R_reads' HO_9.out).2.2 | (with_reducible refine Kd.C_alloc ?_ _) | (with_reducible refine Kd.C_drewN ?_ _) | (with_reducible refine Kd.C_drew ?_))); (case side4 => exact (Kd.R_reads' HO_9.out).2.1); rintro e w' ⟨rfl, ⟨nd, rfl⟩⟩))
               go_meet
               case rel => exact ⟨_, (true), (by first | rfl | (simp; done) | (simp [*]; done)), H', ⟨by have := HK1.out; first | omega | exact Nat.le_refl _⟩, ⟨by (with_reducible repeat (first | apply Kd.V_alloc | apply Kd.V_drewN | apply Kd.V_drew)); exact Kd.V_mono HO_1.out (fun _ hk => ⟨hk.1.1.1.1, ⟨hk.1.1.1.2.1, ⟨hk.1.1.1.2.2.1, ⟨hk.1.1.1.2.2.2.1, ⟨hk.1.1.1.2.2.2.2.1, ⟨hk.1.1.2, ⟨hk.1.2, ⟨hk.2, ⟨hk.1.1.1.2.2.2.2.2.1, ⟨hk.1.1.1.2.2.2.2.2.2.1, hk.1.1.1.2.2.2.2.2.2.2⟩⟩⟩⟩⟩⟩⟩⟩⟩⟩)⟩, ⟨by (with_reducible repeat (first | apply Kd.R_alloc | apply Kd.R_drewN | apply Kd.R_drew)); exact Kd.R_mono HO_6.out (fun _ hk => ⟨hk.1.1.1, ⟨hk.1.1.2.1, ⟨hk.1.1.2.2, ⟨hk.1.2, hk.2⟩⟩⟩⟩)⟩, ⟨by (with_reducible repeat (first | apply Kd.R_alloc | apply Kd.R_drewN | apply Kd.R_drew)); exact Kd.R_mono HO_7.out (fun _ hk => ⟨hk.1.1.1, ⟨hk.1.1.2.1, ⟨hk.1.1.2.2, ⟨hk.1.2, hk.2⟩⟩⟩⟩)⟩, ⟨by (with_reducible repeat (first | apply Kd.R_alloc | apply Kd.R_drewN | apply Kd.R_drew)); exact Kd.R_mono HO_9.out (fun _ hk => ⟨hk.1.1.1, ⟨hk.1.1.2.1, ⟨hk.1.1.2.2, ⟨hk.1.2, hk.2⟩⟩⟩⟩)⟩, ⟨by (with_reducible repeat (first | apply Kd.N_alloc | apply Kd.N_drewN | apply Kd.N_drew)); exact Kd.N_mono HO_11.out (fun _ hk => ⟨hk.1.1.1.1, ⟨hk.1.1.1.2.1, ⟨hk.1.1.1.2.2.1, ⟨hk.1.1.1.2.2.2.1, ⟨hk.1.1.2, ⟨hk.1.2, ⟨hk.2, ⟨hk.1.1.1.2.2.2.2.1, ⟨hk.1.1.1.2.2.2.2.2.1, hk.1.1.1.2.2.2.2.2.2⟩⟩⟩⟩⟩⟩⟩⟩⟩)⟩, ⟨by (with_reducible repeat (first | apply Kd.R_alloc | apply Kd.R_drewN | apply Kd.R_drew)); exact Kd.R_mono HO356.out (fun _ hk => ⟨hk.1.1.1.1.1, ⟨hk.1.1.1.2, ⟨hk.1.1.2, ⟨hk.1.2, hk.2⟩⟩⟩⟩)⟩, ⟨by (with_reducible repeat (first | apply Kd.R_alloc | apply Kd.R_drewN | apply Kd.R_drew)); exact Kd.R_mono HO360.out (fun _ hk => ⟨hk.1.1.1.1.1, ⟨hk.1.1.1.2, ⟨hk.1.1.2, ⟨hk.1.2, hk.2⟩⟩⟩⟩)⟩, ⟨by (with_reducible repeat (first | apply Kd.N_alloc | apply Kd.N_drewN | apply Kd.N_drew)); exact Kd.N_mono HO364.out (fun _ hk => ⟨hk.1, ⟨hk.2.1, ⟨hk.2.2.1, ⟨hk.2.2.2.1, ⟨hk.2.2.2.2.1, ⟨hk.2.2.2.2.2.2.1, ⟨hk.2.2.2.2.2.2.2.1, ⟨hk.2.2.2.2.2.1, ⟨hk.2.2.2.2.2.2.2.2.1, hk.2.2.2.2.2.2.2.2.2⟩⟩⟩⟩⟩⟩⟩⟩⟩)⟩, ⟨by (with_reducible repeat (first | apply Kd.R_alloc | apply Kd.R_drewN | apply Kd.R_drew)); exact HO_341001.out⟩, ⟨by (with_reducible repeat (first | refine blk_drewN ?_ _ | refine blk_drew ?_ | refine blk_alloc ?_ _)); exact BK328.out⟩, ⟨by (with_reducible repeat (first | refine blk_drewN ?_ _ | refine blk_drew ?_ | refine blk_alloc ?_ _)); exact BK340.out⟩, ⟨by repeat (first | (with_reducible first | exact HB.out | apply below_alloc | apply pw_below_drewN | apply below_drew1 | refine below_set ?_ GE328.out | refine below_set ?_ GE340.out) | exact HB.out)⟩, ⟨by repeat (first | (with_reducible first | exact RB.out | apply below_alloc | apply pw_below_drewN | apply below_drew1) | exact RB.out)⟩, ⟨by repeat (first | (with_reducible first | exact RC.out | apply below_alloc | apply pw_below_drewN | apply below_drew1) | exact RC.out)⟩⟩
             ·replace c62 := Bool.eq_false_iff.mpr c62
              subst c62
              have H1 : (pylonlaw15_IslandMatches.j1 k1 l1 y337 t341 t344 t345 t349 x13_1 t354 t358 t362 true a0_0 l0_1 a0_0 y334) = some r := by rw [if_neg (show ¬ (false = true) by decide)] at H; exact H
              clear H
              have H := H1
              clear H1
              have H' := Aside0.mk H
              clear H
              obtain ⟨Ao100, co100, eo100⟩ := Kd.R_slice HO_9.out
              subst eo100
              obtain ⟨Ao101, co101, eo101⟩ := Kd.R_slice HO356.out
              subst eo101
              obtain ⟨Ao102, co102, eo102⟩ := Kd.R_slice HO_7.out
              subst eo102
              go_wp2_with (first | (go_at_call 36; (with_reducible refine (pylonref14_Ints.calls k1 _ _ t354 _ _ t341 false _ ?side1 ?side2 ?side3 ?side4 A61.out).mono ?_); (case side1 => repeat (first | exact (Kd.R_reads' HO356.out).2.2 | (with_reducible refine Kd.C_alloc ?_ _) | (with_reducible refine Kd.C_drewN ?_ _) | (with_reducible refine Kd.C_drew ?_))); (case side2 => exact (Kd.R_reads' HO356.out).2.1); (case side3 => repeat (first | exact (Kd.R_reads' HO_7.out).2.2 | (with_reducible refine Kd.C_alloc ?_ _) | (with_reducible refine Kd.C_drewN ?_ _) | (with_reducible refine Kd.C_drew ?_))); (case side4 => exact (Kd.R_reads' HO_7.out).2.1); rintro e w' ⟨rfl, ⟨nd, rfl⟩⟩))
              go_meet
              case rel => exact ⟨_, (true), (by first | rfl | (simp; done) | (simp [*]; done)), H', ⟨by have := HK1.out; first | omega | exact Nat.le_refl _⟩, ⟨by (with_reducible repeat (first | apply Kd.V_alloc | apply Kd.V_drewN | apply Kd.V_drew)); exact Kd.V_mono HO_1.out (fun _ hk => ⟨hk.1.1.1.1, ⟨hk.1.1.1.2.1, ⟨hk.1.1.1.2.2.1, ⟨hk.1.1.1.2.2.2.1, ⟨hk.1.1.1.2.2.2.2.1, ⟨hk.1.1.2, ⟨hk.1.2, ⟨hk.2, ⟨hk.1.1.1.2.2.2.2.2.1, ⟨hk.1.1.1.2.2.2.2.2.2.1, hk.1.1.1.2.2.2.2.2.2.2⟩⟩⟩⟩⟩⟩⟩⟩⟩⟩)⟩, ⟨by (with_reducible repeat (first | apply Kd.R_alloc | apply Kd.R_drewN | apply Kd.R_drew)); exact Kd.R_mono HO_6.out (fun _ hk => ⟨hk.1.1.1, ⟨hk.1.1.2.1, ⟨hk.1.1.2.2, ⟨hk.1.2, hk.2⟩⟩⟩⟩)⟩, ⟨by (with_reducible repeat (first | apply Kd.R_alloc | apply Kd.R_drewN | apply Kd.R_drew)); exact Kd.R_mono HO_7.out (fun _ hk => ⟨hk.1.1.1, ⟨hk.1.1.2.1, ⟨hk.1.1.2.2, ⟨hk.1.2, hk.2⟩⟩⟩⟩)⟩, ⟨by (with_reducible repeat (first | apply Kd.R_alloc | apply Kd.R_drewN | apply Kd.R_drew)); exact Kd.R_mono HO_9.out (fun _ hk => ⟨hk.1.1.1, ⟨hk.1.1.2.1, ⟨hk.1.1.2.2, ⟨hk.1.2, hk.2⟩⟩⟩⟩)⟩, ⟨by (with_reducible repeat (first | apply Kd.N_alloc | apply Kd.N_drewN | apply Kd.N_drew)); exact Kd.N_mono HO_11.out (fun _ hk => ⟨hk.1.1.1.1, ⟨hk.1.1.1.2.1, ⟨hk.1.1.1.2.2.1, ⟨hk.1.1.1.2.2.2.1, ⟨hk.1.1.2, ⟨hk.1.2, ⟨hk.2, ⟨hk.1.1.1.2.2.2.2.1, ⟨hk.1.1.1.2.2.2.2.2.1, hk.1.1.1.2.2.2.2.2.2⟩⟩⟩⟩⟩⟩⟩⟩⟩)⟩, ⟨by (with_reducible repeat (first | apply Kd.R_alloc | apply Kd.R_drewN | apply Kd.R_drew)); exact Kd.R_mono HO356.out (fun _ hk => ⟨hk.1.1.1.1.1, ⟨hk.1.1.1.2, ⟨hk.1.1.2, ⟨hk.1.2, hk.2⟩⟩⟩⟩)⟩, ⟨by (with_reducible repeat (first | apply Kd.R_alloc | apply Kd.R_drewN | apply Kd.R_drew)); exact Kd.R_mono HO360.out (fun _ hk => ⟨hk.1.1.1.1.1, ⟨hk.1.1.1.2, ⟨hk.1.1.2, ⟨hk.1.2, hk.2⟩⟩⟩⟩)⟩, ⟨by (with_reducible repeat (first | apply Kd.N_alloc | apply Kd.N_drewN | apply Kd.N_drew)); exact Kd.N_mono HO364.out (fun _ hk => ⟨hk.1, ⟨hk.2.1, ⟨hk.2.2.1, ⟨hk.2.2.2.1, ⟨hk.2.2.2.2.1, ⟨hk.2.2.2.2.2.2.1, ⟨hk.2.2.2.2.2.2.2.1, ⟨hk.2.2.2.2.2.1, ⟨hk.2.2.2.2.2.2.2.2.1, hk.2.2.2.2.2.2.2.2.2⟩⟩⟩⟩⟩⟩⟩⟩⟩)⟩, ⟨by (with_reducible repeat (first | apply Kd.R_alloc | apply Kd.R_drewN | apply Kd.R_drew)); exact HO_341001.out⟩, ⟨by (with_reducible repeat (first | refine blk_drewN ?_ _ | refine blk_drew ?_ | refine blk_alloc ?_ _)); exact BK328.out⟩, ⟨by (with_reducible repeat (first | refine blk_drewN ?_ _ | refine blk_drew ?_ | refine blk_alloc ?_ _)); exact BK340.out⟩, ⟨by repeat (first | (with_reducible first | exact HB.out | apply below_alloc | apply pw_below_drewN | apply below_drew1 | refine below_set ?_ GE328.out | refine below_set ?_ GE340.out) | exact HB.out)⟩, ⟨by repeat (first | (with_reducible first | exact RB.out | apply below_alloc | apply pw_below_drewN | apply below_drew1) | exact RB.out)⟩, ⟨by repeat (first | (with_reducible first | exact RC.out | apply below_alloc | apply pw_below_drewN | apply below_drew1) | exact RC.out)⟩⟩
            ·rw [if_neg c60] at H
             have c60b0 : (t366 == (t345.length : Int)) = false := beq_eq_false_iff_ne.mpr c60
             have c60b1 : (t366 != (t345.length : Int)) = true := bne_iff_ne.mpr c60
             have H' := Aside0.mk H
             clear H
             obtain ⟨Ao103, co103, eo103⟩ := Kd.R_slice HO_9.out
             subst eo103
             go_wp2
             go_meet
             case rel => exact ⟨_, (true), (by first | rfl | (simp; done) | (simp [*]; done)), H', ⟨by have := HK1.out; first | omega | exact Nat.le_refl _⟩, ⟨by (with_reducible repeat (first | apply Kd.V_alloc | apply Kd.V_drewN | apply Kd.V_drew)); exact Kd.V_mono HO_1.out (fun _ hk => ⟨hk.1.1.1.1, ⟨hk.1.1.1.2.1, ⟨hk.1.1.1.2.2.1, ⟨hk.1.1.1.2.2.2.1, ⟨hk.1.1.1.2.2.2.2.1, ⟨hk.1.1.2, ⟨hk.1.2, ⟨hk.2, ⟨hk.1.1.1.2.2.2.2.2.1, ⟨hk.1.1.1.2.2.2.2.2.2.1, hk.1.1.1.2.2.2.2.2.2.2⟩⟩⟩⟩⟩⟩⟩⟩⟩⟩)⟩, ⟨by (with_reducible repeat (first | apply Kd.R_alloc | apply Kd.R_drewN | apply Kd.R_drew)); exact Kd.R_mono HO_6.out (fun _ hk => ⟨hk.1.1.1, ⟨hk.1.1.2.1, ⟨hk.1.1.2.2, ⟨hk.1.2, hk.2⟩⟩⟩⟩)⟩, ⟨by (with_reducible repeat (first | apply Kd.R_alloc | apply Kd.R_drewN | apply Kd.R_drew)); exact Kd.R_mono HO_7.out (fun _ hk => ⟨hk.1.1.1, ⟨hk.1.1.2.1, ⟨hk.1.1.2.2, ⟨hk.1.2, hk.2⟩⟩⟩⟩)⟩, ⟨by (with_reducible repeat (first | apply Kd.R_alloc | apply Kd.R_drewN | apply Kd.R_drew)); exact Kd.R_mono HO_9.out (fun _ hk => ⟨hk.1.1.1, ⟨hk.1.1.2.1, ⟨hk.1.1.2.2, ⟨hk.1.2, hk.2⟩⟩⟩⟩)⟩, ⟨by (with_reducible repeat (first | apply Kd.N_alloc | apply Kd.N_drewN | apply Kd.N_drew)); exact Kd.N_mono HO_11.out (fun _ hk => ⟨hk.1.1.1.1, ⟨hk.1.1.1.2.1, ⟨hk.1.1.1.2.2.1, ⟨hk.1.1.1.2.2.2.1, ⟨hk.1.1.2, ⟨hk.1.2, ⟨hk.2, ⟨hk.1.1.1.2.2.2.2.1, ⟨hk.1.1.1.2.2.2.2.2.1, hk.1.1.1.2.2.2.2.2.2⟩⟩⟩⟩⟩⟩⟩⟩⟩)⟩, ⟨by (with_reducible repeat (first | apply Kd.R_alloc | apply Kd.R_drewN | apply Kd.R_drew)); exact Kd.R_mono HO356.out (fun _ hk => ⟨hk.1.1.1.1.1, ⟨hk.1.1.1.2, ⟨hk.1.1.2, ⟨hk.1.2, hk.2⟩⟩⟩⟩)⟩, ⟨by (with_reducible repeat (first | apply Kd.R_alloc | apply Kd.R_drewN | apply Kd.R_drew)); exact Kd.R_mono HO360.out (fun _ hk => ⟨hk.1.1.1.1.1, ⟨hk.1.1.1.2, ⟨hk.1.1.2, ⟨hk.1.2, hk.2⟩⟩⟩⟩)⟩, ⟨by (with_reducible repeat (first | apply Kd.N_alloc | apply Kd.N_drewN | apply Kd.N_drew)); exact Kd.N_mono HO364.out (fun _ hk => ⟨hk.1, ⟨hk.2.1, ⟨hk.2.2.1, ⟨hk.2.2.2.1, ⟨hk.2.2.2.2.1, ⟨hk.2.2.2.2.2.2.1, ⟨hk.2.2.2.2.2.2.2.1, ⟨hk.2.2.2.2.2.1, ⟨hk.2.2.2.2.2.2.2.2.1, hk.2.2.2.2.2.2.2.2.2⟩⟩⟩⟩⟩⟩⟩⟩⟩)⟩, ⟨by (with_reducible repeat (first | apply Kd.R_alloc | apply Kd.R_drewN | apply Kd.R_drew)); exact HO_341001.out⟩, ⟨by (with_reducible repeat (first | refine blk_drewN ?_ _ | refine blk_drew ?_ | refine blk_alloc ?_ _)); exact BK328.out⟩, ⟨by (with_reducible repeat (first | refine blk_drewN ?_ _ | refine blk_drew ?_ | refine blk_alloc ?_ _)); exact BK340.out⟩, ⟨by repeat (first | (with_reducible first | exact HB.out | apply below_alloc | apply pw_below_drewN | apply below_drew1 | refine below_set ?_ GE328.out | refine below_set ?_ GE340.out) | exact HB.out)⟩, ⟨by repeat (first | (with_reducible first | exact RB.out | apply below_alloc | apply pw_below_drewN | apply below_drew1) | exact RB.out)⟩, ⟨by repeat (first | (with_reducible first | exact RC.out | apply below_alloc | apply pw_below_drewN | apply below_drew1) | exact RC.out)⟩⟩
           ·rw [if_neg c59] at H
            have c59b0 : (t367 == t344) = false := beq_eq_false_iff_ne.mpr c59
            have c59b1 : (t367 != t344) = true := bne_iff_ne.mpr c59
            have H' := Aside0.mk H
            clear H
            go_wp2
            go_meet
            case rel => exact ⟨_, (true), (by first | rfl | (simp; done) | (simp [*]; done)), H', ⟨by have := HK1.out; first | omega | exact Nat.le_refl _⟩, ⟨by (with_reducible repeat (first | apply Kd.V_alloc | apply Kd.V_drewN | apply Kd.V_drew)); exact Kd.V_mono HO_1.out (fun _ hk => ⟨hk.1.1.1.1, ⟨hk.1.1.1.2.1, ⟨hk.1.1.1.2.2.1, ⟨hk.1.1.1.2.2.2.1, ⟨hk.1.1.1.2.2.2.2.1, ⟨hk.1.1.2, ⟨hk.1.2, ⟨hk.2, ⟨hk.1.1.1.2.2.2.2.2.1, ⟨hk.1.1.1.2.2.2.2.2.2.1, hk.1.1.1.2.2.2.2.2.2.2⟩⟩⟩⟩⟩⟩⟩⟩⟩⟩)⟩, ⟨by (with_reducible repeat (first | apply Kd.R_alloc | apply Kd.R_drewN | apply Kd.R_drew)); exact Kd.R_mono HO_6.out (fun _ hk => ⟨hk.1.1.1, ⟨hk.1.1.2.1, ⟨hk.1.1.2.2, ⟨hk.1.2, hk.2⟩⟩⟩⟩)⟩, ⟨by (with_reducible repeat (first | apply Kd.R_alloc | apply Kd.R_drewN | apply Kd.R_drew)); exact Kd.R_mono HO_7.out (fun _ hk => ⟨hk.1.1.1, ⟨hk.1.1.2.1, ⟨hk.1.1.2.2, ⟨hk.1.2, hk.2⟩⟩⟩⟩)⟩, ⟨by (with_reducible repeat (first | apply Kd.R_alloc | apply Kd.R_drewN | apply Kd.R_drew)); exact Kd.R_mono HO_9.out (fun _ hk => ⟨hk.1.1.1, ⟨hk.1.1.2.1, ⟨hk.1.1.2.2, ⟨hk.1.2, hk.2⟩⟩⟩⟩)⟩, ⟨by (with_reducible repeat (first | apply Kd.N_alloc | apply Kd.N_drewN | apply Kd.N_drew)); exact Kd.N_mono HO_11.out (fun _ hk => ⟨hk.1.1.1.1, ⟨hk.1.1.1.2.1, ⟨hk.1.1.1.2.2.1, ⟨hk.1.1.1.2.2.2.1, ⟨hk.1.1.2, ⟨hk.1.2, ⟨hk.2, ⟨hk.1.1.1.2.2.2.2.1, ⟨hk.1.1.1.2.2.2.2.2.1, hk.1.1.1.2.2.2.2.2.2⟩⟩⟩⟩⟩⟩⟩⟩⟩)⟩, ⟨by (with_reducible repeat (first | apply Kd.R_alloc | apply Kd.R_drewN | apply Kd.R_drew)); exact Kd.R_mono HO356.out (fun _ hk => ⟨hk.1.1.1.1.1, ⟨hk.1.1.1.2, ⟨hk.1.1.2, ⟨hk.1.2, hk.2⟩⟩⟩⟩)⟩, ⟨by (with_reducible repeat (first | apply Kd.R_alloc | apply Kd.R_drewN | apply Kd.R_drew)); exact Kd.R_mono HO360.out (fun _ hk => ⟨hk.1.1.1.1.1, ⟨hk.1.1.1.2, ⟨hk.1.1.2, ⟨hk.1.2, hk.2⟩⟩⟩⟩)⟩, ⟨by (with_reducible repeat (first | apply Kd.N_alloc | apply Kd.N_drewN | apply Kd.N_drew)); exact Kd.N_mono HO364.out (fun _ hk => ⟨hk.1, ⟨hk.2.1, ⟨hk.2.2.1, ⟨hk.2.2.2.1, ⟨hk.2.2.2.2.1, ⟨hk.2.2.2.2.2.2.1, ⟨hk.2.2.2.2.2.2.2.1, ⟨hk.2.2.2.2.2.1, ⟨hk.2.2.2.2.2.2.2.2.1, hk.2.2.2.2.2.2.2.2.2⟩⟩⟩⟩⟩⟩⟩⟩⟩)⟩, ⟨by (with_reducible repeat (first | apply Kd.R_alloc | apply Kd.R_drewN | apply Kd.R_drew)); exact HO_341001.out⟩, ⟨by (with_reducible repeat (first | refine blk_drewN ?_ _ | refine blk_drew ?_ | refine blk_alloc ?_ _)); exact BK328.out⟩, ⟨by (with_reducible repeat (first | refine blk_drewN ?_ _ | refine blk_drew ?_ | refine blk_alloc ?_ _)); exact BK340.out⟩, ⟨by repeat (first | (with_reducible first | exact HB.out | apply below_alloc | apply pw_below_drewN | apply below_drew1 | refine below_set ?_ GE328.out | refine below_set ?_ GE340.out) | exact HB.out)⟩, ⟨by repeat (first | (with_reducible first | exact RB.out | apply below_alloc | apply pw_below_drewN | apply below_drew1) | exact RB.out)⟩, ⟨by repeat (first | (with_reducible first | exact RC.out | apply below_alloc | apply pw_below_drewN | apply below_drew1) | exact RC.out)⟩⟩
          ·rw [if_neg c58] at H
           have c58b0 : (t365 == t344) = false := beq_eq_false_iff_ne.mpr c58
           have c58b1 : (t365 != t344) = true := bne_iff_ne.mpr c58
           have H' := Aside0.mk H
           clear H
           go_wp2
           go_meet
           case rel => exact ⟨_, (true), (by first | rfl | (simp; done) | (simp [*]; done)), H', ⟨by have := HK1.out; first | omega | exact Nat.le_refl _⟩, ⟨by (with_reducible repeat (first | apply Kd.V_alloc | apply Kd.V_drewN | apply Kd.V_drew)); exact Kd.V_mono HO_1.out (fun _ hk => ⟨hk.1.1.1.1, ⟨hk.1.1.1.2.1, ⟨hk.1.1.1.2.2.1, ⟨hk.1.1.1.2.2.2.1, ⟨hk.1.1.1.2.2.2.2.1, ⟨hk.1.1.2, ⟨hk.1.2, ⟨hk.2, ⟨hk.1.1.1.2.2.2.2.2.1, ⟨hk.1.1.1.2.2.2.2.2.2.1, hk.1.1.1.2.2.2.2.2.2.2⟩⟩⟩⟩⟩⟩⟩⟩⟩⟩)⟩, ⟨by (with_reducible repeat (first | apply Kd.R_alloc | apply Kd.R_drewN | apply Kd.R_drew)); exact Kd.R_mono HO_6.out (fun _ hk => ⟨hk.1.1.1, ⟨hk.1.1.2.1, ⟨hk.1.1.2.2, ⟨hk.1.2, hk.2⟩⟩⟩⟩)⟩, ⟨by (with_reducible repeat (first | apply Kd.R_alloc | apply Kd.R_drewN | apply Kd.R_drew)); exact Kd.R_mono HO_7.out (fun _ hk => ⟨hk.1.1.1, ⟨hk.1.1.2.1, ⟨hk.1.1.2.2, ⟨hk.1.2, hk.2⟩⟩⟩⟩)⟩, ⟨by (with_reducible repeat (first | apply Kd.R_alloc | apply Kd.R_drewN | apply Kd.R_drew)); exact Kd.R_mono HO_9.out (fun _ hk => ⟨hk.1.1.1, ⟨hk.1.1.2.1, ⟨hk.1.1.2.2, ⟨hk.1.2, hk.2⟩⟩⟩⟩)⟩, ⟨by (with_reducible repeat (first | apply Kd.N_alloc | apply Kd.N_drewN | apply Kd.N_drew)); exact Kd.N_mono HO_11.out (fun _ hk => ⟨hk.1.1.1.1, ⟨hk.1.1.1.2.1, ⟨hk.1.1.1.2.2.1, ⟨hk.1.1.1.2.2.2.1, ⟨hk.1.1.2, ⟨hk.1.2, ⟨hk.2, ⟨hk.1.1.1.2.2.2.2.1, ⟨hk.1.1.1.2.2.2.2.2.1, hk.1.1.1.2.2.2.2.2.2⟩⟩⟩⟩⟩⟩⟩⟩⟩)⟩, ⟨by (with_reducible repeat (first | apply Kd.R_alloc | apply Kd.R_drewN | apply Kd.R_drew)); exact Kd.R_mono HO356.out (fun _ hk => ⟨hk.1.1.1.1.1, ⟨hk.1.1.1.2, ⟨hk.1.1.2, ⟨hk.1.2, hk.2⟩⟩⟩⟩)⟩, ⟨by (with_reducible repeat (first | apply Kd.R_alloc | apply Kd.R_drewN | apply Kd.R_drew)); exact Kd.R_mono HO360.out (fun _ hk => ⟨hk.1.1.1.1.1, ⟨hk.1.1.1.2, ⟨hk.1.1.2, ⟨hk.1.2, hk.2⟩⟩⟩⟩)⟩, ⟨by (with_reducible repeat (first | apply Kd.N_alloc | apply Kd.N_drewN | apply Kd.N_drew)); exact Kd.N_mono HO364.out (fun _ hk => ⟨hk.1, ⟨hk.2.1, ⟨hk.2.2.1, ⟨hk.2.2.2.1, ⟨hk.2.2.2.2.1, ⟨hk.2.2.2.2.2.2.1, ⟨hk.2.2.2.2.2.2.2.1, ⟨hk.2.2.2.2.2.1, ⟨hk.2.2.2.2.2.2.2.2.1, hk.2.2.2.2.2.2.2.2.2⟩⟩⟩⟩⟩⟩⟩⟩⟩)⟩, ⟨by (with_reducible repeat (first | apply Kd.R_alloc | apply Kd.R_drewN | apply Kd.R_drew)); exact HO_341001.out⟩, ⟨by (with_reducible repeat (first | refine blk_drewN ?_ _ | refine blk_drew ?_ | refine blk_alloc ?_ _)); exact BK328.out⟩, ⟨by (with_reducible repeat (first | refine blk_drewN ?_ _ | refine blk_drew ?_ | refine blk_alloc ?_ _)); exact BK340.out⟩, ⟨by repeat (first | (with_reducible first | exact HB.out | apply below_alloc | apply pw_below_drewN | apply below_drew1 | refine below_set ?_ GE328.out | refine below_set ?_ GE340.out) | exact HB.out)⟩, ⟨by repeat (first | (with_reducible first | exact RB.out | apply below_alloc | apply pw_below_drewN | apply below_drew1) | exact RB.out)⟩, ⟨by repeat (first | (with_reducible first | exact RC.out | apply below_alloc | apply pw_below_drewN | apply below_drew1) | exact RC.out)⟩⟩
         ·rw [if_neg c57] at H
          have c57b0 : (t361 == t344) = false := beq_eq_false_iff_ne.mpr c57
          have c57b1 : (t361 != t344) = true := bne_iff_ne.mpr c57
          have H' := Aside0.mk H
          clear H
          go_wp2
          go_meet
          case rel => exact ⟨_, (true), (by first | rfl | (simp; done) | (simp [*]; done)), H', ⟨by have := HK1.out; first | omega | exact Nat.le_refl _⟩, ⟨by (with_reducible repeat (first | apply Kd.V_alloc | apply Kd.V_drewN | apply Kd.V_drew)); exact Kd.V_mono HO_1.out (fun _ hk => ⟨hk.1.1.1.1, ⟨hk.1.1.1.2.1, ⟨hk.1.1.1.2.2.1, ⟨hk.1.1.1.2.2.2.1, ⟨hk.1.1.1.2.2.2.2.1, ⟨hk.1.1.2, ⟨hk.1.2, ⟨hk.2, ⟨hk.1.1.1.2.2.2.2.2.1, ⟨hk.1.1.1.2.2.2.2.2.2.1, hk.1.1.1.2.2.2.2.2.2.2⟩⟩⟩⟩⟩⟩⟩⟩⟩⟩)⟩, ⟨by (with_reducible repeat (first | apply Kd.R_alloc | apply Kd.R_drewN | apply Kd.R_drew)); exact Kd.R_mono HO_6.out (fun _ hk => ⟨hk.1.1.1, ⟨hk.1.1.2.1, ⟨hk.1.1.2.2, ⟨hk.1.2, hk.2⟩⟩⟩⟩)⟩, ⟨by (with_reducible repeat (first | apply Kd.R_alloc | apply Kd.R_drewN | apply Kd.R_drew)); exact Kd.R_mono HO_7.out (fun _ hk => ⟨hk.1.1.1, ⟨hk.1.1.2.1, ⟨hk.1.1.2.2, ⟨hk.1.2, hk.2⟩⟩⟩⟩)⟩, ⟨by (with_reducible repeat (first | apply Kd.R_alloc | apply Kd.R_drewN | apply Kd.R_drew)); exact Kd.R_mono HO_9.out (fun _ hk => ⟨hk.1.1.1, ⟨hk.1.1.2.1, ⟨hk.1.1.2.2, ⟨hk.1.2, hk.2⟩⟩⟩⟩)⟩, ⟨by (with_reducible repeat (first | apply Kd.N_alloc | apply Kd.N_drewN | apply Kd.N_drew)); exact Kd.N_mono HO_11.out (fun _ hk => ⟨hk.1.1.1.1, ⟨hk.1.1.1.2.1, ⟨hk.1.1.1.2.2.1, ⟨hk.1.1.1.2.2.2.1, ⟨hk.1.1.2, ⟨hk.1.2, ⟨hk.2, ⟨hk.1.1.1.2.2.2.2.1, ⟨hk.1.1.1.2.2.2.2.2.1, hk.1.1.1.2.2.2.2.2.2⟩⟩⟩⟩⟩⟩⟩⟩⟩)⟩, ⟨by (with_reducible repeat (first | apply Kd.R_alloc | apply Kd.R_drewN | apply Kd.R_drew)); exact Kd.R_mono HO356.out (fun _ hk => ⟨hk.1.1.1.1.1, ⟨hk.1.1.1.2, ⟨hk.1.1.2, ⟨hk.1.2, hk.2⟩⟩⟩⟩)⟩, ⟨by (with_reducible repeat (first | apply Kd.R_alloc | apply Kd.R_drewN | apply Kd.R_drew)); exact Kd.R_mono HO360.out (fun _ hk => ⟨hk.1.1.1.1.1, ⟨hk.1.1.1.2, ⟨hk.1.1.2, ⟨hk.1.2, hk.2⟩⟩⟩⟩)⟩, ⟨by (with_reducible repeat (first | apply Kd.N_alloc | apply Kd.N_drewN | apply Kd.N_drew)); exact Kd.N_mono HO364.out (fun _ hk => ⟨hk.1, ⟨hk.2.1, ⟨hk.2.2.1, ⟨hk.2.2.2.1, ⟨hk.2.2.2.2.1, ⟨hk.2.2.2.2.2.2.1, ⟨hk.2.2.2.2.2.2.2.1, ⟨hk.2.2.2.2.2.1, ⟨hk.2.2.2.2.2.2.2.2.1, hk.2.2.2.2.2.2.2.2.2⟩⟩⟩⟩⟩⟩⟩⟩⟩)⟩, ⟨by (with_reducible repeat (first | apply Kd.R_alloc | apply Kd.R_drewN | apply Kd.R_drew)); exact HO_341001.out⟩, ⟨by (with_reducible repeat (first | refine blk_drewN ?_ _ | refine blk_drew ?_ | refine blk_alloc ?_ _)); exact BK328.out⟩, ⟨by (with_reducible repeat (first | refine blk_drewN ?_ _ | refine blk_drew ?_ | refine blk_alloc ?_ _)); exact BK340.out⟩, ⟨by repeat (first | (with_reducible first | exact HB.out | apply below_alloc | apply pw_below_drewN | apply below_drew1 | refine below_set ?_ GE328.out | refine below_set ?_ GE340.out) | exact HB.out)⟩, ⟨by repeat (first | (with_reducible first | exact RB.out | apply below_alloc | apply pw_below_drewN | apply below_drew1) | exact RB.out)⟩, ⟨by repeat (first | (with_reducible first | exact RC.out | apply below_alloc | apply pw_below_drewN | apply below_drew1) | exact RC.out)⟩⟩
        ·rw [if_neg c56] at H
         have c56b0 : (t357 == t344) = false := beq_eq_false_iff_ne.mpr c56
         have c56b1 : (t357 != t344) = true := bne_iff_ne.mpr c56
         (first | rw [c56b0] | (simp only [i64_w, i32_w]; rw [c56b0]) | skip)
         have H' := Aside0.mk H
         clear H
         go_wp2
         go_meet
         case rel => exact ⟨_, (true), (by first | rfl | (simp; done) | (simp [*]; done)), H', ⟨by have := HK1.out; first | omega | exact Nat.le_refl _⟩, ⟨by (with_reducible repeat (first | apply Kd.V_alloc | apply Kd.V_drewN | apply Kd.V_drew)); exact Kd.V_mono HO_1.out (fun _ hk => ⟨hk.1.1.1.1, ⟨hk.1.1.1.2.1, ⟨hk.1.1.1.2.2.1, ⟨hk.1.1.1.2.2.2.1, ⟨hk.1.1.1.2.2.2.2.1, ⟨hk.1.1.2, ⟨hk.1.2, ⟨hk.2, ⟨hk.1.1.1.2.2.2.2.2.1, ⟨hk.1.1.1.2.2.2.2.2.2.1, hk.1.1.1.2.2.2.2.2.2.2⟩⟩⟩⟩⟩⟩⟩⟩⟩⟩)⟩, ⟨by (with_reducible repeat (first | apply Kd.R_alloc | apply Kd.R_drewN | apply Kd.R_drew)); exact Kd.R_mono HO_6.out (fun _ hk => ⟨hk.1.1.1, ⟨hk.1.1.2.1, ⟨hk.1.1.2.2, ⟨hk.1.2, hk.2⟩⟩⟩⟩)⟩, ⟨by (with_reducible repeat (first | apply Kd.R_alloc | apply Kd.R_drewN | apply Kd.R_drew)); exact Kd.R_mono HO_7.out (fun _ hk => ⟨hk.1.1.1, ⟨hk.1.1.2.1, ⟨hk.1.1.2.2, ⟨hk.1.2, hk.2⟩⟩⟩⟩)⟩, ⟨by (with_reducible repeat (first | apply Kd.R_alloc | apply Kd.R_drewN | apply Kd.R_drew)); exact Kd.R_mono HO_9.out (fun _ hk => ⟨hk.1.1.1, ⟨hk.1.1.2.1, ⟨hk.1.1.2.2, ⟨hk.1.2, hk.2⟩⟩⟩⟩)⟩, ⟨by (with_reducible repeat (first | apply Kd.N_alloc | apply Kd.N_drewN | apply Kd.N_drew)); exact Kd.N_mono HO_11.out (fun _ hk => ⟨hk.1.1.1.1, ⟨hk.1.1.1.2.1, ⟨hk.1.1.1.2.2.1, ⟨hk.1.1.1.2.2.2.1, ⟨hk.1.1.2, ⟨hk.1.2, ⟨hk.2, ⟨hk.1.1.1.2.2.2.2.1, ⟨hk.1.1.1.2.2.2.2.2.1, hk.1.1.1.2.2.2.2.2.2⟩⟩⟩⟩⟩⟩⟩⟩⟩)⟩, ⟨by (with_reducible repeat (first | apply Kd.R_alloc | apply Kd.R_drewN | apply Kd.R_drew)); exact Kd.R_mono HO356.out (fun _ hk => ⟨hk.1.1.1.1.1, ⟨hk.1.1.1.2, ⟨hk.1.1.2, ⟨hk.1.2, hk.2⟩⟩⟩⟩)⟩, ⟨by (with_reducible repeat (first | apply Kd.R_alloc | apply Kd.R_drewN | apply Kd.R_drew)); exact Kd.R_mono HO360.out (fun _ hk => ⟨hk.1.1.1.1.1, ⟨hk.1.1.1.2, ⟨hk.1.1.2, ⟨hk.1.2, hk.2⟩⟩⟩⟩)⟩, ⟨by (with_reducible repeat (first | apply Kd.N_alloc | apply Kd.N_drewN | apply Kd.N_drew)); exact Kd.N_mono HO364.out (fun _ hk => ⟨hk.1, ⟨hk.2.1, ⟨hk.2.2.1, ⟨hk.2.2.2.1, ⟨hk.2.2.2.2.1, ⟨hk.2.2.2.2.2.2.1, ⟨hk.2.2.2.2.2.2.2.1, ⟨hk.2.2.2.2.2.1, ⟨hk.2.2.2.2.2.2.2.2.1, hk.2.2.2.2.2.2.2.2.2⟩⟩⟩⟩⟩⟩⟩⟩⟩)⟩, ⟨by (with_reducible repeat (first | apply Kd.R_alloc | apply Kd.R_drewN | apply Kd.R_drew)); exact HO_341001.out⟩, ⟨by (with_reducible repeat (first | refine blk_drewN ?_ _ | refine blk_drew ?_ | refine blk_alloc ?_ _)); exact BK328.out⟩, ⟨by (with_reducible repeat (first | refine blk_drewN ?_ _ | refine blk_drew ?_ | refine blk_alloc ?_ _)); exact BK340.out⟩, ⟨by repeat (first | (with_reducible first | exact HB.out | apply below_alloc | apply pw_below_drewN | apply below_drew1 | refine below_set ?_ GE328.out | refine below_set ?_ GE340.out) | exact HB.out)⟩, ⟨by repeat (first | (with_reducible first | exact RB.out | apply below_alloc | apply pw_below_drewN | apply below_drew1) | exact RB.out)⟩, ⟨by repeat (first | (with_reducible first | exact RC.out | apply below_alloc | apply pw_below_drewN | apply below_drew1) | exact RC.out)⟩⟩
       case rest =>
        clear HC45; (try clear c1); (try clear c2); (try clear p2); (try clear c3); (try clear c4); (try clear c5); (try clear c6); (try clear c7); (try clear c8); (try clear c13); (try clear c14); (try clear c28); (try clear c29); (try clear c30); (try clear c33); (try clear c38); (try clear c39); (try clear c40); (try clear c40b0); (try clear c41); (try clear c42); (try clear c43); (try clear c46); (try clear c56); (try clear c56b0); (try clear c56b1); (try clear c57); (try clear c57b0); (try clear c57b1); (try clear c58); (try clear c58b0); (try clear c58b1); (try clear c59); (try clear c59b0); (try clear c59b1); (try clear c60); (try clear c60b0); (try clear c60b1); (try clear c62); (try clear c64); (try clear c66); (try clear c68); (try clear c76); (try clear c86); (try clear hcz19_0); (try clear hcz19_1); (try clear hcz34_0); (try clear hcz34_1); (try clear hcz36_0); (try clear hcz36_1); (try clear hcz38_0); (try clear hcz38_1); (try clear hcz47_0); (try clear hcz47_1); (try clear hcz50_0); (try clear hcz50_1); (try clear hcz52_0); (try clear hcz52_1); (try clear hcz54_0); (try clear hcz54_1); (try clear hcz77_0); (try clear hcz77_1); (try clear hcz78_0); (try clear hcz78_1); (try clear hcz7_0); (try clear hcz7_1); (try clear hcz87_0); (try clear hcz87_1); (try clear hcz88_0); (try clear hcz88_1); (try clear hfz19_0); (try clear hfz19_1); (try clear hfz34_0); (try clear hfz34_1); (try clear hfz36_0); (try clear hfz36_1); (try clear hfz38_0); (try clear hfz38_1); (try clear hfz47_0); (try clear hfz47_1); (try clear hfz50_0); (try clear hfz50_1); (try clear hfz52_0); (try clear hfz52_1); (try clear hfz54_0); (try clear hfz54_1); (try clear hfz77_0); (try clear hfz77_1); (try clear hfz78_0); (try clear hfz78_1); (try clear hfz7_0); (try clear hfz7_1); (try clear hfz87_0); (try clear hfz87_1); (try clear hfz88_0); (try clear hfz88_1); (try clear p2)
        obtain ⟨kq, x134_44, rfl, HA, HJ44, HO_1, HO_6, HO_7, HO_9, HO_11, HO_14, HO_16, HO_18, HO_341001, BK328, BK340, HB, RB, RC⟩ := hcut
        cases kq with
        | zero => exact absurd HA.out (by simp [pylonlaw15_IslandMatches.j1])
        | succ kj44 =>
         have H := HA.out
         clear HA
         simp only [pylonlaw15_IslandMatches.j1] at H
         by_cases c104 : x134_44 = true
         ·subst c104
          have H1 : (some false) = some r := by rw [if_pos rfl] at H; exact H
          clear H
          have H := H1
          clear H1
          obtain rfl := Option.some.inj H
          go_wp2
          go_ret
          exact ⟨by first | rfl | (simp [errW_none, errW_some] <;> rfl) | (simp [*, errW_none, errW_some] <;> rfl), by repeat (first | (with_reducible first | exact HB.out | apply below_alloc | apply pw_below_drewN | apply below_drew1 | refine below_set ?_ GE328.out | refine below_set ?_ GE340.out) | exact HB.out)⟩
         ·replace c104 := Bool.eq_false_iff.mpr c104
          subst c104
          have H1 : ((pylonlaw15_spoil.f (([t354, t358] : List (List Int)))).bind fun _ => ((pylonlaw15_spoil.f t362).bind fun _ => (pylonlaw15_IslandMatches.l0 kj44 l1 y337 t341 t344 t345 t349 (wrap64 (x13_1 + 1)) a0_0 l0_1 a0_0 y334))) = some r := by rw [if_neg (show ¬ (false = true) by decide)] at H; exact H
          clear H
          have H := H1
          clear H1
          obtain ⟨y373, hy373⟩ : ∃ y_ : List (List Int), y_ = (([t354, t358] : List (List Int))) := ⟨_, rfl⟩
          replace H : ((pylonlaw15_spoil.f y373).bind fun _ => ((pylonlaw15_spoil.f t362).bind fun _ => (pylonlaw15_IslandMatches.l0 kj44 l1 y337 t341 t344 t345 t349 (wrap64 (x13_1 + 1)) a0_0 l0_1 a0_0 y334))) = some r := by first | (rw [hy373]; with_reducible exact H) | (have H2_ := (Option.bind_some _ _).symm.trans H; rw [hy373]; with_reducible exact H2_) | (have H2_ := (Option.bind_some _ _).symm.trans H; with_reducible exact H2_) | with_reducible exact H | (rw [hy373]; exact H) | exact H
          have Ny373 := Aside0.mk hy373
          clear hy373
          replace H := Option.bind_eq_some_iff.mp H
          obtain ⟨_, A1050, H⟩ := H
          replace H : ((pylonlaw15_spoil.f t362).bind fun _ => (pylonlaw15_IslandMatches.l0 kj44 l1 y337 t341 t344 t345 t349 (wrap64 (x13_1 + 1)) a0_0 l0_1 a0_0 y334)) = some r := H
          have A105 := Aside0.mk A1050
          clear A1050
          replace H := Option.bind_eq_some_iff.mp H
          obtain ⟨_, A1060, H⟩ := H
          replace H : (pylonlaw15_IslandMatches.l0 kj44 l1 y337 t341 t344 t345 t349 (wrap64 (x13_1 + 1)) a0_0 l0_1 a0_0 y334) = some r := H
          have A106 := Aside0.mk A1060
          clear A1060
          have H' := Aside0.mk H
          clear H
          obtain ⟨Ao107, co107, eo107⟩ := Kd.R_slice HO_14.out
          subst eo107
          obtain ⟨Ao108, co108, eo108⟩ := Kd.R_slice HO_16.out
          subst eo108
          go_wp2_with (first | ((with_reducible refine gate_dst (N := 137) rfl ?_); (try (refine gate_guard (by rfl) ?_; dsimp only)); refine rows_event ?hg (N := 137) ?hd (n := 2) (inner := [.slice Ao107 t354.length co107, .slice Ao108 t358.length co108]) (e := 25) ?hr ?_; (case hd => rfl); (case hg => rfl); (case hr => first | (go_simp; done) | (go_simp; rfl)); intro gy373 hg_ w109 hrow_ hb; have KR0 := Aside0.mk (RowOk.below (RowOk.of_R (by (with_reducible repeat (first | apply Kd.R_alloc | apply Kd.R_drewN | apply Kd.R_drew)); exact HO_14.out)) hb); have KN0 := Aside0.mk (show ∀ k_, some k_ = (.slice Ao107 t354.length co107 : Value).ownBlock → k_ < gy373 from fun k_ h_ => by rw [hg_]; exact Kd.R_lt HO_14.out k_ h_.symm); have KR1 := Aside0.mk (RowOk.below (RowOk.of_R (by (with_reducible repeat (first | apply Kd.R_alloc | apply Kd.R_drewN | apply Kd.R_drew)); exact HO_16.out)) hb); have KN1 := Aside0.mk (show ∀ k_, some k_ = (.slice Ao108 t358.length co108 : Value).ownBlock → k_ < gy373 from fun k_ h_ => by rw [hg_]; exact Kd.R_lt HO_16.out k_ h_.symm); have KY := Aside0.mk hrow_; clear hrow_ hg_; have nR_ := Aside0.mk (below_step (by repeat (first | (with_reducible first | exact RB.out | apply below_alloc | apply pw_below_drewN | apply below_drew1) | exact RB.out)) hb); clear RB; have RB := nR_; clear nR_; (try (have nR_ := Aside0.mk (below_step (by repeat (first | (with_reducible first | exact RC.out | apply below_alloc | apply pw_below_drewN | apply below_drew1) | exact RC.out)) hb); clear RC; have RC := nR_; clear nR_)); (try clear hb)) | ((with_reducible refine gate_callee (f := 46) rfl ?_); refine goesL_ (some 138) rfl rfl Try.func46 (by kernel_rfl) rfl #[.slice (some ⟨gy373, 0, none⟩) 2 2] rfl (by (try simp only [List.map_toArray, List.map_cons, List.map_nil]); first | done | rfl | (simp only [List.length_drop, List.length_take]; rfl)) ?_; refine (pylonlaw15_spoil.real (fun k_ => some k_ = (.slice Ao107 t354.length co107 : Value).ownBlock ∨ some k_ = (.slice Ao108 t358.length co108 : Value).ownBlock) (some ⟨gy373, 0, none⟩) [.slice Ao107 t354.length co107, .slice Ao108 t358.length co108] 2 _ (show 2 ≤ 9223372036854775807 by decide) (rows_lit KY.out (fun h_ => h_.elim (fun h_ => Nat.lt_irrefl _ (KN0.out _ h_)) (fun h_ => Nat.lt_irrefl _ (KN1.out _ h_))) (List.forall_mem_cons.2 ⟨KR0.out.mono (fun k_ h_ => (.inl h_)), List.forall_mem_cons.2 ⟨KR1.out.mono (fun k_ h_ => (.inr h_)), List.forall_mem_nil _⟩⟩))).mono ?_; rintro e w112 ⟨rfl, hsk_⟩; refine ⟨_, rfl, ?_⟩; have nR_ := Aside0.mk (SpoilKept.below hsk_ (by repeat (first | (with_reducible first | exact RB.out | apply below_alloc | apply pw_below_drewN | apply below_drew1) | exact RB.out)) RB.out.size (fun k_ h_ => h_.elim (fun h_ => by first | exact KG356.out k_ h_ | exact KG360.out k_ h_) (fun h_ => by first | exact KG356.out k_ h_ | exact KG360.out k_ h_))); clear RB; have RB := nR_; clear nR_; have KS := Aside0.mk hsk_; clear hsk_) | ((with_reducible refine gate_callee (f := 46) rfl ?_); refine goesL_ (some 140) rfl rfl Try.func46 (by kernel_rfl) rfl #[v363] rfl (by (try simp only [List.map_toArray, List.map_cons, List.map_nil]); first | done | rfl | (simp only [List.length_drop, List.length_take]; rfl)) ?_; refine (spoil_rows pylonlaw15_spoil.real KC.out RC.out KS.out (fun k_ h_ => h_.elim (fun h_ => (by first | exact KP356.out k_ h_ | exact KP360.out k_ h_)) (fun h_ => (by first | exact KP356.out k_ h_ | exact KP360.out k_ h_)))).mono ?_; rintro e w114 ⟨rfl, hsk_⟩; refine ⟨_, rfl, ?_⟩; have nR_ := Aside0.mk (SpoilKept.below hsk_ (by repeat (first | (with_reducible first | exact RB.out | apply below_alloc | apply pw_below_drewN | apply below_drew1) | exact RB.out)) RB.out.size (fun k_ h_ => Nat.le_trans KB.out h_.1)); clear RB; have RB := nR_; clear nR_ hsk_))
          go_roundg kj44
          case measure => have := HK1.out; have := HJ44.out; omega
          case rel => exact ⟨(wrap64 (x13_1 + 1)), (by first | rfl | (simp; done) | (simp [*]; done)), H', ⟨by have := HK1.out; have := HJ44.out; omega⟩, ⟨Kd.V_below SVHO_1.out RB.out⟩, ⟨Kd.R_below SVHO_6.out RB.out⟩, ⟨Kd.R_below SVHO_7.out RB.out⟩, ⟨Kd.R_below SVHO_9.out RB.out⟩, ⟨Kd.N_below SVHO_11.out RB.out⟩, ⟨Kd.R_below SVHO_341001.out RB.out⟩, ⟨blk_below SVBK328.out RB.out⟩, ⟨blk_below SVBK340.out RB.out⟩, ⟨SVHB.out.trans (RB.out.mono SVHB.out.size)⟩⟩
      ·rw [if_neg c40] at H
       have c40b0 : decide (x13_1 < 2) = false := decide_eq_false c40
       clear c40
       replace H := Option.bind_eq_some_iff.mp H
       obtain ⟨t353, A1150, H⟩ := H
       replace H : (some t353) = some r := H
       have A115 := Aside0.mk A1150
       clear A1150
       obtain rfl := Option.some.inj H
       go_wp2_with (first | ((with_reducible refine gate_callee (f := 29) rfl ?_); refine goesL_ (some 141) rfl rfl Try.func29 (by kernel_rfl) rfl #[] rfl (by (try simp only [List.map_toArray, List.map_cons, List.map_nil]); first | done | rfl | (simp only [List.length_drop, List.length_take]; rfl)) ?_; (with_reducible refine (pylonlaw15_awake.calls  t353 _ A115.out).mono ?_); rintro e w116 ⟨rfl, hb⟩; have nR_ := Aside0.mk (below_step (by repeat (first | (with_reducible first | exact RB.out | apply below_alloc | apply pw_below_drewN | apply below_drew1) | exact RB.out)) hb); clear RB; have RB := nR_; clear nR_; (try (have nR_ := Aside0.mk (below_step (by repeat (first | (with_reducible first | exact RC.out | apply below_alloc | apply pw_below_drewN | apply below_drew1) | exact RC.out)) hb); clear RC; have RC := nR_; clear nR_)); refine ⟨_, rfl, ?_⟩; have n0_ := Aside0.mk (Kd.V_below (by (with_reducible repeat (first | apply Kd.V_alloc | apply Kd.V_drewN | apply Kd.V_drew)); exact HO_1.out) hb); have n1_ := Aside0.mk (Kd.R_below (by (with_reducible repeat (first | apply Kd.R_alloc | apply Kd.R_drewN | apply Kd.R_drew)); exact HO_6.out) hb); have n2_ := Aside0.mk (Kd.R_below (by (with_reducible repeat (first | apply Kd.R_alloc | apply Kd.R_drewN | apply Kd.R_drew)); exact HO_7.out) hb); have n3_ := Aside0.mk (Kd.R_below (by (with_reducible repeat (first | apply Kd.R_alloc | apply Kd.R_drewN | apply Kd.R_drew)); exact HO_9.out) hb); have n4_ := Aside0.mk (Kd.N_below (by (with_reducible repeat (first | apply Kd.N_alloc | apply Kd.N_drewN | apply Kd.N_drew)); exact HO_11.out) hb); have n5_ := Aside0.mk (Kd.R_below (by (with_reducible repeat (first | apply Kd.R_alloc | apply Kd.R_drewN | apply Kd.R_drew)); exact HO_341001.out) hb); have n6_ := Aside0.mk (blk_below (g := gb328) (o := .cells #[.int .i64 a0_0, .slice A0_1 l0_1.length c0_1] 24 (0, 0)) (by (with_reducible repeat (first | refine blk_drewN ?_ _ | refine blk_drew ?_ | refine blk_alloc ?_ _)); exact BK328.out) hb); have n7_ := Aside0.mk (blk_below (g := gb340) (o := .cells #[.int .i64 a0_0, .slice Ao30 y334.length co30] 24 (0, 0)) (by (with_reducible repeat (first | refine blk_drewN ?_ _ | refine blk_drew ?_ | refine blk_alloc ?_ _)); exact BK340.out) hb); have n8_ := Aside0.mk (below_step (by repeat (first | (with_reducible first | exact HB.out | apply below_alloc | apply pw_below_drewN | apply below_drew1 | refine below_set ?_ GE328.out | refine below_set ?_ GE340.out) | exact HB.out)) hb); clear HO_1; clear HO_6; clear HO_7; clear HO_9; clear HO_11; clear HO_341001; clear BK328; clear BK340; clear HB; have HO_1 := n0_; have HO_6 := n1_; have HO_7 := n2_; have HO_9 := n3_; have HO_11 := n4_; have HO_341001 := n5_; have BK328 := n6_; have BK340 := n7_; have HB := n8_; clear n0_ n1_ n2_ n3_ n4_ n5_ n6_ n7_ n8_; (try clear hb); (try clear hb2); (try clear hk); (try clear hi)))
       go_ret
       exact ⟨by first | rfl | (simp [errW_none, errW_some] <;> rfl) | (simp [*, errW_none, errW_some] <;> rfl), by repeat (first | (with_reducible first | exact HB.out | apply below_alloc | apply pw_below_drewN | apply below_drew1 | refine below_set ?_ GE328.out | refine below_set ?_ GE340.out) | exact HB.out)⟩
   ·rw [if_neg c14] at H
    exact absurd H (by simp)
  ·rw [if_neg c13] at H
   exact absurd H (by simp)

end Go.Proofs.Ytdpgdelimffjpaa.P

namespace Go.Proofs.Ytdpgdelimffjpaa.P
open Go.RowKit Go.Proofs.YtdpgdelimffjpaaW.PrintWords Go.Proofs.YtdpgdelimffjpaaW.PrintLast Go.Proofs.YtdpgdelimffjpaaW.PrintMore
attribute [local go_sem] max2_int min2_int max_two min_two max_three min_three max_four min_four
set_option linter.unusedVariables false
set_option linter.unusedSimpArgs false
section
open Go.Joins Go.ChangeShapes Go.WideShapes Go.Deep
section
variable {H : Type} {enc : TypeId × Value → H} {W : World} {base : Nat} {spare : Nat → Bool} {held : Bool}
theorem list4 {α : Type} : ∀ xs : List α, xs.length = 4 → ∃ a b c d, xs = [a, b, c, d]
  | [a, b, c, d], _ => ⟨a, b, c, d, rfl⟩
/-- The four cells of one line. -/
theorem open_line {fuel : Nat} {cs : List Value} {x : DataW H × List MemPlace} (h : DataW.trod enc Try.prog W base spare held fuel 37 cs = some x) : ∃ l : S37, cs = [.int .i64 l.f0, .int .i64 l.f1, .int .i64 l.f2, .int .i64 l.f3] := by
  obtain ⟨xs, n, _, _, hlen, hxl, hf⟩ := DataW.trod_struct Try.underlying37 h
  have hc37 : Try.prog.cellsOf 37 = 4 := by kernel_rfl
  have hc3 : Try.prog.cellsOf 3 = 1 := by kernel_rfl
  have hc2 : Try.prog.cellsOf 2 = 1 := by kernel_rfl
  rw [hc37] at hlen
  have h0 : DataW.trod enc Try.prog W base spare held n 3 ((cs.drop 0).take (Try.prog.cellsOf 3)) = xs[0]? := hf 0 _ rfl
  have h1 : DataW.trod enc Try.prog W base spare held n 3 ((cs.drop 1).take (Try.prog.cellsOf 3)) = xs[1]? := hf 1 _ rfl
  have h2 : DataW.trod enc Try.prog W base spare held n 2 ((cs.drop 2).take (Try.prog.cellsOf 2)) = xs[2]? := hf 2 _ rfl
  have h3 : DataW.trod enc Try.prog W base spare held n 2 ((cs.drop 3).take (Try.prog.cellsOf 2)) = xs[3]? := hf 3 _ rfl
  rw [hc3] at h0 h1
  rw [hc2] at h2 h3
  have hx4 : xs.length = 4 := hxl
  obtain ⟨x0, x1, x2, x3, rfl⟩ := list4 xs hx4
  obtain ⟨a, b, c, d, rfl⟩ := list4 cs hlen
  obtain ⟨n0, e0, _, _⟩ := DataW.trod_int Try.underlying3 h0
  obtain ⟨n1, e1, _, _⟩ := DataW.trod_int Try.underlying3 h1
  obtain ⟨n2, e2, _, _⟩ := DataW.trod_int Try.underlying2 h2
  obtain ⟨n3, e3, _, _⟩ := DataW.trod_int Try.underlying2 h3
  cases e0; cases e1; cases e2; cases e3
  exact ⟨⟨n0, n1, n2, n3⟩, rfl⟩
/-- A slice of lines that comes in. -/
theorem open_lines {fuel : Nat} {v : Value} {x : DataW H × List MemPlace} (h : DataW.trod enc Try.prog W base spare held fuel 22 [v] = some x) : ∃ (A : Option Addr) (c : Nat) (L : List S37), v = .slice A L.length c ∧ L.length ≤ c ∧ Kd.C k37 W A L.length L := by
  have hc37 : Try.prog.cellsOf 37 = 4 := by kernel_rfl
  rcases open_slice Try.underlying22 h with ⟨hcs, _⟩ | ⟨a, len, cap, m, n, D, Pl, hcs, _, hl, hm, hmm, _, hi⟩
  · cases hcs
    exact ⟨none, 0, [], rfl, Nat.le_refl _, Kd.C_nil _ _⟩
  · cases hcs
    have hlm : len ≤ m := by rw [hmm]; split <;> omega
    have hline : ∀ i, i < len → ∃ l : S37, ∀ j u, ([.int .i64 l.f0, .int .i64 l.f1, .int .i64 l.f2, .int .i64 l.f3] : List Value)[j]? = some u → W.cell? (a.add (i * 4 + j)) = some u := by
      intro i hil
      obtain ⟨cs', hc, ht⟩ := hi i (by omega)
      rw [hc37] at hc
      obtain ⟨l, hl4⟩ := open_line ht
      obtain ⟨_, hcl, hat⟩ := World.cells?_some hc
      refine ⟨l, fun j u hj => ?_⟩
      rw [hl4] at hcl hat
      have hj4 : j < 4 := by
        rcases Nat.lt_or_ge j 4 with h | h
        · exact h
        · rw [List.getElem?_eq_none (by simpa using h)] at hj; cases hj
      have e := hat j hj4
      rw [← Go.Deep.add_add, e, ← hj]
    have hinh : Inhabited S37 := ⟨z37⟩
    obtain ⟨f, hf⟩ := choose_lt hline
    have hll : ((List.range len).map f).length = len := by simp
    refine ⟨some a, cap, (List.range len).map f, by rw [hll], by rw [hll]; exact hl, ?_⟩
    refine ⟨rfl, by rw [hll]; have : maxLen ≤ 9223372036854775807 := by decide
                    omega, fun _ => ⟨a, rfl, fun j p hj => ?_⟩⟩
    have hjl : j < len := by
      rcases Nat.lt_or_ge j len with h | h
      · exact h
      · rw [List.getElem?_eq_none (by simpa using h)] at hj; cases hj
    rw [List.getElem?_map, List.getElem?_range hjl] at hj
    cases hj
    exact ⟨_, rfl, k37_mk _ _, hf j hjl⟩
set_option maxRecDepth 100000 in
/-- A network that comes in. -/
theorem open_net {r : Reach} {b0 : Nat} {v : Value} {d : DataW H} {p : List MemPlace} (hv : Value.okWide Try.prog W r b0 24 v) (h : DataW.Trod enc Try.prog W base spare held 24 v d p) : ∃ (b : Int) (A : Option Addr) (c : Nat) (L : List S37), v = .agg #[.int .i64 b, .slice A L.length c] ∧ L.length ≤ c ∧ Kd.C k37 W A L.length L ∧ (Lit.int .i64 b).wf = true := by
  obtain ⟨v0, v1, y0, y1, n, rfl, _, _, h0, h1⟩ := open_agg2 Try.underlying24 (by kernel_rfl) (by kernel_rfl) hv h
  obtain ⟨b, e0, _, hw⟩ := DataW.trod_int Try.underlying3 h0
  cases e0
  obtain ⟨A, c, L, rfl, hc, hC⟩ := open_lines h1
  exact ⟨b, A, c, L, rfl, hc, hC, hw⟩
end
section
variable {H : Type} {enc : TypeId × Value → H} {W : World} {base : Nat} {spare : Nat → Bool} {held : Bool}
set_option maxRecDepth 100000 in
/-- A list of ints that comes in. -/
theorem open_intl {r : Reach} {b0 : Nat} {v : Value} {d : DataW H} {p : List MemPlace} (hv : Value.okWide Try.prog W r b0 25 v) (h : DataW.Trod enc Try.prog W base spare held 25 v d p) : ∃ (A : Option Addr) (c : Nat) (l : List Int), v = .slice A l.length c ∧ l.length ≤ c ∧ Kd.C (Kd.int .i64) W A l.length l := by
  have hc3 : Try.prog.cellsOf 3 = 1 := by kernel_rfl
  obtain ⟨A0, n0, c0, rfl⟩ := okWide_slice Try.underlying25 hv
  obtain ⟨fuel, hf⟩ := h
  have hf' : DataW.trod enc Try.prog W base spare held fuel 25 [.slice A0 n0 c0] = some (d, p) := hf
  rcases open_slice Try.underlying25 hf' with ⟨hcs, _⟩ | ⟨a, len, cap, m, n, D, Pl, hcs, _, hl, hm, hmm, _, hi⟩
  · cases hcs
    exact ⟨none, 0, [], rfl, Nat.le_refl _, Kd.C_nil _ _⟩
  · cases hcs
    have hlm : n0 ≤ m := by rw [hmm]; split <;> omega
    have hint : ∀ i, i < n0 → ∃ x : Int, W.cell? (a.add i) = some (.int .i64 x) := by
      intro i hil
      obtain ⟨cs', hc, ht⟩ := hi i (by omega)
      rw [hc3] at hc
      obtain ⟨x, hx, _, _⟩ := DataW.trod_int Try.underlying3 ht
      obtain ⟨_, hcl, hat⟩ := World.cells?_some hc
      refine ⟨x, ?_⟩
      have e := hat 0 (by omega)
      rw [hx, Go.Deep.add_add, Nat.mul_one, Nat.add_zero] at e
      exact e
    have hinh : Inhabited Int := ⟨0⟩
    obtain ⟨f, hf2⟩ := choose_lt hint
    have hll : ((List.range n0).map f).length = n0 := by simp
    refine ⟨some a, c0, (List.range n0).map f, by rw [hll], by rw [hll]; exact hl, ?_⟩
    refine Kd.C_of_reads (d := (0 : Int)) ⟨rfl, by rw [hll]; have : maxLen ≤ 9223372036854775807 := by decide
                                                   omega, fun _ => ⟨a, rfl, fun j hj => ?_⟩⟩
    rw [hll] at hj
    rw [hf2 j hj, List.getD_eq_getElem?_getD, List.getElem?_map, List.getElem?_range hj]
    rfl
end
end
section
set_option maxRecDepth 100000
set_option linter.unusedSimpArgs false
def headNums : List Nat := [104, 97, 114, 110, 101, 115, 115, 32, 48, 97, 48, 51, 98, 100, 102, 102, 48, 48, 50, 49, 101, 101, 102, 100, 56, 56, 55, 53, 98, 57, 51, 50, 53, 53, 99, 99, 57, 52, 54, 102, 98, 55, 48, 51, 52, 97, 52, 55, 55, 98, 54, 50, 97, 57, 101, 56, 52, 54, 98, 98, 100, 51, 53, 48, 57, 102, 98, 56, 53, 101, 98, 101, 32, 99, 117, 116, 32, 97, 116, 32, 112, 121, 108, 111, 110, 47, 112, 121, 108, 111, 110, 108, 97, 119, 49, 53, 46, 73, 115, 108, 97, 110, 100, 67, 111, 110, 110, 101, 99, 116, 101, 100, 32, 112, 121, 108, 111, 110, 47, 112, 121, 108, 111, 110, 108, 97, 119, 49, 53, 46, 73, 115, 108, 97, 110, 100, 82, 101, 118, 101, 114, 115, 101, 32, 112, 121, 108, 111, 110, 47, 112, 121, 108, 111, 110, 108, 97, 119, 49, 53, 46, 73, 115, 108, 97, 110, 100, 76, 97, 98, 101, 108, 108, 105, 110, 103, 32, 112, 121, 108, 111, 110, 47, 112, 121, 108, 111, 110, 108, 97, 119, 49, 53, 46, 73, 115, 108, 97, 110, 100, 77, 97, 116, 99, 104, 101, 115, 32, 112, 121, 108, 111, 110, 47, 112, 121, 108, 111, 110, 108, 97, 119, 49, 53, 46, 73, 115, 108, 97, 110, 100, 78, 117, 109, 98, 101, 114, 105, 110, 103, 32, 112, 121, 108, 111, 110, 47, 112, 121, 108, 111, 110, 108, 97, 119, 49, 53, 46, 73, 115, 108, 97, 110, 100, 80, 114, 101, 100, 105, 99, 97, 116, 101, 115, 77, 97, 116, 99, 104, 32, 112, 121, 108, 111, 110, 47, 112, 121, 108, 111, 110, 108, 97, 119, 49, 53, 46, 73, 115, 108, 97, 110, 100, 79, 117, 116, 97, 103, 101, 32, 112, 121, 108, 111, 110, 47, 112, 121, 108, 111, 110, 108, 97, 119, 49, 53, 46, 73, 115, 108, 97, 110, 100, 69, 120, 97, 109, 112, 108, 101, 115, 32, 112, 121, 108, 111, 110, 47, 112, 121, 108, 111, 110, 108, 97, 119, 49, 54, 46, 84, 114, 101, 101, 77, 97, 116, 99, 104, 101, 115, 32, 112, 121, 108, 111, 110, 47, 112, 121, 108, 111, 110, 108, 97, 119, 49, 54, 46, 84, 114, 101, 101, 66, 114, 105, 100, 103, 101, 115, 32, 112, 121, 108, 111, 110, 47, 112, 121, 108, 111, 110, 108, 97, 119, 49, 54, 46, 84, 114, 101, 101, 80, 97, 116, 104, 77, 97, 116, 99, 104, 101, 115, 32, 112, 121, 108, 111, 110, 47, 112, 121, 108, 111, 110, 108, 97, 119, 49, 54, 46, 84, 114, 101, 101, 69, 120, 97, 109, 112, 108, 101, 115, 32, 112, 121, 108, 111, 110, 47, 112, 121, 108, 111, 110, 108, 97, 119, 49, 54, 46, 84, 114, 101, 101, 71, 114, 101, 101, 100, 121, 32, 112, 121, 108, 111, 110, 47, 112, 121, 108, 111, 110, 108, 97, 119, 49, 54, 46, 84, 114, 101, 101, 66, 97, 108, 97, 110, 99, 101, 32, 112, 121, 108, 111, 110, 47, 112, 121, 108, 111, 110, 108, 97, 119, 49, 54, 46, 84, 114, 101, 101, 67, 121, 99, 108, 101, 115, 32, 112, 121, 108, 111, 110, 47, 112, 121, 108, 111, 110, 108, 97, 119, 49, 54, 46, 84, 114, 101, 101, 83, 112, 97, 110, 110, 105, 110, 103, 32, 112, 121, 108, 111, 110, 47, 112, 121, 108, 111, 110, 108, 97, 119, 49, 52, 46, 78, 101, 116, 77, 97, 116, 99, 104, 101, 115, 32, 112, 121, 108, 111, 110, 47, 112, 121, 108, 111, 110, 108, 97, 119, 49, 52, 46, 78, 101, 116, 85, 110, 105, 111, 110, 77, 97, 116, 99, 104, 101, 115, 32, 112, 121, 108, 111, 110, 47, 112, 121, 108, 111, 110, 108, 97, 119, 49, 52, 46, 78, 101, 116, 80, 97, 114, 116, 105, 116, 105, 111, 110, 32, 112, 121, 108, 111, 110, 47, 112, 121, 108, 111, 110, 108, 97, 119, 49, 52, 46, 78, 101, 116, 69, 110, 100, 112, 111, 105, 110, 116, 115, 32, 112, 121, 108, 111, 110, 47, 112, 121, 108, 111, 110, 108, 97, 119, 49, 52, 46, 78, 101, 116, 85, 110, 105, 111, 110, 32, 112, 121, 108, 111, 110, 47, 112, 121, 108, 111, 110, 108, 97, 119, 49, 52, 46, 78, 101, 116, 69, 120, 97, 109, 112, 108, 101, 115, 32, 112, 121, 108, 111, 110, 47, 112, 121, 108, 111, 110, 108, 97, 119, 49, 52, 46, 78, 101, 116, 83, 116, 114, 105, 112, 32, 112, 121, 108, 111, 110, 47, 112, 121, 108, 111, 110, 108, 97, 119, 49, 52, 46, 78, 101, 116, 66, 117, 105, 108, 100, 77, 97, 116, 99, 104, 101, 115, 32, 112, 121, 108, 111, 110, 47, 112, 121, 108, 111, 110, 108, 97, 119, 49, 52, 46, 78, 101, 116, 82, 101, 118, 101, 114, 115, 101]
theorem headOf : Try.prog.initOrder = String.ofList (headNums.map Char.ofNat) := by kernel_rfl
theorem headList : Try.prog.initOrder.toList = headNums.map Char.ofNat := by rw [headOf, String.toList_ofList]
def headTail : List (List Nat) := [[97, 116], [112, 121, 108, 111, 110, 47, 112, 121, 108, 111, 110, 108, 97, 119, 49, 53, 46, 73, 115, 108, 97, 110, 100, 67, 111, 110, 110, 101, 99, 116, 101, 100], [112, 121, 108, 111, 110, 47, 112, 121, 108, 111, 110, 108, 97, 119, 49, 53, 46, 73, 115, 108, 97, 110, 100, 82, 101, 118, 101, 114, 115, 101], [112, 121, 108, 111, 110, 47, 112, 121, 108, 111, 110, 108, 97, 119, 49, 53, 46, 73, 115, 108, 97, 110, 100, 76, 97, 98, 101, 108, 108, 105, 110, 103], [112, 121, 108, 111, 110, 47, 112, 121, 108, 111, 110, 108, 97, 119, 49, 53, 46, 73, 115, 108, 97, 110, 100, 77, 97, 116, 99, 104, 101, 115], [112, 121, 108, 111, 110, 47, 112, 121, 108, 111, 110, 108, 97, 119, 49, 53, 46, 73, 115, 108, 97, 110, 100, 78, 117, 109, 98, 101, 114, 105, 110, 103], [112, 121, 108, 111, 110, 47, 112, 121, 108, 111, 110, 108, 97, 119, 49, 53, 46, 73, 115, 108, 97, 110, 100, 80, 114, 101, 100, 105, 99, 97, 116, 101, 115, 77, 97, 116, 99, 104], [112, 121, 108, 111, 110, 47, 112, 121, 108, 111, 110, 108, 97, 119, 49, 53, 46, 73, 115, 108, 97, 110, 100, 79, 117, 116, 97, 103, 101], [112, 121, 108, 111, 110, 47, 112, 121, 108, 111, 110, 108, 97, 119, 49, 53, 46, 73, 115, 108, 97, 110, 100, 69, 120, 97, 109, 112, 108, 101, 115], [112, 121, 108, 111, 110, 47, 112, 121, 108, 111, 110, 108, 97, 119, 49, 54, 46, 84, 114, 101, 101, 77, 97, 116, 99, 104, 101, 115], [112, 121, 108, 111, 110, 47, 112, 121, 108, 111, 110, 108, 97, 119, 49, 54, 46, 84, 114, 101, 101, 66, 114, 105, 100, 103, 101, 115], [112, 121, 108, 111, 110, 47, 112, 121, 108, 111, 110, 108, 97, 119, 49, 54, 46, 84, 114, 101, 101, 80, 97, 116, 104, 77, 97, 116, 99, 104, 101, 115], [112, 121, 108, 111, 110, 47, 112, 121, 108, 111, 110, 108, 97, 119, 49, 54, 46, 84, 114, 101, 101, 69, 120, 97, 109, 112, 108, 101, 115], [112, 121, 108, 111, 110, 47, 112, 121, 108, 111, 110, 108, 97, 119, 49, 54, 46, 84, 114, 101, 101, 71, 114, 101, 101, 100, 121], [112, 121, 108, 111, 110, 47, 112, 121, 108, 111, 110, 108, 97, 119, 49, 54, 46, 84, 114, 101, 101, 66, 97, 108, 97, 110, 99, 101], [112, 121, 108, 111, 110, 47, 112, 121, 108, 111, 110, 108, 97, 119, 49, 54, 46, 84, 114, 101, 101, 67, 121, 99, 108, 101, 115], [112, 121, 108, 111, 110, 47, 112, 121, 108, 111, 110, 108, 97, 119, 49, 54, 46, 84, 114, 101, 101, 83, 112, 97, 110, 110, 105, 110, 103], [112, 121, 108, 111, 110, 47, 112, 121, 108, 111, 110, 108, 97, 119, 49, 52, 46, 78, 101, 116, 77, 97, 116, 99, 104, 101, 115], [112, 121, 108, 111, 110, 47, 112, 121, 108, 111, 110, 108, 97, 119, 49, 52, 46, 78, 101, 116, 85, 110, 105, 111, 110, 77, 97, 116, 99, 104, 101, 115], [112, 121, 108, 111, 110, 47, 112, 121, 108, 111, 110, 108, 97, 119, 49, 52, 46, 78, 101, 116, 80, 97, 114, 116, 105, 116, 105, 111, 110], [112, 121, 108, 111, 110, 47, 112, 121, 108, 111, 110, 108, 97, 119, 49, 52, 46, 78, 101, 116, 69, 110, 100, 112, 111, 105, 110, 116, 115], [112, 121, 108, 111, 110, 47, 112, 121, 108, 111, 110, 108, 97, 119, 49, 52, 46, 78, 101, 116, 85, 110, 105, 111, 110], [112, 121, 108, 111, 110, 47, 112, 121, 108, 111, 110, 108, 97, 119, 49, 52, 46, 78, 101, 116, 69, 120, 97, 109, 112, 108, 101, 115], [112, 121, 108, 111, 110, 47, 112, 121, 108, 111, 110, 108, 97, 119, 49, 52, 46, 78, 101, 116, 83, 116, 114, 105, 112], [112, 121, 108, 111, 110, 47, 112, 121, 108, 111, 110, 108, 97, 119, 49, 52, 46, 78, 101, 116, 66, 117, 105, 108, 100, 77, 97, 116, 99, 104, 101, 115], [112, 121, 108, 111, 110, 47, 112, 121, 108, 111, 110, 108, 97, 119, 49, 52, 46, 78, 101, 116, 82, 101, 118, 101, 114, 115, 101]]
def headRest : List (List Char) := headTail.map (fun l => l.map Char.ofNat)
theorem headBehind : behindMainWord (wordsSigns Try.prog.initOrder.toList) = "cut".toList :: headRest := by rw [headList]; kernel_rfl
theorem eCutGc : ("cut".toList == "gc".toList) = false := by kernel_rfl
theorem eCutSpec : ("cut".toList == "spec".toList) = false := by kernel_rfl
theorem eCutCarried : ("cut".toList == "carried".toList) = false := by kernel_rfl
theorem eCutCut : ("cut".toList == "cut".toList) = true := by kernel_rfl
theorem headStrip : stripLifts liftWords ("cut".toList :: headRest) = ([], "cut".toList :: headRest) := by kernel_rfl
theorem headLiftsNil : Try.prog.headLifts = [] := by unfold Program.headLifts; rw [headBehind, headStrip]; kernel_rfl
theorem headFinal : Try.prog.liftsFinal = false := by unfold Program.liftsFinal; rw [headLiftsNil, headBehind]; kernel_rfl
theorem headMake0 (P : Program) (c : List Char) (r : List (List Char)) (h : behindMainWord (wordsSigns P.initOrder.toList) = c :: r) (h1 : (c == "gc".toList) = false) (h2 : (c == "spec".toList) = false) (h3 : (c == "cut".toList) = true) : P.make = some .cut := by
  unfold Program.make
  rw [h]
  simp only [h1, h2, h3, Bool.or_self, Bool.true_or, if_true, Bool.false_eq_true, if_false]
theorem headMake : Try.prog.make = some .cut := headMake0 _ _ _ headBehind eCutGc eCutSpec eCutCut
theorem headEnter0 (P : Program) (c : List Char) (r : List (List Char)) (h : behindMainWord (wordsSigns P.initOrder.toList) = c :: r) (h1 : (c == "gc".toList) = false) (h2 : (c == "spec".toList) = false) (h3 : (c == "carried".toList) = false) (h4 : stripLifts liftWords (c :: r) = ([], c :: r)) (h5 : (some c == some "cut".toList) = true) (h6 : P.laysLater = false) (h7 : P.bearsReflect = false) (h8 : P.doorFits [] = true) : P.mayEnter = true := by
  unfold Program.mayEnter
  rw [h]
  simp only [h1, h2, h3, h4, h6, h7, h8, h5, Bool.or_self, Bool.true_or, Bool.false_and, Bool.and_true, List.head?_cons, Bool.not_false, Bool.or_true, List.contains_nil, beq_self_eq_true, Bool.false_or, Bool.not_true, Bool.and_self]
theorem headEnter : Try.prog.mayEnter = true := headEnter0 _ _ _ headBehind eCutGc eCutSpec eCutCarried headStrip (by kernel_rfl) (by kernel_rfl) (by kernel_rfl) (by kernel_rfl)
end
end Go.Proofs.Ytdpgdelimffjpaa.P

/- The shelf's contracts of slices.Sort and slices.Compact laid at this program's numbers (written by the kit's lay-plain.mjs). -/
namespace Go.Proofs
open Go.Shelf
def Try.laysSort_ren : Go.Shelf.Ren := ⟨fun | 189 => 93 | 125 => 115 | 257 => 114 | 128 => 131 | 129 => 132 | 294 => 123 | 295 => 124 | 296 => 125 | 297 => 126 | 298 => 127 | 299 => 128 | 216 => 121 | 300 => 129 | 301 => 130 | 328 => 134 | 329 => 135 | 330 => 136 | 331 => 137 | 332 => 138 | 215 => 133 | 343 => 139 | n => n, fun | 28 => 25 | 3 => 3 | 46 => 113 | 0 => 0 | 51 => 125 | 53 => 127 | 4 => 4 | 183 => 119 | 182 => 118 | 131 => 107 | 5 => 5 | 9 => 9 | 218 => 128 | 222 => 132 | 228 => 134 | 229 => 135 | n => n, fun | n => n⟩
def Try.laysCompact_ren : Go.Shelf.Ren := ⟨fun | 20 => 94 | n => n, fun | 22 => 25 | 3 => 3 | 4 => 4 | 0 => 0 | n => n, fun | n => n⟩
end Go.Proofs
namespace Go.Proofs.Ytdpgdelimffjpaa.P
open Go.RowKit Go.Proofs.YtdpgdelimffjpaaW.PrintWords Go.Proofs.YtdpgdelimffjpaaW.PrintLast Go.Proofs.YtdpgdelimffjpaaW.PrintMore
attribute [local go_sem] max2_int min2_int max_two min_two max_three min_three max_four min_four
set_option linter.unusedVariables false
set_option linter.unusedSimpArgs false
section
/-- The union of two lists: appended, sorted, compacted. -/
def uni (a b : List Int) : List Int := Lib.compact ((a ++ b).mergeSort fun x y => decide (x ≤ y))
end
section
open Go.Sort Go.Shelf
end
end Go.Proofs.Ytdpgdelimffjpaa.P

namespace Go.Proofs.Ytdpgdelimffjpaa.P
open Go.RowKit Go.Proofs.YtdpgdelimffjpaaW.PrintWords Go.Proofs.YtdpgdelimffjpaaW.PrintLast Go.Proofs.YtdpgdelimffjpaaW.PrintMore
attribute [local go_sem] max2_int min2_int max_two min_two max_three min_three max_four min_four   -- for this text's walks alone
set_option linter.unusedVariables false
set_option linter.unusedSimpArgs false

/-! ### net_Union: function 49: by hand -/
def net_Union.f (l0 : List Int) (l1 : List Int) : Option (List Int × Int) :=
 if l0.length ≤ 1000000 ∧ l1.length ≤ 1000000 then (if risesFrom (-1) l0 = true then (if risesFrom (-1) l1 = true then some (uni l0 l1, 0) else some ([], 1)) else some ([], 1)) else none
end Go.Proofs.Ytdpgdelimffjpaa.P

namespace Go.Proofs.Ytdpgdelimffjpaa.P
open Go.RowKit Go.Proofs.YtdpgdelimffjpaaW.PrintWords Go.Proofs.YtdpgdelimffjpaaW.PrintLast Go.Proofs.YtdpgdelimffjpaaW.PrintMore
attribute [local go_sem] max2_int min2_int max_two min_two max_three min_three max_four min_four   -- for this text's walks alone
set_option linter.unusedVariables false
set_option linter.unusedSimpArgs false

/-! ### net_In: function 59 -/
def net_In.f (a0_0 : Int) (l0_1 : List (S37)) (l1 : List Int) : Option (List Int × Int) := (net_Strip.f a0_0 l0_1 l1).bind fun bt569 => (some (bt569.2.2.1, bt569.2.2.2))
end Go.Proofs.Ytdpgdelimffjpaa.P

namespace Go.Proofs.Ytdpgdelimffjpaa.P
open Go.RowKit Go.Proofs.YtdpgdelimffjpaaW.PrintWords Go.Proofs.YtdpgdelimffjpaaW.PrintLast Go.Proofs.YtdpgdelimffjpaaW.PrintMore
attribute [local go_sem] max2_int min2_int max_two min_two max_three min_three max_four min_four
set_option linter.unusedVariables false
set_option linter.unusedSimpArgs false
/-- With rounds enough the function tells v. -/
def Ev {α : Type} (F : Nat → Option α) (v : α) : Prop := ∃ K, ∀ k, K ≤ k → F k = some v
theorem Ev.some_ {α : Type} (v : α) : Ev (fun _ => some v) v := ⟨0, fun _ _ => rfl⟩
theorem Ev.bind {α β : Type} {F : Nat → Option α} {G : Nat → α → Option β} {a : α} {b : β} (h : Ev F a) (h2 : Ev (fun k => G k a) b) : Ev (fun k => (F k).bind (G k)) b := by
  obtain ⟨K, hK⟩ := h
  obtain ⟨L, hL⟩ := h2
  exact ⟨max K L, fun k hk => by show (F k).bind (G k) = some b; rw [hK k (by omega), Option.bind_some]; exact hL k (by omega)⟩
theorem Ev.const {α : Type} {o : Option α} {v : α} (h : o = some v) : Ev (fun _ => o) v := ⟨0, fun _ _ => h⟩
theorem Ev.succ {α : Type} {F G : Nat → Option α} {v : α} (hs : ∀ k, F (k + 1) = G k) (h : Ev G v) : Ev F v := by
  obtain ⟨K, hK⟩ := h
  exact ⟨K + 1, fun k hk => by obtain ⟨j, rfl⟩ : ∃ j, k = j + 1 := ⟨k - 1, by omega⟩
                               rw [hs]; exact hK j (by omega)⟩
theorem Ev.eq {α : Type} {F G : Nat → Option α} {v : α} (hs : ∀ k, F k = G k) (h : Ev G v) : Ev F v := by
  obtain ⟨K, hK⟩ := h
  exact ⟨K, fun k hk => by rw [hs]; exact hK k hk⟩
theorem Ev.tell {α : Type} {F : Nat → Option α} {v : α} (h : Ev F v) : ∃ k, F k = some v := by
  obtain ⟨K, hK⟩ := h
  exact ⟨K, hK K (Nat.le_refl _)⟩
/-- A loop over i: N rounds at most, each hands on to the next; a relation I is kept. -/
theorem Ev.loop {σ α : Type} {F : Nat → σ → Nat → Option α} {v : α} (N : Nat) (I : Nat → σ → Prop) (hstep : ∀ i s, i < N → I i s → (∃ s', I (i + 1) s' ∧ (Ev (fun k => F k s' (i + 1)) v → Ev (fun k => F k s i) v)) ∨ Ev (fun k => F k s i) v) (hend : ∀ s, I N s → Ev (fun k => F k s N) v) : ∀ i s, i ≤ N → I i s → Ev (fun k => F k s i) v := by
  have key : ∀ m i s, i + m = N → I i s → Ev (fun k => F k s i) v := by
    intro m
    induction m with
    | zero => intro i s hi hI; have : i = N := by omega
              subst this; exact hend s hI
    | succ m ih =>
      intro i s hi hI
      rcases hstep i s (by omega) hI with ⟨s', hI', hgo⟩ | hdone
      · exact hgo (ih (i + 1) s' (by omega) hI')
      · exact hdone
  intro i s hi hI
  exact key (N - i) i s (by omega) hI
/-- 'Long' on lists of a length of at most 100. -/
theorem long_f (b : Int) (L : List S37) (ls : List (List Int)) (hs : ls.length ≤ 1000) : ∃ r, Ev (fun k => pylonlaw14_Long.f k b L ls) r ∧ (r = false → L.length ≤ 100 ∧ ∀ l ∈ ls, l.length ≤ 100) := by
  have key : ∀ m i, i + m = ls.length → ∃ r, Ev (fun k => pylonlaw14_Long.l0 k ls (i : Int) b L) r ∧ (r = false → L.length ≤ 100 ∧ ∀ l ∈ ls.drop i, l.length ≤ 100) := by
    intro m
    induction m with
    | zero =>
      intro i hi
      refine ⟨decide ((L.length : Int) > 100), Ev.succ (G := fun _ => some (decide ((L.length : Int) > 100))) (fun k => ?_) (Ev.some_ _), fun h => ?_⟩
      · rw [pylonlaw14_Long.l0, if_neg (by omega)]
      · have := of_decide_eq_false h
        refine ⟨by omega, fun l hl => ?_⟩
        rw [List.drop_eq_nil_of_le (by omega)] at hl
        cases hl
    | succ m ih =>
      intro i hi
      obtain ⟨r, hr, hx⟩ := ih (i + 1) (by omega)
      have hil : i < ls.length := by omega
      have hrd : rd_L1 ls (i : Int) = ls[i] := by simp [rd_L1, List.getD_eq_getElem?_getD, hil]
      by_cases hlong : ((ls[i].length : Int) > 100)
      · refine ⟨true, Ev.succ (G := fun _ => some true) (fun k => ?_) (Ev.some_ _), fun h => by cases h⟩
        rw [pylonlaw14_Long.l0, if_pos (by omega), if_pos (by omega), hrd, if_pos hlong]
      · refine ⟨r, Ev.succ (G := fun k => pylonlaw14_Long.l0 k ls ((i + 1 : Nat) : Int) b L) (fun k => ?_) hr, fun h => ⟨(hx h).1, fun l hl => ?_⟩⟩
        · rw [pylonlaw14_Long.l0, if_pos (by omega), if_pos (by omega), hrd, if_neg hlong, wrap_small (by omega) (by omega)]; rfl
        · rw [List.drop_eq_getElem_cons hil] at hl
          rcases List.mem_cons.1 hl with rfl | hl
          · omega
          · exact (hx h).2 l hl
  obtain ⟨r, hr, hx⟩ := key ls.length 0 (by omega)
  exact ⟨r, hr, fun h => by simpa using hx h⟩
/-- The place of x in l, or -1. -/
def idx (l : List Int) (x : Int) : Int := if x ∈ l then (l.idxOf x : Int) else -1
theorem index_f (l : List Int) (x : Int) (hl : l.length ≤ 1000) : Ev (fun k => slices_Index_int_int.f k l x) (idx l x) := by
  have key : ∀ m i, i + m = l.length → (∀ j (hj : j < l.length), j < i → l[j] ≠ x) → Ev (fun k => slices_Index_int_int.l0 k l x (l.length : Int) (i : Int)) (idx l x) := by
    intro m
    induction m with
    | zero =>
      intro i hi hno
      refine Ev.succ (G := fun _ => some (idx l x)) (fun k => ?_) (Ev.some_ _)
      rw [slices_Index_int_int.l0, if_neg (by omega), idx, if_neg]
      intro hm
      obtain ⟨j, hj, e⟩ := List.getElem_of_mem hm
      exact hno j hj (by omega) e
    | succ m ih =>
      intro i hi hno
      have hil : i < l.length := by omega
      by_cases he : x = l[i]
      · refine Ev.succ (G := fun _ => some (idx l x)) (fun k => ?_) (Ev.some_ _)
        have hm : x ∈ l := by rw [he]; exact List.getElem_mem _
        have hidx : l.idxOf x = i := by
          have h1 : l.idxOf x < l.length := List.idxOf_lt_length_iff.2 hm
          have h2 : l[l.idxOf x] = x := List.getElem_idxOf h1
          have h3 : ¬ l.idxOf x < i := fun h => hno _ h1 h h2
          have h4 : ¬ i < l.idxOf x := fun h => by
            have := List.not_of_lt_findIdx (p := (· == x)) (xs := l) (i := i) h
            simp at this
            exact this he.symm
          omega
        rw [slices_Index_int_int.l0, if_pos (by omega), if_pos (by omega), if_pos (by omega), rd_nat l i hil, if_pos he, idx, if_pos hm, hidx]
      · refine Ev.succ (G := fun k => slices_Index_int_int.l0 k l x (l.length : Int) ((i + 1 : Nat) : Int)) (fun k => ?_) (ih (i + 1) (by omega) (fun j hj hji => ?_))
        · rw [slices_Index_int_int.l0, if_pos (by omega), if_pos (by omega), if_pos (by omega), rd_nat l i hil, if_neg he, wrap_small (by omega) (by omega)]; rfl
        · by_cases h : j = i
          · subst h; exact fun e => he e.symm
          · exact hno j hj (by omega)
  exact key l.length 0 (by omega) (fun j _ h => absurd h (Nat.not_lt_zero _))
/-- The reference buses: those that are their own label. -/
def refsOf (f : Nat → Nat) (N : Nat) : List Int := ((List.range N).filter (fun b => f b == b)).map (fun (b : Nat) => (b : Int))
theorem refsOf_len (f : Nat → Nat) (N : Nat) : (refsOf f N).length ≤ N := by
  unfold refsOf
  rw [List.length_map]
  exact Nat.le_trans (List.length_filter_le _ _) (by rw [List.length_range]; exact Nat.le_refl _)
def labsOf (f : Nat → Nat) (N : Nat) : List Int := (List.range N).map (fun (b : Nat) => ((f b : Nat) : Int))
theorem labsOf_len (f : Nat → Nat) (N : Nat) : (labsOf f N).length = N := by simp [labsOf]
theorem rd_labsOf (f : Nat → Nat) (N : Nat) (b : Nat) (hb : b < N) : rd (labsOf f N) (b : Int) = ((f b : Nat) : Int) := by
  rw [rd_nat _ b (by rw [labsOf_len]; exact hb)]; simp [labsOf]
theorem refsOf_succ (f : Nat → Nat) (i : Nat) : refsOf f (i + 1) = if f i = i then refsOf f i ++ [(i : Int)] else refsOf f i := by
  unfold refsOf
  rw [List.range_succ, List.filter_append, List.map_append]
  by_cases h : f i = i
  · rw [if_pos h]; simp [h]
  · rw [if_neg h]; simp [h]
theorem refs_loop (f : Nat → Nat) (N : Nat) (e : Int) (hN : N ≤ 1000) : Ev (fun k => island_Refs.l0 k [] e (labsOf f N) (N : Int) 0) (refsOf f N, e) := by
  have key : ∀ m i, i + m = N → Ev (fun k => island_Refs.l0 k (refsOf f i) e (labsOf f N) (N : Int) (i : Int)) (refsOf f N, e) := by
    intro m
    induction m with
    | zero =>
      intro i hi
      have hiN : i = N := by omega
      subst hiN
      refine Ev.succ (G := fun _ => some (refsOf f i, e)) (fun k => ?_) (Ev.some_ _)
      rw [island_Refs.l0, if_neg (by omega)]
    | succ m ih =>
      intro i hi
      have hl := refsOf_len f i
      refine Ev.succ (G := fun k => island_Refs.l0 k (refsOf f (i + 1)) e (labsOf f N) (N : Int) ((i + 1 : Nat) : Int)) (fun k => ?_) (ih (i + 1) (by omega))
      rw [island_Refs.l0, if_pos (by omega), if_pos (by omega), if_pos (by rw [labsOf_len]; omega), rd_labsOf f N i (by omega), refsOf_succ]
      by_cases h : f i = i
      · rw [if_pos (by omega), if_pos (by omega), if_pos h, wrap_small (by omega) (by omega)]; rfl
      · rw [if_neg (by omega), if_neg h, wrap_small (by omega) (by omega)]; rfl
  exact key N 0 (by omega)
def isl (f : Nat → Nat) (N : Nat) (i : Nat) : Int := idx (refsOf f N) ((f i : Nat) : Int)
def islOf (f : Nat → Nat) (N n : Nat) : List Int := (List.range n).map (isl f N)
theorem of_loop (f : Nat → Nat) (N : Nat) (e : Int) (hN : N ≤ 1000) : Ev (fun k => island_Of.l0 k [] e (refsOf f N) (labsOf f N) (N : Int) 0) (islOf f N N, e) := by
  have key : ∀ m i, i + m = N → Ev (fun k => island_Of.l0 k (islOf f N i) e (refsOf f N) (labsOf f N) (N : Int) (i : Int)) (islOf f N N, e) := by
    intro m
    induction m with
    | zero =>
      intro i hi
      have hiN : i = N := by omega
      subst hiN
      refine Ev.succ (G := fun _ => some (islOf f i i, e)) (fun k => ?_) (Ev.some_ _)
      rw [island_Of.l0, if_neg (by omega)]
    | succ m ih =>
      intro i hi
      have hl := refsOf_len f N
      have hi2 : (islOf f N i).length = i := by simp [islOf]
      have hs : islOf f N (i + 1) = islOf f N i ++ [isl f N i] := by unfold islOf; rw [List.range_succ, List.map_append]; rfl
      refine Ev.succ (G := fun k => (slices_Index_int_int.f k (refsOf f N) (rd (labsOf f N) (i : Int))).bind fun t => (if (islOf f N i).length < 17592186044416 then (island_Of.l0 k (islOf f N i ++ [t]) e (refsOf f N) (labsOf f N) (N : Int) (wrap64 ((i : Int) + 1))) else (none))) (fun k => ?_) ?_
      · rw [island_Of.l0, if_pos (by omega), if_pos (by omega), if_pos (by rw [labsOf_len]; omega)]
      · refine Ev.bind (index_f _ _ (by omega)) ?_
        rw [rd_labsOf f N i (by omega)]
        refine Ev.eq (fun k => ?_) (ih (i + 1) (by omega))
        rw [if_pos (by omega), hs, wrap_small (by omega) (by omega)]; rfl
  exact key N 0 (by omega)
theorem stands_ok {b : Int} {L : List S37} {out : List Int} (h : outsV b L out = 0) : island_stands.f b L out = some (labsOf (lab (edges L out)) b.toNat, 0) := by
  rw [island_stands.f, if_pos h]; rfl
theorem stands_bad {b : Int} {L : List S37} {out : List Int} (h : outsV b L out ≠ 0) : island_stands.f b L out = some ([], outsV b L out) := by
  rw [island_stands.f, if_neg h]
theorem outs_bus {b : Int} {L : List S37} {out : List Int} (h : outsV b L out = 0) : 1 ≤ b ∧ b ≤ 6 ∧ L.length ≤ 10 := by
  have := chk_ok (outsV_ok h).1
  exact ⟨this.1, this.2.1, this.2.2.1⟩
theorem refs_ok {b : Int} {L : List S37} {out : List Int} (h : outsV b L out = 0) : Ev (fun k => island_Refs.f k b L out) (refsOf (lab (edges L out)) b.toNat, 0) := by
  have hb := outs_bus h
  refine Ev.eq (fun k => ?_) (refs_loop (lab (edges L out)) b.toNat 0 (by omega))
  rw [island_Refs.f, stands_ok h, Option.bind_some, labsOf_len]
theorem refs_bad {b : Int} {L : List S37} {out : List Int} (h : outsV b L out ≠ 0) : Ev (fun k => island_Refs.f k b L out) ([], outsV b L out) := by
  refine Ev.succ (G := fun _ => some ([], outsV b L out)) (fun k => ?_) (Ev.some_ _)
  rw [island_Refs.f, stands_bad h, Option.bind_some, island_Refs.l0, if_neg (by simp)]
theorem of_ok {b : Int} {L : List S37} {out : List Int} (h : outsV b L out = 0) : Ev (fun k => island_Of.f k b L out) (islOf (lab (edges L out)) b.toNat b.toNat, 0) := by
  have hb := outs_bus h
  refine Ev.eq (G := fun k => (island_Refs.f k b L out).bind fun bt => island_Of.l0 k [] 0 bt.1 (labsOf (lab (edges L out)) b.toNat) ((b.toNat : Nat) : Int) 0) (fun k => ?_) ?_
  · rw [island_Of.f, stands_ok h, Option.bind_some, labsOf_len]
  · exact Ev.bind (refs_ok h) (of_loop (lab (edges L out)) b.toNat 0 (by omega))
theorem of_bad {b : Int} {L : List S37} {out : List Int} (h : outsV b L out ≠ 0) : Ev (fun k => island_Of.f k b L out) ([], outsV b L out) := by
  refine Ev.eq (G := fun k => (island_Refs.f k b L out).bind fun bt => island_Of.l0 k [] (outsV b L out) bt.1 [] ((([] : List Int).length : Nat) : Int) 0) (fun k => ?_) ?_
  · rw [island_Of.f, stands_bad h, Option.bind_some]
  · refine Ev.bind (refs_bad h) (Ev.succ (G := fun _ => some ([], outsV b L out)) (fun k => ?_) (Ev.some_ _))
    rw [island_Of.l0, if_neg (by simp)]
end Go.Proofs.Ytdpgdelimffjpaa.P

namespace Go.Proofs.Ytdpgdelimffjpaa.P
open Go.RowKit Go.Proofs.YtdpgdelimffjpaaW.PrintWords Go.Proofs.YtdpgdelimffjpaaW.PrintLast Go.Proofs.YtdpgdelimffjpaaW.PrintMore
attribute [local go_sem] max2_int min2_int max_two min_two max_three min_three max_four min_four
set_option linter.unusedVariables false
set_option linter.unusedSimpArgs false
/-- Ints tells whether two lists are alike. -/
theorem ints_ev (a b : List Int) (ha : a.length ≤ 1000000) : Ev (fun k => pylonref14_Ints.f k a b) (decide (a = b)) := by
  by_cases hl : a.length = b.length
  · have key : ∀ m i, i + m = a.length → (∀ j, j < i → rd a (j : Int) = rd b (j : Int)) → Ev (fun k => pylonref14_Ints.l0 k a b (i : Int)) (decide (a = b)) := by
      intro m
      induction m with
      | zero =>
        intro i hi hh
        have e : a = b := by
          apply List.ext_getElem hl
          intro j h1 h2
          have := hh j (by omega)
          rwa [rd_nat _ j h1, rd_nat _ j h2] at this
        refine Ev.succ (G := fun _ => some (decide (a = b))) (fun k => ?_) (Ev.some_ _)
        rw [pylonref14_Ints.l0, if_neg (by omega), decide_eq_true e]
      | succ m ih =>
        intro i hi hh
        by_cases he : rd a (i : Int) = rd b (i : Int)
        · refine Ev.succ (G := fun k => pylonref14_Ints.l0 k a b ((i + 1 : Nat) : Int)) (fun k => ?_) (ih (i + 1) (by omega) (fun j hj => ?_))
          · rw [pylonref14_Ints.l0, if_pos (by omega), if_pos (by omega), if_pos (by omega), if_pos he, wrap_small (by omega) (by omega)]; rfl
          · by_cases h : j = i
            · subst h; exact he
            · exact hh j (by omega)
        · have hne : ¬ a = b := fun e => he (by rw [e])
          refine Ev.succ (G := fun _ => some (decide (a = b))) (fun k => ?_) (Ev.some_ _)
          rw [pylonref14_Ints.l0, if_pos (by omega), if_pos (by omega), if_pos (by omega), if_neg he, decide_eq_false hne]
    refine Ev.eq (fun k => ?_) (key a.length 0 (by omega) (fun j hj => absurd hj (Nat.not_lt_zero _)))
    rw [pylonref14_Ints.f, if_pos (by omega)]; rfl
  · have hne : ¬ a = b := fun e => hl (by rw [e])
    refine Ev.eq (G := fun _ => some (decide (a = b))) (fun k => ?_) (Ev.some_ _)
    rw [pylonref14_Ints.f, if_neg (by omega), decide_eq_false hne]
/-- The lines in service, as numbers. -/
def inL (L : List S37) (out : List Int) : List Int := (inn L out).map (fun (k : Nat) => (k : Int))
theorem mem_inn {L : List S37} {out : List Int} {k : Nat} : k ∈ inn L out ↔ k < L.length ∧ (k : Int) ∉ out := by
  unfold inn; rw [List.mem_filter, List.mem_range]; simp
theorem inL_len (L : List S37) (out : List Int) : (inL L out).length = (inn L out).length := by simp [inL]
theorem inn_len (L : List S37) (out : List Int) : (inn L out).length ≤ L.length := by
  unfold inn
  have := List.length_filter_le (fun (k : Nat) => !out.contains (k : Int)) (List.range L.length)
  rwa [List.length_range] at this
end Go.Proofs.Ytdpgdelimffjpaa.P

namespace Go.Proofs.Ytdpgdelimffjpaa.P
open Go.RowKit Go.Proofs.YtdpgdelimffjpaaW.PrintWords Go.Proofs.YtdpgdelimffjpaaW.PrintLast Go.Proofs.YtdpgdelimffjpaaW.PrintMore
attribute [local go_sem] max2_int min2_int max_two min_two max_three min_three max_four min_four
set_option linter.unusedVariables false
set_option linter.unusedSimpArgs false
section
/-- Two buses are joined by a list of edges. -/
def conn (E : List (Nat × Nat)) (x y : Nat) : Prop := lab E x = lab E y
instance (E : List (Nat × Nat)) (x y : Nat) : Decidable (conn E x y) := inferInstanceAs (Decidable (lab E x = lab E y))
theorem conn_refl (E : List (Nat × Nat)) (x : Nat) : conn E x x := rfl
theorem conn.symm {E : List (Nat × Nat)} {x y : Nat} (h : conn E x y) : conn E y x := Eq.symm h
theorem conn.trans {E : List (Nat × Nat)} {x y z : Nat} (h : conn E x y) (k : conn E y z) : conn E x z := Eq.trans h k
theorem conn_edge {E : List (Nat × Nat)} {e : Nat × Nat} (h : e ∈ E) : conn E e.1 e.2 := lab_edge h
/-- What joins every edge's ends joins all that the edges join. -/
theorem conn_of {E E' : List (Nat × Nat)} (h : ∀ e ∈ E, conn E' e.1 e.2) {x y : Nat} (k : conn E x y) : conn E' x y := lab_const (lab E') h k
theorem conn_mono {E E' : List (Nat × Nat)} (h : ∀ e ∈ E, e ∈ E') {x y : Nat} (k : conn E x y) : conn E' x y := conn_of (fun e he => conn_edge (h e he)) k
theorem conn_snoc {E : List (Nat × Nat)} {e : Nat × Nat} {x y : Nat} : conn (E ++ [e]) x y ↔ conn E x y ∨ (conn E x e.1 ∧ conn E e.2 y) ∨ (conn E x e.2 ∧ conn E e.1 y) := by
  unfold conn
  rw [lab_snoc]
  unfold merge
  generalize lab E x = fx
  generalize lab E y = fy
  generalize lab E e.1 = f1
  generalize lab E e.2 = f2
  constructor
  · intro h; split at h <;> split at h <;> omega
  · intro h; split <;> split <;> omega
/-- An edge that x does not reach is of no use to x. -/
theorem conn_drop {E E' : List (Nat × Nat)} {e : Nat × Nat} (hE : ∀ d, d ∈ E → d = e ∨ d ∈ E') (hs : ∀ d, d ∈ E' → d ∈ E) (he : e ∈ E) {x y : Nat} (hn : ¬ conn E x e.1) (h : conn E x y) : conn E' x y := by
  have h' : conn (E' ++ [e]) x y := conn_mono (fun d hd => by rcases hE d hd with rfl | h <;> simp_all) h
  have hm : ∀ {u v}, conn E' u v → conn E u v := fun k => conn_mono hs k
  rcases conn_snoc.1 h' with h' | ⟨h', _⟩ | ⟨h', _⟩
  · exact h'
  · exact absurd (hm h') hn
  · exact absurd ((hm h').trans (conn_edge he).symm) hn
/-- A bus that is joined to another has an edge whose other end is joined to it without the bus' own edges. -/
theorem conn_first {E : List (Nat × Nat)} {x y : Nat} (h : conn E x y) (hne : x ≠ y) : ∃ e ∈ E, ∃ z, ((e.1 = x ∧ e.2 = z) ∨ (e.2 = x ∧ e.1 = z)) ∧ conn (E.filter (fun d => d.1 != x && d.2 != x)) z y := by
  have hg := lab_const (fun v => (v = x ∨ ∃ e ∈ E, ∃ z, ((e.1 = x ∧ e.2 = z) ∨ (e.2 = x ∧ e.1 = z)) ∧ conn (E.filter (fun d => d.1 != x && d.2 != x)) z v)) (E := E) (x := x) (y := y) (by
    intro d hd
    apply propext
    by_cases h1 : d.1 = x
    · exact ⟨fun _ => Or.inr ⟨d, hd, d.2, Or.inl ⟨h1, rfl⟩, rfl⟩, fun _ => Or.inl h1⟩
    · by_cases h2 : d.2 = x
      · exact ⟨fun _ => Or.inl h2, fun _ => Or.inr ⟨d, hd, d.1, Or.inr ⟨h2, rfl⟩, rfl⟩⟩
      · have hd0 : conn (E.filter (fun d => d.1 != x && d.2 != x)) d.1 d.2 := conn_edge (List.mem_filter.2 ⟨hd, by simp [h1, h2]⟩)
        constructor
        · rintro (h | ⟨e, he, z, hz, hc⟩)
          · exact absurd h h1
          · exact Or.inr ⟨e, he, z, hz, hc.trans hd0⟩
        · rintro (h | ⟨e, he, z, hz, hc⟩)
          · exact absurd h h2
          · exact Or.inr ⟨e, he, z, hz, hc.trans hd0.symm⟩) h
  have hg2 : (y = x ∨ ∃ e ∈ E, ∃ z, ((e.1 = x ∧ e.2 = z) ∨ (e.2 = x ∧ e.1 = z)) ∧ conn (E.filter (fun d => d.1 != x && d.2 != x)) z y) := hg.mp (Or.inl rfl)
  rcases hg2 with h2 | h2
  · exact absurd h2.symm hne
  · exact h2
end
section
/-- The lines T but k. -/
def less (T : List Nat) (k : Nat) : List Nat := T.filter (fun j => j != k)
theorem mem_less {T : List Nat} {j k : Nat} : j ∈ less T k ↔ j ∈ T ∧ j ≠ k := by simp [less]
/-- Two buses are joined by the lines ks, whose ends en tells. -/
def cn (en : Nat → Nat × Nat) (ks : List Nat) (x y : Nat) : Prop := conn (ks.map en) x y
instance (en : Nat → Nat × Nat) (ks : List Nat) (x y : Nat) : Decidable (cn en ks x y) := inferInstanceAs (Decidable (conn _ x y))
section
variable {en : Nat → Nat × Nat} {T : List Nat} {a x y z k : Nat}
theorem cn_refl : cn en T x x := rfl
theorem cn.symm (h : cn en T x y) : cn en T y x := Eq.symm h
theorem cn.trans (h : cn en T x y) (k : cn en T y z) : cn en T x z := Eq.trans h k
theorem cn_line (h : k ∈ T) : cn en T (en k).1 (en k).2 := conn_edge (List.mem_map_of_mem h)
theorem cn_of {T' : List Nat} (h : ∀ k ∈ T, cn en T' (en k).1 (en k).2) (hc : cn en T x y) : cn en T' x y := conn_of (fun e he => by obtain ⟨k, hk, rfl⟩ := List.mem_map.1 he; exact h k hk) hc
theorem cn_mono {T' : List Nat} (h : ∀ k ∈ T, k ∈ T') (hc : cn en T x y) : cn en T' x y := cn_of (fun _ hk => cn_line (h _ hk)) hc
theorem cn_congr {T' : List Nat} (h : ∀ k, k ∈ T ↔ k ∈ T') : cn en T x y ↔ cn en T' x y := ⟨cn_mono fun k => (h k).1, cn_mono fun k => (h k).2⟩
theorem cn_snoc : cn en (T ++ [k]) x y ↔ cn en T x y ∨ (cn en T x (en k).1 ∧ cn en T (en k).2 y) ∨ (cn en T x (en k).2 ∧ cn en T (en k).1 y) := by
  unfold cn
  rw [List.map_append, List.map_cons, List.map_nil]
  exact conn_snoc
theorem cn_drop {T' : List Nat} (hE : ∀ d, d ∈ T → d = k ∨ d ∈ T') (hs : ∀ d, d ∈ T' → d ∈ T) (hk : k ∈ T) (hn : ¬ cn en T x (en k).1) (h : cn en T x y) : cn en T' x y := by
  refine conn_drop (E := T.map en) (E' := T'.map en) (e := en k) (fun d hd => ?_) (fun d hd => ?_) (List.mem_map_of_mem hk) hn h
  · obtain ⟨j, hj, rfl⟩ := List.mem_map.1 hd
    rcases hE j hj with rfl | h
    · exact Or.inl rfl
    · exact Or.inr (List.mem_map_of_mem h)
  · obtain ⟨j, hj, rfl⟩ := List.mem_map.1 hd
    exact List.mem_map_of_mem (hs j hj)
/-- Line k has the ends x and z. -/
def Inc (en : Nat → Nat × Nat) (k x z : Nat) : Prop := ((en k).1 = x ∧ (en k).2 = z) ∨ ((en k).2 = x ∧ (en k).1 = z)
theorem Inc.cn (h : Inc en k x z) (hk : k ∈ T) : cn en T x z := by
  rcases h with ⟨rfl, rfl⟩ | ⟨rfl, rfl⟩
  · exact cn_line hk
  · exact (cn_line hk).symm
/-- No line joins what the others join: a forest. -/
structure Fo (en : Nat → Nat × Nat) (T : List Nat) : Prop where
  nodup : T.Nodup
  cut : ∀ k ∈ T, ¬ cn en (less T k) (en k).1 (en k).2
theorem Fo.nil : Fo en [] := ⟨List.nodup_nil, fun _ h => absurd h List.not_mem_nil⟩
theorem Fo.snoc (h : Fo en T) (hk : k ∉ T) (hn : ¬ cn en T (en k).1 (en k).2) : Fo en (T ++ [k]) := by
  refine ⟨?_, fun j hj hc => ?_⟩
  · rw [List.nodup_append]
    exact ⟨h.nodup, List.pairwise_singleton _ _, fun a ha b hb e => by simp at hb; subst hb; subst e; exact hk ha⟩
  · rcases List.mem_append.1 hj with hj | hj
    · have hjk : j ≠ k := fun e => hk (e ▸ hj)
      have hl : ∀ d, d ∈ less (T ++ [k]) j ↔ d ∈ less T j ++ [k] := by
        intro d; rw [mem_less]; simp only [List.mem_append, List.mem_singleton, mem_less]
        constructor
        · rintro ⟨h1 | h1, h2⟩
          · exact Or.inl ⟨h1, h2⟩
          · exact Or.inr h1
        · rintro (⟨h1, h2⟩ | h1)
          · exact ⟨Or.inl h1, h2⟩
          · exact ⟨Or.inr h1, fun e => hjk (e.symm.trans h1)⟩
      have hm : ∀ {u v}, cn en (less T j) u v → cn en T u v := fun c => cn_mono (fun d hd => (mem_less.1 hd).1) c
      rcases cn_snoc.1 ((cn_congr hl).1 hc) with hc | ⟨h1, h2⟩ | ⟨h1, h2⟩
      · exact h.cut j hj hc
      · exact hn (((hm h1).symm.trans (cn_line hj)).trans (hm h2).symm)
      · exact hn ((((hm h1).symm.trans (cn_line hj)).trans (hm h2).symm).symm)
    · have e : j = k := by simpa using hj
      subst e
      refine hn ((cn_congr fun d => ?_).1 hc)
      rw [mem_less]; simp only [List.mem_append, List.mem_singleton]
      constructor
      · rintro ⟨h1 | h1, h2⟩
        · exact h1
        · exact absurd h1 h2
      · intro h1; exact ⟨Or.inl h1, fun e => hk (e ▸ h1)⟩
theorem Fo.inc (h : Fo en T) (hk : k ∈ T) (hi : Inc en k x z) : ¬ cn en (less T k) x z := by
  intro hc
  rcases hi with ⟨rfl, rfl⟩ | ⟨rfl, rfl⟩
  · exact h.cut k hk hc
  · exact h.cut k hk hc.symm
/-- What is joined behind line k does without the line by which x was reached. -/
theorem Fo.far (h : Fo en T) {j : Nat} (hk : k ∈ T) (hi : Inc en k x z) (hj : j ∈ T) (hjk : j ≠ k) {p : Nat} (hj2 : Inc en j x p) (hc : cn en (less T k) z y) : cn en (less T j) z y := by
  have hn : ¬ cn en (less T k) z (en j).1 := by
    intro hz
    have hjl : j ∈ less T k := mem_less.2 ⟨hj, hjk⟩
    have : cn en (less T k) x (en j).1 := by
      rcases hj2 with ⟨rfl, rfl⟩ | ⟨rfl, rfl⟩
      · exact cn_refl
      · exact (cn_line hjl).symm
    exact h.inc hk hi (this.trans hz.symm)
  have := cn_drop (T' := less (less T k) j) (fun d hd => (Decidable.em (d = j)).imp id (fun hne => mem_less.2 ⟨hd, hne⟩)) (fun d hd => (mem_less.1 hd).1) (mem_less.2 ⟨hj, hjk⟩) hn hc
  exact cn_mono (fun d hd => mem_less.2 ⟨(mem_less.1 (mem_less.1 hd).1).1, (mem_less.1 hd).2⟩) this
/-- Where a search from x, come by the line 'last', goes on. -/
theorem Fo.step (h : Fo en T) (last : Option Nat) (hl : ∀ j, last = some j → j ∈ T ∧ ∃ p, Inc en j x p) (hne : x ≠ y) :
    cn en (T.filter (fun j => some j != last)) x y ↔ ∃ k ∈ T, some k ≠ last ∧ ∃ z, Inc en k x z ∧ cn en (less T k) z y := by
  constructor
  · intro hc
    obtain ⟨e, he, z, hz, hc2⟩ := conn_first hc hne
    obtain ⟨k, hk, rfl⟩ := List.mem_map.1 he
    have hk2 := List.mem_filter.1 hk
    refine ⟨k, hk2.1, by simpa using hk2.2, z, hz, ?_⟩
    refine conn_mono (fun d hd => ?_) hc2
    obtain ⟨hd1, hd2⟩ := List.mem_filter.1 hd
    obtain ⟨j, hj, rfl⟩ := List.mem_map.1 hd1
    refine List.mem_map_of_mem (mem_less.2 ⟨(List.mem_filter.1 hj).1, fun e => ?_⟩)
    subst e
    simp only [Bool.and_eq_true, bne_iff_ne, ne_eq] at hd2
    rcases hz with ⟨h1, _⟩ | ⟨h1, _⟩
    · exact hd2.1 h1
    · exact hd2.2 h1
  · rintro ⟨k, hk, hkl, z, hi, hc⟩
    have hkm : k ∈ T.filter (fun j => some j != last) := List.mem_filter.2 ⟨hk, by simpa using hkl⟩
    refine (hi.cn hkm).trans ?_
    cases last with
    | none => exact cn_mono (fun d hd => List.mem_filter.2 ⟨(mem_less.1 hd).1, rfl⟩) hc
    | some j =>
      obtain ⟨hj, p, hp⟩ := hl j rfl
      have := h.far hk hi hj (fun e => hkl (by rw [e])) hp hc
      exact cn_mono (fun d hd => List.mem_filter.2 ⟨(mem_less.1 hd).1, by have := (mem_less.1 hd).2; simpa using this⟩) this
/-- The signed use of line t on the way from a to x. -/
def b2i (p : Prop) [Decidable p] : Int := if p then 1 else 0
def W (en : Nat → Nat × Nat) (T : List Nat) (a x t : Nat) : Int := if t ∈ T then b2i (cn en (less T t) a (en t).1) - b2i (cn en (less T t) x (en t).1) else 0
end
end
section
/-- One try of a line: it is written down, and wiped where the search behind it fails. -/
def stepF (on : List Int → Int → Int → Option (Bool × List Int)) (way : List Int) (k next sign : Int) : Option (Bool × List Int) :=
  (on (way.set k.toNat sign) next k).bind fun r => some (r.1, if r.1 = true then r.2 else r.2.set k.toNat 0)
def goF (on : List Int → Int → Int → Option (Bool × List Int)) (L : List S37) (at_ last : Int) : List Int → List Int → Option (Bool × List Int)
  | [], way => some (false, way)
  | k :: ks, way =>
    if k = last then goF on L at_ last ks way
    else if (rd_T37 L k).f0 = at_ then
      (stepF on way k (rd_T37 L k).f1 1).bind fun r => if r.1 = true then some (true, r.2) else
        if (rd_T37 L k).f1 = at_ then (stepF on r.2 k (rd_T37 L k).f0 (-1)).bind fun r => if r.1 = true then some (true, r.2) else goF on L at_ last ks r.2
        else goF on L at_ last ks r.2
    else if (rd_T37 L k).f1 = at_ then (stepF on way k (rd_T37 L k).f0 (-1)).bind fun r => if r.1 = true then some (true, r.2) else goF on L at_ last ks r.2
    else goF on L at_ last ks way
/-- The search, with rounds. -/
def onF (L : List S37) (T : List Int) (tgt : Int) : Nat → List Int → Int → Int → Option (Bool × List Int)
  | 0, _, _, _ => none
  | k + 1, way, at_, last => if at_ = tgt then some (true, way) else goF (onF L T tgt k) L at_ last T way
def enL (L : List S37) (k : Nat) : Nat × Nat := ((rd_T37 L (k : Int)).f0.toNat, (rd_T37 L (k : Int)).f1.toNat)
def castL (T : List Nat) : List Int := T.map (fun (k : Nat) => (k : Int))
def wayOf (L : List S37) (T : List Nat) (a x : Nat) : List Int := (List.range L.length).map (W (enL L) T a x)
structure GoodL (L : List S37) (T : List Nat) : Prop where
  lt : ∀ k ∈ T, k < L.length
  f0 : ∀ k ∈ T, (rd_T37 L (k : Int)).f0 = (((enL L k).1 : Nat) : Int)
  f1 : ∀ k ∈ T, (rd_T37 L (k : Int)).f1 = (((enL L k).2 : Nat) : Int)
  ne : ∀ k ∈ T, (enL L k).1 ≠ (enL L k).2
section
variable {L : List S37} {T : List Nat} {a x z k tgt : Nat}
def OnOk (L : List S37) (T : List Nat) (a tgt : Nat) (last : Option Nat) (x : Nat) (on : List Int → Int → Int → Option (Bool × List Int)) : Prop :=
  ∀ k ∈ T, some k ≠ last → ∀ z, Inc (enL L) k x z → ∃ b, on (wayOf L T a z) (z : Int) (k : Int) = some (b, if b = true then wayOf L T a tgt else wayOf L T a z) ∧ (b = true ↔ cn (enL L) (less T k) z tgt)
/-- How many lines of the forest are not on the way. -/
def off (L : List S37) (T : List Nat) (a x : Nat) : Nat := (T.filter (fun t => W (enL L) T a x t == 0)).length
end
end
section
/-- The spanning forest: line by line, each that the lines before it do not join. -/
def trStep (en : Nat → Nat × Nat) (t : List Nat) (k : Nat) : List Nat := if cn en t (en k).1 (en k).2 then t else t ++ [k]
def tr (en : Nat → Nat × Nat) (ks : List Nat) : List Nat := ks.foldl (trStep en) []
section
variable {en : Nat → Nat × Nat} {T ks : List Nat} {a b x y z k : Nat}
/-! ### how many islands -/
def cnt (f : Nat → Nat) (N : Nat) : Nat := ((List.range N).filter (fun b => f b == b)).length
/-! ### the way, bus by bus -/
def sumTo (F : Nat → Int) : Nat → Int
  | 0 => 0
  | n + 1 => sumTo F n + F n
def dl (x y : Nat) : Int := if x = y then 1 else 0
/-- What line t's ends give to bus x. -/
def dd (en : Nat → Nat × Nat) (t x : Nat) : Int := dl (en t).1 x - dl (en t).2 x
end
end
end Go.Proofs.Ytdpgdelimffjpaa.P

namespace Go.Proofs.Ytdpgdelimffjpaa.P
open Go.RowKit Go.Proofs.YtdpgdelimffjpaaW.PrintWords Go.Proofs.YtdpgdelimffjpaaW.PrintLast Go.Proofs.YtdpgdelimffjpaaW.PrintMore
attribute [local go_sem] max2_int min2_int max_two min_two max_three min_three max_four min_four
set_option linter.unusedVariables false
set_option linter.unusedSimpArgs false
theorem line_ok {b : Int} {L : List S37} (h : chk b L = 0) {k : Nat} (hk : k < L.length) : ∃ u v : Nat, (rd_T37 L (k : Int)).f0 = (u : Int) ∧ (rd_T37 L (k : Int)).f1 = (v : Int) ∧ (u : Int) < b ∧ (v : Int) < b ∧ u ≠ v ∧ enL L k = (u, v) := by
  have hl := (chk_ok h).2.2.2 L[k] (List.getElem_mem hk)
  have hr : rd_T37 L (k : Int) = L[k] := by simp [rd_T37, List.getD_eq_getElem?_getD, hk]
  unfold okLine at hl
  simp only [Bool.and_eq_true, decide_eq_true_eq, bne_iff_ne] at hl
  refine ⟨L[k].f0.toNat, L[k].f1.toNat, ?_, ?_, ?_, ?_, ?_, ?_⟩
  · rw [hr]; omega
  · rw [hr]; omega
  · omega
  · omega
  · omega
  · unfold enL; rw [hr]
theorem edges_en (L : List S37) (out : List Int) : edges L out = (inn L out).map (enL L) := rfl
end Go.Proofs.Ytdpgdelimffjpaa.P

namespace Go.Proofs.Ytdpgdelimffjpaa.P
open Go.RowKit Go.Proofs.YtdpgdelimffjpaaW.PrintWords Go.Proofs.YtdpgdelimffjpaaW.PrintLast Go.Proofs.YtdpgdelimffjpaaW.PrintMore
attribute [local go_sem] max2_int min2_int max_two min_two max_three min_three max_four min_four   -- for this text's walks alone
set_option linter.unusedVariables false
set_option linter.unusedSimpArgs false

attribute [local go_sem high] eqA37
/-! ### api_Line: function 104 -/
def api_Line.l0 : Nat → List (S37) → List (S37) → Int → Int → Option (Bool)
 | 0, _, _, _, _ => none
 | k + 1, x0, x1, x12, x13 => if x13 < x12 then (if 0 ≤ x13 then (if x13 < (x0.length : Int) then (if x13 < (x1.length : Int) then (if (!(((rd_T37 x0 x13).f0) == ((rd_T37 x1 x13).f0)) || (!(((rd_T37 x0 x13).f1) == ((rd_T37 x1 x13).f1)) || (!(((rd_T37 x0 x13).f2) == ((rd_T37 x1 x13).f2)) || (!(((rd_T37 x0 x13).f3) == ((rd_T37 x1 x13).f3)))))) = true then (some false) else (api_Line.l0 k x0 x1 x12 (wrap64 (x13 + 1)))) else (none)) else (none)) else (none)) else (some true)
def api_Line.f (k : Nat) (l0 : List (S37)) (l1 : List (S37)) : Option (Bool) := if (l0.length : Int) = (l1.length : Int) then (api_Line.l0 k l0 l1 (l0.length : Int) 0) else (some false)
end Go.Proofs.Ytdpgdelimffjpaa.P

namespace Go.Proofs.Ytdpgdelimffjpaa.P
open Go.RowKit Go.Proofs.YtdpgdelimffjpaaW.PrintWords Go.Proofs.YtdpgdelimffjpaaW.PrintLast Go.Proofs.YtdpgdelimffjpaaW.PrintMore
attribute [local go_sem] max2_int min2_int max_two min_two max_three min_three max_four min_four   -- for this text's walks alone
set_option linter.unusedVariables false
set_option linter.unusedSimpArgs false

/-! ### net_Equal: function 78 -/
def net_Equal.f (k : Nat) (a0_0 : Int) (l0_1 : List (S37)) (a1_0 : Int) (l1_1 : List (S37)) : Option (Bool) := if a0_0 = a1_0 then ((api_Line.f k l0_1 l1_1).bind fun t1506 => (some t1506)) else (some false)
end Go.Proofs.Ytdpgdelimffjpaa.P

namespace Go.Proofs.Ytdpgdelimffjpaa.P
open Go.RowKit Go.Proofs.YtdpgdelimffjpaaW.PrintWords Go.Proofs.YtdpgdelimffjpaaW.PrintLast Go.Proofs.YtdpgdelimffjpaaW.PrintMore
attribute [local go_sem] max2_int min2_int max_two min_two max_three min_three max_four min_four
set_option linter.unusedVariables false
set_option linter.unusedSimpArgs false
theorem rd_T37_nat {L : List S37} {i : Nat} (h : i < L.length) : rd_T37 L (i : Int) = L[i] := by
  simp [rd_T37, List.getD_eq_getElem?_getD, h]
end Go.Proofs.Ytdpgdelimffjpaa.P
