/- Texts of this claim, merged: the words that print.sh and the prover's driver wrote, and hand-proved contracts and lemmas, less what this claim does not name. Lean checks them. -/
import Derived.Outline
import Derived.Lib.SmallJoins
import Derived.Deep.Slices
import Derived.Deep.Fields
import Derived.ChangeSame
import Derived.WalkKit
import Derived.ProofKit
import Derived.OpenShut
import Derived.ChangeOld
import Derived.Test.YtdpgdelimffjpaaRows
import Derived.KernelRfl
import Derived.JoinedOf
import Derived.Shelf.Sort.Plain
import Derived.Shelf.Slices.CompactI
import Derived.Shelf.Slices.In.SortNone
import Derived.Test.YtdpgdelimffjpaaProg
import Derived.Lib.SlicesCompact
import Derived.Sort.OwnSortedInts
import Derived.Lib.OwnBridge
import Derived.Lib.RowBridge
import Derived.Lib.Hide
import Derived.Test.YtdpgdelimffjpaaK11a
import Derived.Test.YtdpgdelimffjpaaK11b
import Derived.Test.YtdpgdelimffjpaaK11c
import Derived.Test.YtdpgdelimffjpaaK11d
import Derived.Test.YtdpgdelimffjpaaK11e
namespace Go.Proofs.Ytdpgdelimffjpaa.P
open Go.RowKit Go.Proofs.YtdpgdelimffjpaaW.PrintWords Go.Proofs.YtdpgdelimffjpaaW.PrintLast Go.Proofs.YtdpgdelimffjpaaW.PrintMore
attribute [local go_sem] max2_int min2_int max_two min_two max_three min_three max_four min_four
set_option linter.unusedVariables false
set_option linter.unusedSimpArgs false
def qr16way.l0 : Nat → List Int → Int → Int → List Int → Int → Int → List (S37) → Option (List Int)
 | 0, _, _, _, _, _, _, _ => none
 | k + 1, x1, x2, x3, x9, x10, x682000, x682001 => if x10 < (x1.length : Int) then (if 0 ≤ x10 then ((qr16without.f k x1 (rd x1 x10)).bind fun t686 => ((qr16joined.f k x682000 x682001 t686 x2 x3).bind fun t689 => (if t689 = true then (qr16way.l0 k x1 x2 x3 x9 (wrap64 (x10 + 1)) x682000 x682001) else (if 0 ≤ (rd x1 x10) then (if (rd x1 x10) < (x682001.length : Int) then ((qr16joined.f k x682000 x682001 t686 x2 ((rd_T37 x682001 (rd x1 x10)).f0)).bind fun t692 => (if t692 = true then (if (rd x1 x10) < (x9.length : Int) then (qr16way.l0 k x1 x2 x3 (x9.set ((rd x1 x10) : Int).toNat 1) (wrap64 (x10 + 1)) x682000 x682001) else (none)) else (if (rd x1 x10) < (x9.length : Int) then (qr16way.l0 k x1 x2 x3 (x9.set ((rd x1 x10) : Int).toNat (-1)) (wrap64 (x10 + 1)) x682000 x682001) else (none)))) else (none)) else (none))))) else (none)) else (some x9)
def qr16way.f (k : Nat) (a0_0 : Int) (l0_1 : List (S37)) (l1 : List Int) (a2 : Int) (a3 : Int) : Option (List Int) := if 0 ≤ (l0_1.length : Int) then (if ((l0_1.length : Int) : Int).toNat ≤ 35184372088832 then (qr16way.l0 k l1 a2 a3 (List.replicate ((l0_1.length : Int) : Int).toNat 0) 0 a0_0 l0_1) else (none)) else (none)
def qr16way.T7 : Bool × List (List Nat × List Nat) := (true, [([], []), ([], []), ([], []), ([], []), ([3], [3]), ([], []), ([], []), ([5, 6], [5, 6]), ([7], [7]), ([4, 8], [4, 8]), ([9], [9]), ([10], [10]), ([0, 1, 2, 11], [0, 1, 2, 11])])
def qr16way.B7 : List Nat := [0, 0, 0, 0, 8, 0, 0, 96, 224, 504, 1016, 2040, 4095]
theorem qr16way.tab7 : rtab .any (opsOf Try.f98 7) = qr16way.T7 := by kernel_rfl
theorem qr16way.bits7 : waitsOk qr16way.T7.2 qr16way.B7 = true := by kernel_rfl
set_option maxHeartbeats 8000000 in
set_option maxRecDepth 100000 in
theorem qr16way.calls (k : Nat) (a0_0 : Int) (A0_1 : Option Addr) (c0_1 : Nat) (l0_1 : List (S37)) (A1 : Option Addr) (c1 : Nat) (l1 : List Int) (a2 : Int) (a3 : Int) (r : List Int) (w : World) (hr0_1 : Kd.C k37 w A0_1 l0_1.length l0_1) (hc0_1 : l0_1.length ≤ c0_1) (hr1 : Kd.C (Kd.int .i64) w A1 l1.length l1) (hc1 : l1.length ≤ c1) (h : qr16way.f k a0_0 l0_1 l1 a2 a3 = some r) :
  Calls Try.prog 98 #[.agg #[.int .i64 a0_0, .slice A0_1 l0_1.length c0_1], .slice A1 l1.length c1, .int .i64 a2, .int .i64 a3] w fun e w' => ∃ v0_ : Value, e = .returned (v0_) ∧ Kd.R (Kd.int .i64) 3 w' w.heap.size (fun _ => True) v0_ r ∧ Below w.heap.size w w' := by
 have hu24 := Try.underlying24
 have HR0_1 := Z0.mk hr0_1
 have HC0_1 := Z0.mk hc0_1
 clear hr0_1 hc0_1
 have HR1 := Z0.mk hr1
 have HC1 := Z0.mk hc1
 clear hr1 hc1
 have HB := Z0.mk (Below.refl w.heap.size w)
 have H : (if 0 ≤ (l0_1.length : Int) then (if ((l0_1.length : Int) : Int).toNat ≤ 35184372088832 then (qr16way.l0 k l1 a2 a3 (List.replicate ((l0_1.length : Int) : Int).toNat 0) 0 a0_0 l0_1) else (none)) else (none)) = some r := h
 clear h
 by_cases c5 : 0 ≤ (l0_1.length : Int)
 ·rw [if_pos c5] at H
  have c5b0 := eq_true c5
  have c5b1 : decide (0 ≤ (l0_1.length : Int)) = true := decide_eq_true c5
  clear c5
  by_cases c6 : ((l0_1.length : Int) : Int).toNat ≤ 35184372088832
  ·rw [if_pos c6] at H
   have c6b0 := eq_true c6
   have c6b1 : decide (((l0_1.length : Int) : Int).toNat ≤ 35184372088832) = true := decide_eq_true c6
   clear c6
   obtain ⟨y682, hy682⟩ : ∃ y_ : List Int, y_ = (List.replicate ((l0_1.length : Int) : Int).toNat 0) := ⟨_, rfl⟩
   replace H : (qr16way.l0 k l1 a2 a3 y682 0 a0_0 l0_1) = some r := by first | (rw [hy682]; with_reducible exact H) | (have H2_ := (Option.bind_some _ _).symm.trans H; rw [hy682]; with_reducible exact H2_) | (have H2_ := (Option.bind_some _ _).symm.trans H; with_reducible exact H2_) | with_reducible exact H | (rw [hy682]; exact H) | exact H
   have Ny682 := Z0.mk hy682
   clear hy682
   have H' := Z0.mk H
   clear H
   go_enter Try.func98, Try.ntmps98
   go_wp2_with (first | ((with_reducible refine gate_dst (N := 4) rfl ?_); refine bE ?hg (N := 4) ?hd (cs := #[.int .i64 a0_0, .slice A0_1 l0_1.length c0_1]) (t := 24) ?hr ?_; (case hd => rfl); (case hg => rfl); (case hr => first | (go_simp; done) | (go_simp; rfl)); intro gb681 hg w7 hbox hb; have n0_ := Z0.mk (bT (by repeat (first | (with_reducible first | exact HB.out | apply below_alloc | apply bN | apply bD) | exact HB.out)) hb); have n1_ := Z0.mk (hbox); have n2_ := Z0.mk ((by rw [hg]; exact (bZ (by repeat (first | (with_reducible first | exact HB.out | apply below_alloc | apply bN | apply bD) | exact HB.out))) : w.heap.size ≤ gb681)); have n3_ := Z0.mk ((by rw [hg]; exact (bZ (by repeat (first | (with_reducible first | exact HB.out | apply below_alloc | apply bN | apply bD) | exact HB.out))) : w.heap.size ≤ gb681)); clear HB; have HB := n0_; have BK681 := n1_; have GW681 := n2_; have GE681 := n3_; clear n0_ n1_ n2_ n3_; clear hb hbox hg; have hcz8_0 : w7.cell? ⟨gb681, 0, none⟩ = some (.int .i64 a0_0) := (kC BK681.out 0).trans rfl; have hcz8_1 : w7.cell? ⟨gb681, 1, none⟩ = some (.slice A0_1 l0_1.length c0_1) := (kC BK681.out 1).trans rfl; have hfz8_0 := kF BK681.out 0; have hfz8_1 := kF BK681.out 1) | ((with_reducible refine gate_dst (N := 15) rfl ?_); refine Kd.R_make (Kd.int .i64) _ 3 rfl (N := 15) rfl 25 _ _ rfl (l0_1.length : Int) rfl rfl Try.underlying25 (.int .i64 0) 8 info3 rfl (by decide) (by omega) 0 (ok := fun _ => True) (okp := fun _ => True) rfl (fun _ hk => hk) trivial (of_decide_eq_true (by first | (with_reducible assumption) | assumption)) (Nat.le_trans (Nat.mul_le_mul_right _ (of_decide_eq_true (by first | (with_reducible assumption) | assumption) : (l0_1.length : Int).toNat ≤ 35184372088832)) (by omega)) (Below.refl _ _) (Nat.le_refl _) ?_; intro v683 w9 ho10 hb hg_ hnew_; clear hg_ hnew_; (first | rw [← Ny682.out] at ho10 | (simp only [Int.reduceToNat] at ho10; rw [← Ny682.out] at ho10)); have n0_ := Z0.mk (Kd.R_lower ho10 (bZ (by repeat (first | (with_reducible first | exact HB.out | apply below_alloc | apply bN | apply bD | refine bS ?_ GE681.out) | exact HB.out)))); have n1_ := Z0.mk (kB (g := gb681) (o := .cells #[.int .i64 a0_0, .slice A0_1 l0_1.length c0_1] 24 (0, 0)) (by (with_reducible repeat (first | refine kN ?_ _ | refine kD ?_ | refine kA ?_ _)); exact BK681.out) hb); have n2_ := Z0.mk (bT (by repeat (first | (with_reducible first | exact HB.out | apply below_alloc | apply bN | apply bD | refine bS ?_ GE681.out) | exact HB.out)) hb); clear BK681; clear HB; have HO684 := n0_; have BK681 := n1_; have HB := n2_; clear n0_ n1_ n2_; clear hb ho10))
   go_loopg [10] k (fun kq v10 w' => ∃ (x9_1 : List Int) (x10_1 : Int), v10 = .int .i64 x10_1 ∧ Z0 (qr16way.l0 kq l1 a2 a3 x9_1 x10_1 a0_0 l0_1 = some r) ∧ Z0 (kq ≤ k) ∧ Z0 (Kd.R (Kd.int .i64) 3 w' w.heap.size (fun _ => True) v683 x9_1) ∧ Z0 (w'.heap[gb681]? = some (.cells #[.int .i64 a0_0, (.slice A0_1 l0_1.length c0_1)] 24 (0, 0))) ∧ Z0 (Below w.heap.size w w'))
   case atStart => exact ⟨(y682), (0), (by first | rfl | (simp; done) | (simp [*]; done)), H', ⟨Nat.le_refl _⟩, ⟨by (with_reducible repeat (first | apply Kd.R_alloc | apply Kd.R_drewN | apply Kd.R_drew)); exact HO684.out⟩, ⟨by (with_reducible repeat (first | refine kN ?_ _ | refine kD ?_ | refine kA ?_ _)); exact BK681.out⟩, ⟨by repeat (first | (with_reducible first | exact HB.out | apply below_alloc | apply bN | apply bD | refine bS ?_ GE681.out) | exact HB.out)⟩⟩
   case round =>
    clear H'; (try clear c1); (try clear p2); (try clear c5); (try clear c5b0); (try clear c5b1); (try clear c6); (try clear c6b0); (try clear c6b1); (try clear c9); (try clear hcz8_0); (try clear hcz8_1); (try clear hfz8_0); (try clear hfz8_1)
    obtain ⟨x9_1, x10_1, rfl, HA, HK1, HO_9, BK681, HB⟩ := hrel
    cases gk with
    | zero => exact absurd HA.out (by simp [qr16way.l0])
    | succ k1 =>
     have H := HA.out
     clear HA
     simp only [qr16way.l0] at H
     by_cases c11 : x10_1 < (l1.length : Int)
     ·rw [if_pos c11] at H
      have c11b0 : decide (x10_1 < (l1.length : Int)) = true := decide_eq_true c11
      clear c11
      by_cases c12 : 0 ≤ x10_1
      ·rw [if_pos c12] at H
       have c12b0 : decide (0 ≤ x10_1) = true := decide_eq_true c12
       clear c12
       replace H := Option.bind_eq_some_iff.mp H
       obtain ⟨t686, A130, H⟩ := H
       replace H : ((qr16joined.f k1 a0_0 l0_1 t686 a2 a3).bind fun t689 => (if t689 = true then (qr16way.l0 k1 l1 a2 a3 x9_1 (wrap64 (x10_1 + 1)) a0_0 l0_1) else (if 0 ≤ (rd l1 x10_1) then (if (rd l1 x10_1) < (l0_1.length : Int) then ((qr16joined.f k1 a0_0 l0_1 t686 a2 ((rd_T37 l0_1 (rd l1 x10_1)).f0)).bind fun t692 => (if t692 = true then (if (rd l1 x10_1) < (x9_1.length : Int) then (qr16way.l0 k1 l1 a2 a3 (x9_1.set ((rd l1 x10_1) : Int).toNat 1) (wrap64 (x10_1 + 1)) a0_0 l0_1) else (none)) else (if (rd l1 x10_1) < (x9_1.length : Int) then (qr16way.l0 k1 l1 a2 a3 (x9_1.set ((rd l1 x10_1) : Int).toNat (-1)) (wrap64 (x10_1 + 1)) a0_0 l0_1) else (none)))) else (none)) else (none)))) = some r := H
       have A13 := Z0.mk A130
       clear A130
       replace H := Option.bind_eq_some_iff.mp H
       obtain ⟨t689, A140, H⟩ := H
       replace H : (if t689 = true then (qr16way.l0 k1 l1 a2 a3 x9_1 (wrap64 (x10_1 + 1)) a0_0 l0_1) else (if 0 ≤ (rd l1 x10_1) then (if (rd l1 x10_1) < (l0_1.length : Int) then ((qr16joined.f k1 a0_0 l0_1 t686 a2 ((rd_T37 l0_1 (rd l1 x10_1)).f0)).bind fun t692 => (if t692 = true then (if (rd l1 x10_1) < (x9_1.length : Int) then (qr16way.l0 k1 l1 a2 a3 (x9_1.set ((rd l1 x10_1) : Int).toNat 1) (wrap64 (x10_1 + 1)) a0_0 l0_1) else (none)) else (if (rd l1 x10_1) < (x9_1.length : Int) then (qr16way.l0 k1 l1 a2 a3 (x9_1.set ((rd l1 x10_1) : Int).toNat (-1)) (wrap64 (x10_1 + 1)) a0_0 l0_1) else (none)))) else (none)) else (none))) = some r := H
       have A14 := Z0.mk A140
       clear A140
       by_cases c15 : t689 = true
       ·subst c15
        have H1 : (qr16way.l0 k1 l1 a2 a3 x9_1 (wrap64 (x10_1 + 1)) a0_0 l0_1) = some r := by rw [if_pos rfl] at H; exact H
        clear H
        have H := H1
        clear H1
        have H' := Z0.mk H
        clear H
        have p685 : 0 ≤ (x10_1 : Int) := of_decide_eq_true (by first | (with_reducible assumption) | assumption)
        have q685 : x10_1 < (l1.length : Int) := of_decide_eq_true (by first | (with_reducible assumption) | assumption)
        obtain ⟨ad685, e685, hx685_0⟩ := Kd.at_int HR1.out x10_1 p685 q685
        cases e685
        replace hx685_0 := (HB.out.cell (wlt0 w _ hx685_0)).trans hx685_0
        replace p685 := eq_true p685
        replace q685 := eq_true q685
        go_wp2_with (first | ((with_reducible refine gC (f := 96) rfl ?_); refine gL (some 27) rfl rfl Try.func96 (by kernel_rfl) rfl #[.slice (some ad685) l1.length c1, .int .i64 (rd l1 x10_1)] rfl (by (try simp only [List.map_toArray, List.map_cons, List.map_nil]); first | done | rfl | (simp only [List.length_drop, List.length_take]; rfl)) ?_; (with_reducible refine (qr16without.calls k1 _ _ l1 (rd l1 x10_1) t686 _ ?side1 ?side2 A13.out).mono ?_); (case side1 => repeat (first | exact (Kd.C_below HR1.out HB.out) | (with_reducible refine Kd.C_alloc ?_ _) | (with_reducible refine Kd.C_drewN ?_ _) | (with_reducible refine Kd.C_drew ?_))); (case side2 => exact HC1.out); rintro e w16 ⟨v687, rfl, ho0, hb⟩; refine ⟨_, rfl, ?_⟩; have n0_ := Z0.mk (Kd.R_elder' (by (with_reducible repeat (first | apply Kd.R_alloc | apply Kd.R_drewN | apply Kd.R_drew)); exact HO_9.out) (Kd.R_base ho0) hb); have n1_ := Z0.mk (Kd.R_lower (Kd.R_new' ho0 (Kd.R_lt (by (with_reducible repeat (first | apply Kd.R_alloc | apply Kd.R_drewN | apply Kd.R_drew)); exact HO_9.out))) (bZ (by repeat (first | (with_reducible first | exact HB.out | apply below_alloc | apply bN | apply bD | refine bS ?_ GE681.out) | exact HB.out)))); have n2_ := Z0.mk (kB (g := gb681) (o := .cells #[.int .i64 a0_0, .slice A0_1 l0_1.length c0_1] 24 (0, 0)) (by (with_reducible repeat (first | refine kN ?_ _ | refine kD ?_ | refine kA ?_ _)); exact BK681.out) hb); have n3_ := Z0.mk (bT (by repeat (first | (with_reducible first | exact HB.out | apply below_alloc | apply bN | apply bD | refine bS ?_ GE681.out) | exact HB.out)) hb); clear HO_9; clear BK681; clear HB; have HO_9 := n0_; have HO688 := n1_; have BK681 := n2_; have HB := n3_; clear n0_ n1_ n2_ n3_; (try clear hb); (try clear hb2); (try clear hk); (try clear hi); (try clear ho0); have hcz17_0 : w16.cell? ⟨gb681, 0, none⟩ = some (.int .i64 a0_0) := (kC BK681.out 0).trans rfl; have hcz17_1 : w16.cell? ⟨gb681, 1, none⟩ = some (.slice A0_1 l0_1.length c0_1) := (kC BK681.out 1).trans rfl; have hfz17_0 := kF BK681.out 0; have hfz17_1 := kF BK681.out 1; obtain ⟨Ao18, co18, eo18⟩ := Kd.R_slice HO688.out; subst eo18) | ((with_reducible refine gC (f := 95) rfl ?_); refine gL (some 32) rfl rfl Try.func95 (by kernel_rfl) rfl #[.agg #[.int .i64 a0_0, .slice A0_1 l0_1.length c0_1], .slice Ao18 t686.length co18, .int .i64 a2, .int .i64 a3] rfl (by (try simp only [List.map_toArray, List.map_cons, List.map_nil]); first | done | rfl | (simp only [List.length_drop, List.length_take]; rfl)) ?_; (with_reducible refine (qr16joined.calls k1 a0_0 _ _ l0_1 _ _ t686 a2 a3 true _ ?side1 ?side2 ?side3 ?side4 A14.out).mono ?_); (case side1 => repeat (first | exact (Kd.C_below HR0_1.out HB.out) | (with_reducible refine Kd.C_alloc ?_ _) | (with_reducible refine Kd.C_drewN ?_ _) | (with_reducible refine Kd.C_drew ?_))); (case side2 => exact HC0_1.out); (case side3 => repeat (first | exact (Kd.R_reads' HO688.out).2.2 | (with_reducible refine Kd.C_alloc ?_ _) | (with_reducible refine Kd.C_drewN ?_ _) | (with_reducible refine Kd.C_drew ?_))); (case side4 => exact (Kd.R_reads' HO688.out).2.1); rintro e w19 ⟨rfl, hb⟩; refine ⟨_, rfl, ?_⟩; have n0_ := Z0.mk (Kd.R_below (by (with_reducible repeat (first | apply Kd.R_alloc | apply Kd.R_drewN | apply Kd.R_drew)); exact HO_9.out) hb); have n1_ := Z0.mk (Kd.R_below (by (with_reducible repeat (first | apply Kd.R_alloc | apply Kd.R_drewN | apply Kd.R_drew)); exact HO688.out) hb); have n2_ := Z0.mk (kB (g := gb681) (o := .cells #[.int .i64 a0_0, .slice A0_1 l0_1.length c0_1] 24 (0, 0)) (by (with_reducible repeat (first | refine kN ?_ _ | refine kD ?_ | refine kA ?_ _)); exact BK681.out) hb); have n3_ := Z0.mk (bT (by repeat (first | (with_reducible first | exact HB.out | apply below_alloc | apply bN | apply bD | refine bS ?_ GE681.out) | exact HB.out)) hb); clear HO_9; clear HO688; clear BK681; clear HB; have HO_9 := n0_; have HO688 := n1_; have BK681 := n2_; have HB := n3_; clear n0_ n1_ n2_ n3_; (try clear hb); (try clear hb2); (try clear hk); (try clear hi)))
        go_roundg k1
        case measure => have := HK1.out; omega
        case rel => exact ⟨(x9_1), (wrap64 (x10_1 + 1)), (by first | rfl | (simp; done) | (simp [*]; done)), H', ⟨by have := HK1.out; omega⟩, ⟨by (with_reducible repeat (first | apply Kd.R_alloc | apply Kd.R_drewN | apply Kd.R_drew)); exact Kd.R_mono HO_9.out (fun _ hk => trivial)⟩, ⟨by (with_reducible repeat (first | refine kN ?_ _ | refine kD ?_ | refine kA ?_ _)); exact BK681.out⟩, ⟨by repeat (first | (with_reducible first | exact HB.out | apply below_alloc | apply bN | apply bD | refine bS ?_ GE681.out) | exact HB.out)⟩⟩
       ·replace c15 := Bool.eq_false_iff.mpr c15
        subst c15
        have H1 : (if 0 ≤ (rd l1 x10_1) then (if (rd l1 x10_1) < (l0_1.length : Int) then ((qr16joined.f k1 a0_0 l0_1 t686 a2 ((rd_T37 l0_1 (rd l1 x10_1)).f0)).bind fun t692 => (if t692 = true then (if (rd l1 x10_1) < (x9_1.length : Int) then (qr16way.l0 k1 l1 a2 a3 (x9_1.set ((rd l1 x10_1) : Int).toNat 1) (wrap64 (x10_1 + 1)) a0_0 l0_1) else (none)) else (if (rd l1 x10_1) < (x9_1.length : Int) then (qr16way.l0 k1 l1 a2 a3 (x9_1.set ((rd l1 x10_1) : Int).toNat (-1)) (wrap64 (x10_1 + 1)) a0_0 l0_1) else (none)))) else (none)) else (none)) = some r := by rw [if_neg (show ¬ (false = true) by decide)] at H; exact H
        clear H
        have H := H1
        clear H1
        by_cases c20 : 0 ≤ (rd l1 x10_1)
        ·rw [if_pos c20] at H
         have c20b0 : decide (0 ≤ (rd l1 x10_1)) = true := decide_eq_true c20
         clear c20
         by_cases c21 : (rd l1 x10_1) < (l0_1.length : Int)
         ·rw [if_pos c21] at H
          have c21b0 : decide ((rd l1 x10_1) < (l0_1.length : Int)) = true := decide_eq_true c21
          clear c21
          replace H := Option.bind_eq_some_iff.mp H
          obtain ⟨t692, A220, H⟩ := H
          replace H : (if t692 = true then (if (rd l1 x10_1) < (x9_1.length : Int) then (qr16way.l0 k1 l1 a2 a3 (x9_1.set ((rd l1 x10_1) : Int).toNat 1) (wrap64 (x10_1 + 1)) a0_0 l0_1) else (none)) else (if (rd l1 x10_1) < (x9_1.length : Int) then (qr16way.l0 k1 l1 a2 a3 (x9_1.set ((rd l1 x10_1) : Int).toNat (-1)) (wrap64 (x10_1 + 1)) a0_0 l0_1) else (none))) = some r := H
          have A22 := Z0.mk A220
          clear A220
          by_cases c23 : t692 = true
          ·subst c23
           have H1 : (if (rd l1 x10_1) < (x9_1.length : Int) then (qr16way.l0 k1 l1 a2 a3 (x9_1.set ((rd l1 x10_1) : Int).toNat 1) (wrap64 (x10_1 + 1)) a0_0 l0_1) else (none)) = some r := by rw [if_pos rfl] at H; exact H
           clear H
           have H := H1
           clear H1
           by_cases c24 : (rd l1 x10_1) < (x9_1.length : Int)
           ·rw [if_pos c24] at H
            have c24b0 : decide ((rd l1 x10_1) < (x9_1.length : Int)) = true := decide_eq_true c24
            clear c24
            obtain ⟨y694, hy694⟩ : ∃ y_ : List Int, y_ = (x9_1.set ((rd l1 x10_1) : Int).toNat 1) := ⟨_, rfl⟩
            replace H : (qr16way.l0 k1 l1 a2 a3 y694 (wrap64 (x10_1 + 1)) a0_0 l0_1) = some r := by first | (rw [hy694]; with_reducible exact H) | (have H2_ := (Option.bind_some _ _).symm.trans H; rw [hy694]; with_reducible exact H2_) | (have H2_ := (Option.bind_some _ _).symm.trans H; with_reducible exact H2_) | with_reducible exact H | (rw [hy694]; exact H) | exact H
            have Ny694 := Z0.mk hy694
            clear hy694
            have H' := Z0.mk H
            clear H
            have p685 : 0 ≤ (x10_1 : Int) := of_decide_eq_true (by first | (with_reducible assumption) | assumption)
            have q685 : x10_1 < (l1.length : Int) := of_decide_eq_true (by first | (with_reducible assumption) | assumption)
            obtain ⟨ad685, e685, hx685_0⟩ := Kd.at_int HR1.out x10_1 p685 q685
            cases e685
            replace hx685_0 := (HB.out.cell (wlt0 w _ hx685_0)).trans hx685_0
            replace p685 := eq_true p685
            replace q685 := eq_true q685
            try go_wp2_with (first | ((with_reducible refine gC (f := 96) rfl ?_); refine gL (some 27) rfl rfl Try.func96 (by kernel_rfl) rfl #[.slice (some ad685) l1.length c1, .int .i64 (rd l1 x10_1)] rfl (by (try simp only [List.map_toArray, List.map_cons, List.map_nil]); first | done | rfl | (simp only [List.length_drop, List.length_take]; rfl)) ?_; (with_reducible refine (qr16without.calls k1 _ _ l1 (rd l1 x10_1) t686 _ ?side1 ?side2 A13.out).mono ?_); (case side1 => repeat (first | exact (Kd.C_below HR1.out HB.out) | (with_reducible refine Kd.C_alloc ?_ _) | (with_reducible refine Kd.C_drewN ?_ _) | (with_reducible refine Kd.C_drew ?_))); (case side2 => exact HC1.out); rintro e w26 ⟨v687, rfl, ho0, hb⟩; refine ⟨_, rfl, ?_⟩; have n0_ := Z0.mk (Kd.R_elder' (by (with_reducible repeat (first | apply Kd.R_alloc | apply Kd.R_drewN | apply Kd.R_drew)); exact HO_9.out) (Kd.R_base ho0) hb); have n1_ := Z0.mk (Kd.R_lower (Kd.R_new' ho0 (Kd.R_lt (by (with_reducible repeat (first | apply Kd.R_alloc | apply Kd.R_drewN | apply Kd.R_drew)); exact HO_9.out))) (bZ (by repeat (first | (with_reducible first | exact HB.out | apply below_alloc | apply bN | apply bD | refine bS ?_ GE681.out) | exact HB.out)))); have n2_ := Z0.mk (kB (g := gb681) (o := .cells #[.int .i64 a0_0, .slice A0_1 l0_1.length c0_1] 24 (0, 0)) (by (with_reducible repeat (first | refine kN ?_ _ | refine kD ?_ | refine kA ?_ _)); exact BK681.out) hb); have n3_ := Z0.mk (bT (by repeat (first | (with_reducible first | exact HB.out | apply below_alloc | apply bN | apply bD | refine bS ?_ GE681.out) | exact HB.out)) hb); clear HO_9; clear BK681; clear HB; have HO_9 := n0_; have HO688 := n1_; have BK681 := n2_; have HB := n3_; clear n0_ n1_ n2_ n3_; (try clear hb); (try clear hb2); (try clear hk); (try clear hi); (try clear ho0); have hcz27_0 : w26.cell? ⟨gb681, 0, none⟩ = some (.int .i64 a0_0) := (kC BK681.out 0).trans rfl; have hcz27_1 : w26.cell? ⟨gb681, 1, none⟩ = some (.slice A0_1 l0_1.length c0_1) := (kC BK681.out 1).trans rfl; have hfz27_0 := kF BK681.out 0; have hfz27_1 := kF BK681.out 1; obtain ⟨Ao28, co28, eo28⟩ := Kd.R_slice HO688.out; subst eo28) | ((with_reducible refine gC (f := 95) rfl ?_); refine gL (some 32) rfl rfl Try.func95 (by kernel_rfl) rfl #[.agg #[.int .i64 a0_0, .slice A0_1 l0_1.length c0_1], .slice Ao28 t686.length co28, .int .i64 a2, .int .i64 a3] rfl (by (try simp only [List.map_toArray, List.map_cons, List.map_nil]); first | done | rfl | (simp only [List.length_drop, List.length_take]; rfl)) ?_; (with_reducible refine (qr16joined.calls k1 a0_0 _ _ l0_1 _ _ t686 a2 a3 false _ ?side1 ?side2 ?side3 ?side4 A14.out).mono ?_); (case side1 => repeat (first | exact (Kd.C_below HR0_1.out HB.out) | (with_reducible refine Kd.C_alloc ?_ _) | (with_reducible refine Kd.C_drewN ?_ _) | (with_reducible refine Kd.C_drew ?_))); (case side2 => exact HC0_1.out); (case side3 => repeat (first | exact (Kd.R_reads' HO688.out).2.2 | (with_reducible refine Kd.C_alloc ?_ _) | (with_reducible refine Kd.C_drewN ?_ _) | (with_reducible refine Kd.C_drew ?_))); (case side4 => exact (Kd.R_reads' HO688.out).2.1); rintro e w29 ⟨rfl, hb⟩; refine ⟨_, rfl, ?_⟩; have n0_ := Z0.mk (Kd.R_below (by (with_reducible repeat (first | apply Kd.R_alloc | apply Kd.R_drewN | apply Kd.R_drew)); exact HO_9.out) hb); have n1_ := Z0.mk (Kd.R_below (by (with_reducible repeat (first | apply Kd.R_alloc | apply Kd.R_drewN | apply Kd.R_drew)); exact HO688.out) hb); have n2_ := Z0.mk (kB (g := gb681) (o := .cells #[.int .i64 a0_0, .slice A0_1 l0_1.length c0_1] 24 (0, 0)) (by (with_reducible repeat (first | refine kN ?_ _ | refine kD ?_ | refine kA ?_ _)); exact BK681.out) hb); have n3_ := Z0.mk (bT (by repeat (first | (with_reducible first | exact HB.out | apply below_alloc | apply bN | apply bD | refine bS ?_ GE681.out) | exact HB.out)) hb); clear HO_9; clear HO688; clear BK681; clear HB; have HO_9 := n0_; have HO688 := n1_; have BK681 := n2_; have HB := n3_; clear n0_ n1_ n2_ n3_; (try clear hb); (try clear hb2); (try clear hk); (try clear hi)))
            have n0_ := Z0.mk (Kd.R_drew HO_9.out)
            have n1_ := Z0.mk (Kd.R_drew HO688.out)
            have n2_ := Z0.mk (kD BK681.out)
            have n3_ := Z0.mk (bD HB.out)
            clear HO_9; clear HO688; clear BK681; clear HB
            have HO_9 := n0_
            have HO688 := n1_
            have BK681 := n2_
            have HB := n3_
            clear n0_ n1_ n2_ n3_
            have p690 : 0 ≤ (x10_1 : Int) := of_decide_eq_true (by first | (with_reducible assumption) | assumption)
            have q690 : x10_1 < (l1.length : Int) := of_decide_eq_true (by first | (with_reducible assumption) | assumption)
            obtain ⟨ad690, e690, hx690_0⟩ := Kd.at_int HR1.out x10_1 p690 q690
            have hw690_0 := hx690_0
            obtain rfl : ad685 = ad690 := (by injection e690)
            replace hx690_0 := (HB.out.cell (wlt0 w _ hx690_0)).trans hx690_0
            replace p690 := eq_true p690
            replace q690 := eq_true q690
            have p691 : 0 ≤ ((rd l1 x10_1) : Int) := of_decide_eq_true (by first | (with_reducible assumption) | assumption)
            have q691 : (rd l1 x10_1) < (l0_1.length : Int) := of_decide_eq_true (by first | (with_reducible assumption) | assumption)
            obtain ⟨ad691, e691, hx691_0, hx691_1, hx691_2, hx691_3⟩ := at_T37 HR0_1.out (rd l1 x10_1) p691 q691
            have hw691_3 := hx691_3
            have hw691_2 := hx691_2
            have hw691_1 := hx691_1
            have hw691_0 := hx691_0
            cases e691
            replace hx691_0 := (HB.out.cell (wlt0 w _ hx691_0)).trans hx691_0
            replace hx691_1 := (HB.out.cell (wlt0 w _ hx691_1)).trans hx691_1
            replace hx691_2 := (HB.out.cell (wlt0 w _ hx691_2)).trans hx691_2
            replace hx691_3 := (HB.out.cell (wlt0 w _ hx691_3)).trans hx691_3
            replace p691 := eq_true p691
            replace q691 := eq_true q691
            refine start_ (n := 13) (S := fun w' => w'.cell? ⟨gb681, 0, none⟩ = some (.int .i64 a0_0) ∧ w'.cell? ⟨gb681, 1, none⟩ = some (.slice (some ad691) l0_1.length c0_1) ∧ w'.cell? (ad685.add (x10_1).toNat) = some (.int .i64 (rd l1 x10_1)) ∧ w'.cell? (ad691.add (((rd l1 x10_1)).toNat * 4)) = some (.int .i64 ((rd_T37 l0_1 (rd l1 x10_1)).f0)) ∧ w'.cell? ⟨(ad691.add (((rd l1 x10_1)).toNat * 4)).block, (ad691.add (((rd l1 x10_1)).toNat * 4)).off + 1, none⟩ = some (.int .i64 ((rd_T37 l0_1 (rd l1 x10_1)).f1)) ∧ w'.cell? ⟨(ad691.add (((rd l1 x10_1)).toNat * 4)).block, (ad691.add (((rd l1 x10_1)).toNat * 4)).off + 2, none⟩ = some (.int .i64 ((rd_T37 l0_1 (rd l1 x10_1)).f2)) ∧ w'.cell? ⟨(ad691.add (((rd l1 x10_1)).toNat * 4)).block, (ad691.add (((rd l1 x10_1)).toNat * 4)).off + 3, none⟩ = some (.int .i64 ((rd_T37 l0_1 (rd l1 x10_1)).f3))) (ds := []) #[false,false,false,false,false,false,false,false,false,false,false,false,false] (by kernel_rfl) rfl rfl ⟨(kC BK681.out 0).trans rfl, (kC BK681.out 1).trans rfl, ((HB.out.cell (wlt0 w _ hw690_0)).trans hw690_0), ((HB.out.cell (wlt0 w _ hw691_0)).trans hw691_0), ((HB.out.cell (wlt0 w _ hw691_1)).trans hw691_1), ((HB.out.cell (wlt0 w _ hw691_2)).trans hw691_2), ((HB.out.cell (wlt0 w _ hw691_3)).trans hw691_3)⟩ (fun hHeld => ?_); refine with_tabW qr16way.tab7 qr16way.bits7 (fun HT_ HW_ => ?_)
            generalize w29.drew = w30 at HO_9 HO688 BK681 HB hx690_0 hx691_0 hx691_1 hx691_2 hx691_3 hHeld ⊢
            refine pure_ (i := 1) (N := some 34) (v := ?_) (a' := ?_) #[false,true,false,false,false,false,false,false,false,false,false,false,false] rfl rfl (any_of HT_.out (by kernel_rfl)) (fun _ _ _ h => h) (Or.inl ⟨by rfl, ?_⟩) ?_ ?_
            rotate_left; (intro w'; go_simp; with_reducible rfl); rotate_left; (simp only [Act.put, List.setIfInBounds_toArray, List.set_cons_zero, List.set_cons_succ, i64_w, i32_w]; rfl)
            refine pure_ (i := 2) (N := some 35) (v := ?_) (a' := ?_) #[false,true,true,false,false,false,false,false,false,false,false,false,false] rfl rfl (any_of HT_.out (by kernel_rfl)) (fun _ _ _ h => h) (Or.inl ⟨by rfl, ?_⟩) ?_ ?_
            rotate_left; (intro w'; go_simp; with_reducible rfl); rotate_left; (simp only [Act.put, List.setIfInBounds_toArray, List.set_cons_zero, List.set_cons_succ, i64_w, i32_w]; rfl)
            refine pure_ (i := 3) (N := some 36) (v := ?_) (a' := ?_) #[false,true,true,true,false,false,false,false,false,false,false,false,false] rfl rfl (any_of HT_.out (by kernel_rfl)) (fun _ _ _ h => h) (Or.inl ⟨by rfl, ?_⟩) ?_ ?_
            rotate_left; (intro w'; go_simp; with_reducible rfl); rotate_left; (simp only [Act.put, List.setIfInBounds_toArray, List.set_cons_zero, List.set_cons_succ, i64_w, i32_w]; rfl)
            refine pure_ (i := 5) (N := some 38) (v := ?_) (a' := ?_) #[false,true,true,true,false,true,false,false,false,false,false,false,false] rfl rfl (any_of HT_.out (by kernel_rfl)) (fun _ _ _ h => h) (Or.inl ⟨by rfl, ?_⟩) ?_ ?_
            rotate_left; (intro w'; go_simp; with_reducible rfl); rotate_left; (simp only [Act.put, List.setIfInBounds_toArray, List.set_cons_zero, List.set_cons_succ, i64_w, i32_w]; rfl)
            refine pure_ (i := 6) (N := some 39) (v := ?_) (a' := ?_) #[false,true,true,true,false,true,true,false,false,false,false,false,false] rfl rfl (any_of HT_.out (by kernel_rfl)) (fun _ _ _ h => h) (Or.inl ⟨by rfl, ?_⟩) ?_ ?_
            rotate_left; (intro w'; go_simp; with_reducible rfl); rotate_left; (simp only [Act.put, List.setIfInBounds_toArray, List.set_cons_zero, List.set_cons_succ, i64_w, i32_w]; rfl)
            refine pure_ (i := 7) (N := some 40) (v := ?_) (a' := ?_) #[false,true,true,true,false,true,true,true,false,false,false,false,false] rfl rfl (any_of HT_.out (by kernel_rfl)) (fun _ _ _ h => h) (Or.inl ⟨by rfl, ?_⟩) ?_ ?_
            rotate_left; (intro w'; go_simp; with_reducible rfl); rotate_left; (simp only [Act.put, List.setIfInBounds_toArray, List.set_cons_zero, List.set_cons_succ, i64_w, i32_w]; rfl)
            refine take_ (i := 0) (N := some 33) (v := ?_) (a' := ?_) #[true,true,true,true,false,true,true,true,false,false,false,false,false] rfl rfl (take_ofW HT_.out HW_.out (by kernel_rfl)) (fun _ _ _ h => h) (Or.inl ⟨by rfl, ?_⟩) hHeld ?_ ?_
            rotate_left; (rintro w' ⟨s0, s1, s2, s3, s4, s5, s6⟩; go_simp; with_reducible rfl); rotate_left; (simp only [Act.put, List.setIfInBounds_toArray, List.set_cons_zero, List.set_cons_succ, i64_w, i32_w]; rfl)
            refine take_ (i := 4) (N := some 37) (v := ?_) (a' := ?_) #[true,true,true,true,true,true,true,true,false,false,false,false,false] rfl rfl (take_ofW HT_.out HW_.out (by kernel_rfl)) (fun _ _ _ h => h) (Or.inl ⟨by rfl, ?_⟩) hHeld ?_ ?_
            rotate_left; (rintro w' ⟨s0, s1, s2, s3, s4, s5, s6⟩; go_simp; with_reducible rfl); rotate_left; (simp only [Act.put, List.setIfInBounds_toArray, List.set_cons_zero, List.set_cons_succ, i64_w, i32_w]; rfl)
            refine take_ (i := 8) (N := some 41) (v := ?_) (a' := ?_) #[true,true,true,true,true,true,true,true,true,false,false,false,false] rfl rfl (take_ofW HT_.out HW_.out (by kernel_rfl)) (fun _ _ _ h => h) (Or.inl ⟨by rfl, ?_⟩) hHeld ?_ ?_
            rotate_left; (rintro w' ⟨s0, s1, s2, s3, s4, s5, s6⟩; go_simp; with_reducible rfl); rotate_left; (simp only [Act.put, List.setIfInBounds_toArray, List.set_cons_zero, List.set_cons_succ, i64_w, i32_w]; rfl)
            refine pure_ (i := 9) (N := some 42) (v := ?_) (a' := ?_) #[true,true,true,true,true,true,true,true,true,true,false,false,false] rfl rfl (any_of HT_.out (by kernel_rfl)) (fun _ _ _ h => h) (Or.inl ⟨by rfl, ?_⟩) ?_ ?_
            rotate_left; (intro w'; go_simp; with_reducible rfl); rotate_left; (simp only [Act.put, List.setIfInBounds_toArray, List.set_cons_zero, List.set_cons_succ, i64_w, i32_w]; rfl)
            refine pure_ (i := 10) (N := some 43) (v := ?_) (a' := ?_) #[true,true,true,true,true,true,true,true,true,true,true,false,false] rfl rfl (any_of HT_.out (by kernel_rfl)) (fun _ _ _ h => h) (Or.inl ⟨by rfl, ?_⟩) ?_ ?_
            rotate_left; (intro w'; go_simp; with_reducible rfl); rotate_left; (simp only [Act.put, List.setIfInBounds_toArray, List.set_cons_zero, List.set_cons_succ, i64_w, i32_w]; rfl)
            refine take_ (i := 11) (N := some 44) (v := ?_) (a' := ?_) #[true,true,true,true,true,true,true,true,true,true,true,true,false] rfl rfl (take_ofW HT_.out HW_.out (by kernel_rfl)) (fun _ _ _ h => h) (Or.inl ⟨by rfl, ?_⟩) hHeld ?_ ?_
            rotate_left; (rintro w' ⟨s0, s1, s2, s3, s4, s5, s6⟩; go_simp; with_reducible rfl); rotate_left; (simp only [Act.put, List.setIfInBounds_toArray, List.set_cons_zero, List.set_cons_succ, i64_w, i32_w]; rfl)
            refine one_ (i := 12) (N := some 45) #[true,true,true,true,true,true,true,true,true,true,true,true,true] rfl rfl (one_of HT_.out (by kernel_rfl)) (by decide) (fun K hK => ?_)
            refine goes_ Try.func95 (by kernel_rfl) rfl #[.agg #[.int .i64 a0_0, .slice (some ad691) l0_1.length c0_1], .slice Ao28 t686.length co28, .int .i64 a2, .int .i64 ((rd_T37 l0_1 (rd l1 x10_1)).f0)] (by rfl) rfl rfl (by (try simp only [List.map_toArray, List.map_cons, List.map_nil]); first | done | rfl | (simp only [List.length_drop, List.length_take]; rfl)) ?_
            with_reducible refine (qr16joined.calls k1 a0_0 _ _ l0_1 _ _ t686 a2 ((rd_T37 l0_1 (rd l1 x10_1)).f0) true _ ?side1 ?side2 ?side3 ?side4 A22.out).mono ?_
            (case side1 => repeat (first | exact (Kd.C_below HR0_1.out HB.out) | (with_reducible refine Kd.C_alloc ?_ _) | (with_reducible refine Kd.C_drewN ?_ _) | (with_reducible refine Kd.C_drew ?_)))
            (case side2 => exact HC0_1.out)
            (case side3 => repeat (first | exact (Kd.R_reads' HO688.out).2.2 | (with_reducible refine Kd.C_alloc ?_ _) | (with_reducible refine Kd.C_drewN ?_ _) | (with_reducible refine Kd.C_drew ?_)))
            (case side4 => exact (Kd.R_reads' HO688.out).2.1)
            rintro e w31 ⟨rfl, hb⟩
            refine ⟨_, rfl, ?_⟩
            have n0_ := Z0.mk (Kd.R_below (by (with_reducible repeat (first | apply Kd.R_alloc | apply Kd.R_drewN | apply Kd.R_drew)); exact HO_9.out) hb)
            have n1_ := Z0.mk (Kd.R_below (by (with_reducible repeat (first | apply Kd.R_alloc | apply Kd.R_drewN | apply Kd.R_drew)); exact HO688.out) hb)
            have n2_ := Z0.mk (kB (g := gb681) (o := .cells #[.int .i64 a0_0, .slice (some ad691) l0_1.length c0_1] 24 (0, 0)) (by (with_reducible repeat (first | refine kN ?_ _ | refine kD ?_ | refine kA ?_ _)); exact BK681.out) hb)
            have n3_ := Z0.mk (bT (by repeat (first | (with_reducible first | exact HB.out | apply below_alloc | apply bN | apply bD | refine bS ?_ GE681.out) | exact HB.out)) hb)
            clear HO_9; clear HO688; clear BK681; clear HB
            have HO_9 := n0_
            have HO688 := n1_
            have BK681 := n2_
            have HB := n3_
            clear n0_ n1_ n2_ n3_
            (try clear hb)
            (try clear hb2)
            (try clear hk)
            (try clear hi)
            refine hK.out _ _ ⟨(kC BK681.out 0).trans rfl, (kC BK681.out 1).trans rfl, ((HB.out.cell (wlt0 w _ hw690_0)).trans hw690_0), ((HB.out.cell (wlt0 w _ hw691_0)).trans hw691_0), ((HB.out.cell (wlt0 w _ hw691_1)).trans hw691_1), ((HB.out.cell (wlt0 w _ hw691_2)).trans hw691_2), ((HB.out.cell (wlt0 w _ hw691_3)).trans hw691_3)⟩ (fun hHeld => ?_)
            clear hK K
            refine norm_ (a' := ?_) ?_ ?_
            rotate_left
            ·show Act.put _ (some 45) _ = _
             simp only [Act.put, List.setIfInBounds_toArray, List.set_cons_zero, List.set_cons_succ, i64_w, i32_w]
             rfl
            refine done_ (done_of HT_.out (by kernel_rfl)) ?_
            have p693 : 0 ≤ (x10_1 : Int) := of_decide_eq_true (by first | (with_reducible assumption) | assumption)
            have q693 : x10_1 < (l1.length : Int) := of_decide_eq_true (by first | (with_reducible assumption) | assumption)
            obtain ⟨ad693, e693, hx693_0⟩ := Kd.at_int HR1.out x10_1 p693 q693
            obtain rfl : ad685 = ad693 := (by injection e693)
            replace hx693_0 := (HB.out.cell (wlt0 w _ hx693_0)).trans hx693_0
            replace p693 := eq_true p693
            replace q693 := eq_true q693
            have p25 : 0 ≤ ((rd l1 x10_1) : Int) := of_decide_eq_true (by first | (with_reducible assumption) | assumption)
            have q25 : ((rd l1 x10_1) : Int) < ((x9_1.length : Int) : Int) := of_decide_eq_true (by first | (with_reducible assumption) | assumption)
            obtain ⟨go25, co25, eo25, gb25, gl25, cl25, HG25⟩ := Kd.R_form HO_9.out (by omega)
            (first | cases eo25 | (injection eo25 with ea_ en_ ec_; (first | subst ea_ | (injection ea_ with ea_; subst ea_)); subst ec_; clear en_))
            have GB25 := Z0.mk gb25
            have GG25 := Z0.mk HG25
            clear gb25 gl25 HG25
            obtain ⟨hx25_0, hf25_0⟩ := Kd.R_celln 0 HO_9.out ((rd l1 x10_1) : Int) p25 q25
            replace p25 := eq_true p25
            replace q25 := eq_true q25
            have n_ := Z0.mk (Kd.R_mono (ok' := (fun k_ => some k_ ≠ (.slice Ao28 t686.length co28 : Value).ownBlock)) HO_9.out (fun k_ hk => hk.2))
            clear HO_9
            have HO_9 := n_
            clear n_
            obtain ⟨hy32_, hz32_⟩ := Kd.R_celln 0 HO_9.out ((rd l1 x10_1) : Int) (of_decide_eq_true (by first | (with_reducible assumption) | assumption)) (of_decide_eq_true (by first | (with_reducible assumption) | assumption))
            have HP32 := Kd.R_putg HO_9.out ((rd l1 x10_1) : Int) 1
            try go_wp2_with (first | ((with_reducible refine gate_store (t := 3) (p := 51) rfl ?_); refine store_event (t := 3) (p := 51) (v := ?vo_w33) (w1 := (w31.setCell ⟨go25, ((rd l1 x10_1) : Int).toNat, none⟩ (.int .i64 1))) ?hg ?ho ?hn ?hr ?_; (case ho => rfl); (case hg => rfl); (case hn => rfl); (case hr => first | (go_simp; done) | (go_simp; rfl)); intro w33 hw; have hg : w31.grownBy w33 (some go25) := (by rw [hw]; exact HP32.2); have hp_ : Kd.R (Kd.int .i64) 3 w33 w.heap.size (fun k_ => some k_ ≠ (.slice Ao28 t686.length co28 : Value).ownBlock) (.slice (some ⟨go25, 0, none⟩) x9_1.length co25) y694 := (by rw [hw, Ny694.out]; exact HP32.1); clear HP32; have n0_ := Z0.mk (hp_); have n1_ := Z0.mk (blk_grown (g := gb681) (o := .cells #[.int .i64 a0_0, .slice (some ad691) l0_1.length c0_1] 24 (0, 0)) (by (with_reducible repeat (first | refine kN ?_ _ | refine kD ?_ | refine kA ?_ _)); exact BK681.out) hg (Kd.R_ne HO_9.out BK681.out (by decide))); have n2_ := Z0.mk (Kd.R_after (v := (.slice (some ⟨go25, 0, none⟩) x9_1.length co25)) (v1 := (.slice (some ⟨go25, 0, none⟩) x9_1.length co25)) (ok := (fun _ => True)) (by (with_reducible repeat (first | apply Kd.R_alloc | apply Kd.R_drewN | apply Kd.R_drew)); exact HO688.out) hg (.inl rfl)); have n3_ := Z0.mk ((by rw [hw]; exact bS (HB.out) GB25.out : Below w.heap.size w w33)); clear HO_9; clear BK681; clear HO688; clear HB; have HO_9 := n0_; have BK681 := n1_; have HO688 := n2_; have HB := n3_; clear n0_ n1_ n2_ n3_; clear hg hw hp_))
            go_roundg k1
            case measure => have := HK1.out; omega
            case rel => exact ⟨(y694), (wrap64 (x10_1 + 1)), (by first | rfl | (simp; done) | (simp [*]; done)), H', ⟨by have := HK1.out; omega⟩, ⟨by (with_reducible repeat (first | apply Kd.R_alloc | apply Kd.R_drewN | apply Kd.R_drew)); exact Kd.R_mono HO_9.out (fun _ hk => trivial)⟩, ⟨by (with_reducible repeat (first | refine kN ?_ _ | refine kD ?_ | refine kA ?_ _)); exact BK681.out⟩, ⟨by repeat (first | (with_reducible first | exact HB.out | apply below_alloc | apply bN | apply bD | refine bS ?_ GE681.out) | exact HB.out)⟩⟩
           ·rw [if_neg c24] at H
            exact absurd H (by simp)
          ·replace c23 := Bool.eq_false_iff.mpr c23
           subst c23
           have H1 : (if (rd l1 x10_1) < (x9_1.length : Int) then (qr16way.l0 k1 l1 a2 a3 (x9_1.set ((rd l1 x10_1) : Int).toNat (-1)) (wrap64 (x10_1 + 1)) a0_0 l0_1) else (none)) = some r := by rw [if_neg (show ¬ (false = true) by decide)] at H; exact H
           clear H
           have H := H1
           clear H1
           by_cases c34 : (rd l1 x10_1) < (x9_1.length : Int)
           ·rw [if_pos c34] at H
            have c34b0 : decide ((rd l1 x10_1) < (x9_1.length : Int)) = true := decide_eq_true c34
            clear c34
            obtain ⟨y696, hy696⟩ : ∃ y_ : List Int, y_ = (x9_1.set ((rd l1 x10_1) : Int).toNat (-1)) := ⟨_, rfl⟩
            replace H : (qr16way.l0 k1 l1 a2 a3 y696 (wrap64 (x10_1 + 1)) a0_0 l0_1) = some r := by first | (rw [hy696]; with_reducible exact H) | (have H2_ := (Option.bind_some _ _).symm.trans H; rw [hy696]; with_reducible exact H2_) | (have H2_ := (Option.bind_some _ _).symm.trans H; with_reducible exact H2_) | with_reducible exact H | (rw [hy696]; exact H) | exact H
            have Ny696 := Z0.mk hy696
            clear hy696
            have H' := Z0.mk H
            clear H
            have p685 : 0 ≤ (x10_1 : Int) := of_decide_eq_true (by first | (with_reducible assumption) | assumption)
            have q685 : x10_1 < (l1.length : Int) := of_decide_eq_true (by first | (with_reducible assumption) | assumption)
            obtain ⟨ad685, e685, hx685_0⟩ := Kd.at_int HR1.out x10_1 p685 q685
            cases e685
            replace hx685_0 := (HB.out.cell (wlt0 w _ hx685_0)).trans hx685_0
            replace p685 := eq_true p685
            replace q685 := eq_true q685
            try go_wp2_with (first | ((with_reducible refine gC (f := 96) rfl ?_); refine gL (some 27) rfl rfl Try.func96 (by kernel_rfl) rfl #[.slice (some ad685) l1.length c1, .int .i64 (rd l1 x10_1)] rfl (by (try simp only [List.map_toArray, List.map_cons, List.map_nil]); first | done | rfl | (simp only [List.length_drop, List.length_take]; rfl)) ?_; (with_reducible refine (qr16without.calls k1 _ _ l1 (rd l1 x10_1) t686 _ ?side1 ?side2 A13.out).mono ?_); (case side1 => repeat (first | exact (Kd.C_below HR1.out HB.out) | (with_reducible refine Kd.C_alloc ?_ _) | (with_reducible refine Kd.C_drewN ?_ _) | (with_reducible refine Kd.C_drew ?_))); (case side2 => exact HC1.out); rintro e w36 ⟨v687, rfl, ho0, hb⟩; refine ⟨_, rfl, ?_⟩; have n0_ := Z0.mk (Kd.R_elder' (by (with_reducible repeat (first | apply Kd.R_alloc | apply Kd.R_drewN | apply Kd.R_drew)); exact HO_9.out) (Kd.R_base ho0) hb); have n1_ := Z0.mk (Kd.R_lower (Kd.R_new' ho0 (Kd.R_lt (by (with_reducible repeat (first | apply Kd.R_alloc | apply Kd.R_drewN | apply Kd.R_drew)); exact HO_9.out))) (bZ (by repeat (first | (with_reducible first | exact HB.out | apply below_alloc | apply bN | apply bD | refine bS ?_ GE681.out) | exact HB.out)))); have n2_ := Z0.mk (kB (g := gb681) (o := .cells #[.int .i64 a0_0, .slice A0_1 l0_1.length c0_1] 24 (0, 0)) (by (with_reducible repeat (first | refine kN ?_ _ | refine kD ?_ | refine kA ?_ _)); exact BK681.out) hb); have n3_ := Z0.mk (bT (by repeat (first | (with_reducible first | exact HB.out | apply below_alloc | apply bN | apply bD | refine bS ?_ GE681.out) | exact HB.out)) hb); clear HO_9; clear BK681; clear HB; have HO_9 := n0_; have HO688 := n1_; have BK681 := n2_; have HB := n3_; clear n0_ n1_ n2_ n3_; (try clear hb); (try clear hb2); (try clear hk); (try clear hi); (try clear ho0); have hcz37_0 : w36.cell? ⟨gb681, 0, none⟩ = some (.int .i64 a0_0) := (kC BK681.out 0).trans rfl; have hcz37_1 : w36.cell? ⟨gb681, 1, none⟩ = some (.slice A0_1 l0_1.length c0_1) := (kC BK681.out 1).trans rfl; have hfz37_0 := kF BK681.out 0; have hfz37_1 := kF BK681.out 1; obtain ⟨Ao38, co38, eo38⟩ := Kd.R_slice HO688.out; subst eo38) | ((with_reducible refine gC (f := 95) rfl ?_); refine gL (some 32) rfl rfl Try.func95 (by kernel_rfl) rfl #[.agg #[.int .i64 a0_0, .slice A0_1 l0_1.length c0_1], .slice Ao38 t686.length co38, .int .i64 a2, .int .i64 a3] rfl (by (try simp only [List.map_toArray, List.map_cons, List.map_nil]); first | done | rfl | (simp only [List.length_drop, List.length_take]; rfl)) ?_; (with_reducible refine (qr16joined.calls k1 a0_0 _ _ l0_1 _ _ t686 a2 a3 false _ ?side1 ?side2 ?side3 ?side4 A14.out).mono ?_); (case side1 => repeat (first | exact (Kd.C_below HR0_1.out HB.out) | (with_reducible refine Kd.C_alloc ?_ _) | (with_reducible refine Kd.C_drewN ?_ _) | (with_reducible refine Kd.C_drew ?_))); (case side2 => exact HC0_1.out); (case side3 => repeat (first | exact (Kd.R_reads' HO688.out).2.2 | (with_reducible refine Kd.C_alloc ?_ _) | (with_reducible refine Kd.C_drewN ?_ _) | (with_reducible refine Kd.C_drew ?_))); (case side4 => exact (Kd.R_reads' HO688.out).2.1); rintro e w39 ⟨rfl, hb⟩; refine ⟨_, rfl, ?_⟩; have n0_ := Z0.mk (Kd.R_below (by (with_reducible repeat (first | apply Kd.R_alloc | apply Kd.R_drewN | apply Kd.R_drew)); exact HO_9.out) hb); have n1_ := Z0.mk (Kd.R_below (by (with_reducible repeat (first | apply Kd.R_alloc | apply Kd.R_drewN | apply Kd.R_drew)); exact HO688.out) hb); have n2_ := Z0.mk (kB (g := gb681) (o := .cells #[.int .i64 a0_0, .slice A0_1 l0_1.length c0_1] 24 (0, 0)) (by (with_reducible repeat (first | refine kN ?_ _ | refine kD ?_ | refine kA ?_ _)); exact BK681.out) hb); have n3_ := Z0.mk (bT (by repeat (first | (with_reducible first | exact HB.out | apply below_alloc | apply bN | apply bD | refine bS ?_ GE681.out) | exact HB.out)) hb); clear HO_9; clear HO688; clear BK681; clear HB; have HO_9 := n0_; have HO688 := n1_; have BK681 := n2_; have HB := n3_; clear n0_ n1_ n2_ n3_; (try clear hb); (try clear hb2); (try clear hk); (try clear hi)))
            have n0_ := Z0.mk (Kd.R_drew HO_9.out)
            have n1_ := Z0.mk (Kd.R_drew HO688.out)
            have n2_ := Z0.mk (kD BK681.out)
            have n3_ := Z0.mk (bD HB.out)
            clear HO_9; clear HO688; clear BK681; clear HB
            have HO_9 := n0_
            have HO688 := n1_
            have BK681 := n2_
            have HB := n3_
            clear n0_ n1_ n2_ n3_
            have p690 : 0 ≤ (x10_1 : Int) := of_decide_eq_true (by first | (with_reducible assumption) | assumption)
            have q690 : x10_1 < (l1.length : Int) := of_decide_eq_true (by first | (with_reducible assumption) | assumption)
            obtain ⟨ad690, e690, hx690_0⟩ := Kd.at_int HR1.out x10_1 p690 q690
            have hw690_0 := hx690_0
            obtain rfl : ad685 = ad690 := (by injection e690)
            replace hx690_0 := (HB.out.cell (wlt0 w _ hx690_0)).trans hx690_0
            replace p690 := eq_true p690
            replace q690 := eq_true q690
            have p691 : 0 ≤ ((rd l1 x10_1) : Int) := of_decide_eq_true (by first | (with_reducible assumption) | assumption)
            have q691 : (rd l1 x10_1) < (l0_1.length : Int) := of_decide_eq_true (by first | (with_reducible assumption) | assumption)
            obtain ⟨ad691, e691, hx691_0, hx691_1, hx691_2, hx691_3⟩ := at_T37 HR0_1.out (rd l1 x10_1) p691 q691
            have hw691_3 := hx691_3
            have hw691_2 := hx691_2
            have hw691_1 := hx691_1
            have hw691_0 := hx691_0
            cases e691
            replace hx691_0 := (HB.out.cell (wlt0 w _ hx691_0)).trans hx691_0
            replace hx691_1 := (HB.out.cell (wlt0 w _ hx691_1)).trans hx691_1
            replace hx691_2 := (HB.out.cell (wlt0 w _ hx691_2)).trans hx691_2
            replace hx691_3 := (HB.out.cell (wlt0 w _ hx691_3)).trans hx691_3
            replace p691 := eq_true p691
            replace q691 := eq_true q691
            refine start_ (n := 13) (S := fun w' => w'.cell? ⟨gb681, 0, none⟩ = some (.int .i64 a0_0) ∧ w'.cell? ⟨gb681, 1, none⟩ = some (.slice (some ad691) l0_1.length c0_1) ∧ w'.cell? (ad685.add (x10_1).toNat) = some (.int .i64 (rd l1 x10_1)) ∧ w'.cell? (ad691.add (((rd l1 x10_1)).toNat * 4)) = some (.int .i64 ((rd_T37 l0_1 (rd l1 x10_1)).f0)) ∧ w'.cell? ⟨(ad691.add (((rd l1 x10_1)).toNat * 4)).block, (ad691.add (((rd l1 x10_1)).toNat * 4)).off + 1, none⟩ = some (.int .i64 ((rd_T37 l0_1 (rd l1 x10_1)).f1)) ∧ w'.cell? ⟨(ad691.add (((rd l1 x10_1)).toNat * 4)).block, (ad691.add (((rd l1 x10_1)).toNat * 4)).off + 2, none⟩ = some (.int .i64 ((rd_T37 l0_1 (rd l1 x10_1)).f2)) ∧ w'.cell? ⟨(ad691.add (((rd l1 x10_1)).toNat * 4)).block, (ad691.add (((rd l1 x10_1)).toNat * 4)).off + 3, none⟩ = some (.int .i64 ((rd_T37 l0_1 (rd l1 x10_1)).f3))) (ds := []) #[false,false,false,false,false,false,false,false,false,false,false,false,false] (by kernel_rfl) rfl rfl ⟨(kC BK681.out 0).trans rfl, (kC BK681.out 1).trans rfl, ((HB.out.cell (wlt0 w _ hw690_0)).trans hw690_0), ((HB.out.cell (wlt0 w _ hw691_0)).trans hw691_0), ((HB.out.cell (wlt0 w _ hw691_1)).trans hw691_1), ((HB.out.cell (wlt0 w _ hw691_2)).trans hw691_2), ((HB.out.cell (wlt0 w _ hw691_3)).trans hw691_3)⟩ (fun hHeld => ?_); refine with_tabW qr16way.tab7 qr16way.bits7 (fun HT_ HW_ => ?_)
            generalize w39.drew = w40 at HO_9 HO688 BK681 HB hx690_0 hx691_0 hx691_1 hx691_2 hx691_3 hHeld ⊢
            refine pure_ (i := 1) (N := some 34) (v := ?_) (a' := ?_) #[false,true,false,false,false,false,false,false,false,false,false,false,false] rfl rfl (any_of HT_.out (by kernel_rfl)) (fun _ _ _ h => h) (Or.inl ⟨by rfl, ?_⟩) ?_ ?_
            rotate_left; (intro w'; go_simp; with_reducible rfl); rotate_left; (simp only [Act.put, List.setIfInBounds_toArray, List.set_cons_zero, List.set_cons_succ, i64_w, i32_w]; rfl)
            refine pure_ (i := 2) (N := some 35) (v := ?_) (a' := ?_) #[false,true,true,false,false,false,false,false,false,false,false,false,false] rfl rfl (any_of HT_.out (by kernel_rfl)) (fun _ _ _ h => h) (Or.inl ⟨by rfl, ?_⟩) ?_ ?_
            rotate_left; (intro w'; go_simp; with_reducible rfl); rotate_left; (simp only [Act.put, List.setIfInBounds_toArray, List.set_cons_zero, List.set_cons_succ, i64_w, i32_w]; rfl)
            refine pure_ (i := 3) (N := some 36) (v := ?_) (a' := ?_) #[false,true,true,true,false,false,false,false,false,false,false,false,false] rfl rfl (any_of HT_.out (by kernel_rfl)) (fun _ _ _ h => h) (Or.inl ⟨by rfl, ?_⟩) ?_ ?_
            rotate_left; (intro w'; go_simp; with_reducible rfl); rotate_left; (simp only [Act.put, List.setIfInBounds_toArray, List.set_cons_zero, List.set_cons_succ, i64_w, i32_w]; rfl)
            refine pure_ (i := 5) (N := some 38) (v := ?_) (a' := ?_) #[false,true,true,true,false,true,false,false,false,false,false,false,false] rfl rfl (any_of HT_.out (by kernel_rfl)) (fun _ _ _ h => h) (Or.inl ⟨by rfl, ?_⟩) ?_ ?_
            rotate_left; (intro w'; go_simp; with_reducible rfl); rotate_left; (simp only [Act.put, List.setIfInBounds_toArray, List.set_cons_zero, List.set_cons_succ, i64_w, i32_w]; rfl)
            refine pure_ (i := 6) (N := some 39) (v := ?_) (a' := ?_) #[false,true,true,true,false,true,true,false,false,false,false,false,false] rfl rfl (any_of HT_.out (by kernel_rfl)) (fun _ _ _ h => h) (Or.inl ⟨by rfl, ?_⟩) ?_ ?_
            rotate_left; (intro w'; go_simp; with_reducible rfl); rotate_left; (simp only [Act.put, List.setIfInBounds_toArray, List.set_cons_zero, List.set_cons_succ, i64_w, i32_w]; rfl)
            refine pure_ (i := 7) (N := some 40) (v := ?_) (a' := ?_) #[false,true,true,true,false,true,true,true,false,false,false,false,false] rfl rfl (any_of HT_.out (by kernel_rfl)) (fun _ _ _ h => h) (Or.inl ⟨by rfl, ?_⟩) ?_ ?_
            rotate_left; (intro w'; go_simp; with_reducible rfl); rotate_left; (simp only [Act.put, List.setIfInBounds_toArray, List.set_cons_zero, List.set_cons_succ, i64_w, i32_w]; rfl)
            refine take_ (i := 0) (N := some 33) (v := ?_) (a' := ?_) #[true,true,true,true,false,true,true,true,false,false,false,false,false] rfl rfl (take_ofW HT_.out HW_.out (by kernel_rfl)) (fun _ _ _ h => h) (Or.inl ⟨by rfl, ?_⟩) hHeld ?_ ?_
            rotate_left; (rintro w' ⟨s0, s1, s2, s3, s4, s5, s6⟩; go_simp; with_reducible rfl); rotate_left; (simp only [Act.put, List.setIfInBounds_toArray, List.set_cons_zero, List.set_cons_succ, i64_w, i32_w]; rfl)
            refine take_ (i := 4) (N := some 37) (v := ?_) (a' := ?_) #[true,true,true,true,true,true,true,true,false,false,false,false,false] rfl rfl (take_ofW HT_.out HW_.out (by kernel_rfl)) (fun _ _ _ h => h) (Or.inl ⟨by rfl, ?_⟩) hHeld ?_ ?_
            rotate_left; (rintro w' ⟨s0, s1, s2, s3, s4, s5, s6⟩; go_simp; with_reducible rfl); rotate_left; (simp only [Act.put, List.setIfInBounds_toArray, List.set_cons_zero, List.set_cons_succ, i64_w, i32_w]; rfl)
            refine take_ (i := 8) (N := some 41) (v := ?_) (a' := ?_) #[true,true,true,true,true,true,true,true,true,false,false,false,false] rfl rfl (take_ofW HT_.out HW_.out (by kernel_rfl)) (fun _ _ _ h => h) (Or.inl ⟨by rfl, ?_⟩) hHeld ?_ ?_
            rotate_left; (rintro w' ⟨s0, s1, s2, s3, s4, s5, s6⟩; go_simp; with_reducible rfl); rotate_left; (simp only [Act.put, List.setIfInBounds_toArray, List.set_cons_zero, List.set_cons_succ, i64_w, i32_w]; rfl)
            refine pure_ (i := 9) (N := some 42) (v := ?_) (a' := ?_) #[true,true,true,true,true,true,true,true,true,true,false,false,false] rfl rfl (any_of HT_.out (by kernel_rfl)) (fun _ _ _ h => h) (Or.inl ⟨by rfl, ?_⟩) ?_ ?_
            rotate_left; (intro w'; go_simp; with_reducible rfl); rotate_left; (simp only [Act.put, List.setIfInBounds_toArray, List.set_cons_zero, List.set_cons_succ, i64_w, i32_w]; rfl)
            refine pure_ (i := 10) (N := some 43) (v := ?_) (a' := ?_) #[true,true,true,true,true,true,true,true,true,true,true,false,false] rfl rfl (any_of HT_.out (by kernel_rfl)) (fun _ _ _ h => h) (Or.inl ⟨by rfl, ?_⟩) ?_ ?_
            rotate_left; (intro w'; go_simp; with_reducible rfl); rotate_left; (simp only [Act.put, List.setIfInBounds_toArray, List.set_cons_zero, List.set_cons_succ, i64_w, i32_w]; rfl)
            refine take_ (i := 11) (N := some 44) (v := ?_) (a' := ?_) #[true,true,true,true,true,true,true,true,true,true,true,true,false] rfl rfl (take_ofW HT_.out HW_.out (by kernel_rfl)) (fun _ _ _ h => h) (Or.inl ⟨by rfl, ?_⟩) hHeld ?_ ?_
            rotate_left; (rintro w' ⟨s0, s1, s2, s3, s4, s5, s6⟩; go_simp; with_reducible rfl); rotate_left; (simp only [Act.put, List.setIfInBounds_toArray, List.set_cons_zero, List.set_cons_succ, i64_w, i32_w]; rfl)
            refine one_ (i := 12) (N := some 45) #[true,true,true,true,true,true,true,true,true,true,true,true,true] rfl rfl (one_of HT_.out (by kernel_rfl)) (by decide) (fun K hK => ?_)
            refine goes_ Try.func95 (by kernel_rfl) rfl #[.agg #[.int .i64 a0_0, .slice (some ad691) l0_1.length c0_1], .slice Ao38 t686.length co38, .int .i64 a2, .int .i64 ((rd_T37 l0_1 (rd l1 x10_1)).f0)] (by rfl) rfl rfl (by (try simp only [List.map_toArray, List.map_cons, List.map_nil]); first | done | rfl | (simp only [List.length_drop, List.length_take]; rfl)) ?_
            with_reducible refine (qr16joined.calls k1 a0_0 _ _ l0_1 _ _ t686 a2 ((rd_T37 l0_1 (rd l1 x10_1)).f0) false _ ?side1 ?side2 ?side3 ?side4 A22.out).mono ?_
            (case side1 => repeat (first | exact (Kd.C_below HR0_1.out HB.out) | (with_reducible refine Kd.C_alloc ?_ _) | (with_reducible refine Kd.C_drewN ?_ _) | (with_reducible refine Kd.C_drew ?_)))
            (case side2 => exact HC0_1.out)
            (case side3 => repeat (first | exact (Kd.R_reads' HO688.out).2.2 | (with_reducible refine Kd.C_alloc ?_ _) | (with_reducible refine Kd.C_drewN ?_ _) | (with_reducible refine Kd.C_drew ?_)))
            (case side4 => exact (Kd.R_reads' HO688.out).2.1)
            rintro e w41 ⟨rfl, hb⟩
            refine ⟨_, rfl, ?_⟩
            have n0_ := Z0.mk (Kd.R_below (by (with_reducible repeat (first | apply Kd.R_alloc | apply Kd.R_drewN | apply Kd.R_drew)); exact HO_9.out) hb)
            have n1_ := Z0.mk (Kd.R_below (by (with_reducible repeat (first | apply Kd.R_alloc | apply Kd.R_drewN | apply Kd.R_drew)); exact HO688.out) hb)
            have n2_ := Z0.mk (kB (g := gb681) (o := .cells #[.int .i64 a0_0, .slice (some ad691) l0_1.length c0_1] 24 (0, 0)) (by (with_reducible repeat (first | refine kN ?_ _ | refine kD ?_ | refine kA ?_ _)); exact BK681.out) hb)
            have n3_ := Z0.mk (bT (by repeat (first | (with_reducible first | exact HB.out | apply below_alloc | apply bN | apply bD | refine bS ?_ GE681.out) | exact HB.out)) hb)
            clear HO_9; clear HO688; clear BK681; clear HB
            have HO_9 := n0_
            have HO688 := n1_
            have BK681 := n2_
            have HB := n3_
            clear n0_ n1_ n2_ n3_
            (try clear hb)
            (try clear hb2)
            (try clear hk)
            (try clear hi)
            refine hK.out _ _ ⟨(kC BK681.out 0).trans rfl, (kC BK681.out 1).trans rfl, ((HB.out.cell (wlt0 w _ hw690_0)).trans hw690_0), ((HB.out.cell (wlt0 w _ hw691_0)).trans hw691_0), ((HB.out.cell (wlt0 w _ hw691_1)).trans hw691_1), ((HB.out.cell (wlt0 w _ hw691_2)).trans hw691_2), ((HB.out.cell (wlt0 w _ hw691_3)).trans hw691_3)⟩ (fun hHeld => ?_)
            clear hK K
            refine norm_ (a' := ?_) ?_ ?_
            rotate_left
            ·show Act.put _ (some 45) _ = _
             simp only [Act.put, List.setIfInBounds_toArray, List.set_cons_zero, List.set_cons_succ, i64_w, i32_w]
             rfl
            refine done_ (done_of HT_.out (by kernel_rfl)) ?_
            have p695 : 0 ≤ (x10_1 : Int) := of_decide_eq_true (by first | (with_reducible assumption) | assumption)
            have q695 : x10_1 < (l1.length : Int) := of_decide_eq_true (by first | (with_reducible assumption) | assumption)
            obtain ⟨ad695, e695, hx695_0⟩ := Kd.at_int HR1.out x10_1 p695 q695
            obtain rfl : ad685 = ad695 := (by injection e695)
            replace hx695_0 := (HB.out.cell (wlt0 w _ hx695_0)).trans hx695_0
            replace p695 := eq_true p695
            replace q695 := eq_true q695
            have p35 : 0 ≤ ((rd l1 x10_1) : Int) := of_decide_eq_true (by first | (with_reducible assumption) | assumption)
            have q35 : ((rd l1 x10_1) : Int) < ((x9_1.length : Int) : Int) := of_decide_eq_true (by first | (with_reducible assumption) | assumption)
            obtain ⟨go35, co35, eo35, gb35, gl35, cl35, HG35⟩ := Kd.R_form HO_9.out (by omega)
            (first | cases eo35 | (injection eo35 with ea_ en_ ec_; (first | subst ea_ | (injection ea_ with ea_; subst ea_)); subst ec_; clear en_))
            have GB35 := Z0.mk gb35
            have GG35 := Z0.mk HG35
            clear gb35 gl35 HG35
            obtain ⟨hx35_0, hf35_0⟩ := Kd.R_celln 0 HO_9.out ((rd l1 x10_1) : Int) p35 q35
            replace p35 := eq_true p35
            replace q35 := eq_true q35
            have n_ := Z0.mk (Kd.R_mono (ok' := (fun k_ => some k_ ≠ (.slice Ao38 t686.length co38 : Value).ownBlock)) HO_9.out (fun k_ hk => hk.2))
            clear HO_9
            have HO_9 := n_
            clear n_
            obtain ⟨hy42_, hz42_⟩ := Kd.R_celln 0 HO_9.out ((rd l1 x10_1) : Int) (of_decide_eq_true (by first | (with_reducible assumption) | assumption)) (of_decide_eq_true (by first | (with_reducible assumption) | assumption))
            have HP42 := Kd.R_putg HO_9.out ((rd l1 x10_1) : Int) (-1)
            try go_wp2_with (first | ((with_reducible refine gate_store (t := 3) (p := 57) rfl ?_); refine store_event (t := 3) (p := 57) (v := ?vo_w43) (w1 := (w41.setCell ⟨go35, ((rd l1 x10_1) : Int).toNat, none⟩ (.int .i64 (-1)))) ?hg ?ho ?hn ?hr ?_; (case ho => rfl); (case hg => rfl); (case hn => rfl); (case hr => first | (go_simp; done) | (go_simp; rfl)); intro w43 hw; have hg : w41.grownBy w43 (some go35) := (by rw [hw]; exact HP42.2); have hp_ : Kd.R (Kd.int .i64) 3 w43 w.heap.size (fun k_ => some k_ ≠ (.slice Ao38 t686.length co38 : Value).ownBlock) (.slice (some ⟨go35, 0, none⟩) x9_1.length co35) y696 := (by rw [hw, Ny696.out]; exact HP42.1); clear HP42; have n0_ := Z0.mk (hp_); have n1_ := Z0.mk (blk_grown (g := gb681) (o := .cells #[.int .i64 a0_0, .slice (some ad691) l0_1.length c0_1] 24 (0, 0)) (by (with_reducible repeat (first | refine kN ?_ _ | refine kD ?_ | refine kA ?_ _)); exact BK681.out) hg (Kd.R_ne HO_9.out BK681.out (by decide))); have n2_ := Z0.mk (Kd.R_after (v := (.slice (some ⟨go35, 0, none⟩) x9_1.length co35)) (v1 := (.slice (some ⟨go35, 0, none⟩) x9_1.length co35)) (ok := (fun _ => True)) (by (with_reducible repeat (first | apply Kd.R_alloc | apply Kd.R_drewN | apply Kd.R_drew)); exact HO688.out) hg (.inl rfl)); have n3_ := Z0.mk ((by rw [hw]; exact bS (HB.out) GB35.out : Below w.heap.size w w43)); clear HO_9; clear BK681; clear HO688; clear HB; have HO_9 := n0_; have BK681 := n1_; have HO688 := n2_; have HB := n3_; clear n0_ n1_ n2_ n3_; clear hg hw hp_))
            go_roundg k1
            case measure => have := HK1.out; omega
            case rel => exact ⟨(y696), (wrap64 (x10_1 + 1)), (by first | rfl | (simp; done) | (simp [*]; done)), H', ⟨by have := HK1.out; omega⟩, ⟨by (with_reducible repeat (first | apply Kd.R_alloc | apply Kd.R_drewN | apply Kd.R_drew)); exact Kd.R_mono HO_9.out (fun _ hk => trivial)⟩, ⟨by (with_reducible repeat (first | refine kN ?_ _ | refine kD ?_ | refine kA ?_ _)); exact BK681.out⟩, ⟨by repeat (first | (with_reducible first | exact HB.out | apply below_alloc | apply bN | apply bD | refine bS ?_ GE681.out) | exact HB.out)⟩⟩
           ·rw [if_neg c34] at H
            exact absurd H (by simp)
         ·rw [if_neg c21] at H
          exact absurd H (by simp)
        ·rw [if_neg c20] at H
         exact absurd H (by simp)
      ·rw [if_neg c12] at H
       exact absurd H (by simp)
     ·rw [if_neg c11] at H
      have c11b0 : decide (x10_1 < (l1.length : Int)) = false := decide_eq_false c11
      clear c11
      obtain rfl := Option.some.inj H
      go_wp2
      go_ret
      exact ⟨_, by first | rfl | (simp [errW_none, errW_some] <;> rfl) | (simp [*, errW_none, errW_some] <;> rfl), by (with_reducible repeat (first | apply Kd.R_alloc | apply Kd.R_drewN | apply Kd.R_drew)); exact HO_9.out, by repeat (first | (with_reducible first | exact HB.out | apply below_alloc | apply bN | apply bD | refine bS ?_ GE681.out) | exact HB.out)⟩
  ·rw [if_neg c6] at H
   exact absurd H (by simp)
 ·rw [if_neg c5] at H
  exact absurd H (by simp)
def qr16Circles.l0 : Nat → List Int → List (List Int) → List Int → Int → Int → List (S37) → Option ((List (List Int)) × Int)
 | 0, _, _, _, _, _, _ => none
 | k + 1, x6, x8, x9, x10, x698000, x698001 => if x10 < (x9.length : Int) then (if 0 ≤ x10 then ((qr14Has.f k x6 (rd x9 x10)).bind fun t706 => (if t706 = true then (qr16Circles.l0 k x6 x8 x9 (wrap64 (x10 + 1)) x698000 x698001) else (if 0 ≤ (rd x9 x10) then (if (rd x9 x10) < (x698001.length : Int) then ((qr16way.f k x698000 x698001 x6 ((rd_T37 x698001 (rd x9 x10)).f1) ((rd_T37 x698001 (rd x9 x10)).f0)).bind fun t711 => (if (rd x9 x10) < (t711.length : Int) then (if x8.length < 5864062014805 then (qr16Circles.l0 k x6 (x8 ++ [(t711.set ((rd x9 x10) : Int).toNat 1)]) x9 (wrap64 (x10 + 1)) x698000 x698001) else (none)) else (none))) else (none)) else (none)))) else (none)) else (some (x8, 0))
def qr16Circles.f (k : Nat) (a0_0 : Int) (l0_1 : List (S37)) (l1 : List Int) : Option ((List (List Int)) × Int) := (qr16Tree.f k a0_0 l0_1 l1).bind fun bt698 => (if bt698.2 = 0 then ((qr14In.f k a0_0 l0_1 l1).bind fun t702 => (qr16Circles.l0 k bt698.1 ([] : List (List Int)) t702 0 a0_0 l0_1)) else (some (([] : List (List Int)), bt698.2)))
def qr16Circles.T10 : Bool × List (List Nat × List Nat) := (true, [([], []), ([], []), ([], []), ([2], [2]), ([], []), ([], []), ([4, 5], [4, 5]), ([6], [6]), ([3, 7], [3, 7]), ([8], [8]), ([9], [9]), ([], []), ([11], [11]), ([], []), ([], []), ([13, 14], [13, 14]), ([15], [15]), ([12, 16], [12, 16]), ([17], [17]), ([18], [18]), ([0, 1, 10, 19], [0, 1, 10, 19]), ([20, 20, 0, 1, 2, 3, 4, 5, 6, 7, 8, 9, 10, 11, 12, 13, 14, 15, 16, 17, 18, 19, 20], [20])])
def qr16Circles.B10 : List Nat := [0, 0, 0, 4, 0, 0, 48, 112, 252, 508, 1020, 0, 2048, 0, 0, 24576, 57344, 129024, 260096, 522240, 1048575, 2097151]
theorem qr16Circles.tab10 : rtab .any (opsOf Try.f54 10) = qr16Circles.T10 := by kernel_rfl
theorem qr16Circles.bits10 : waitsOk qr16Circles.T10.2 qr16Circles.B10 = true := by kernel_rfl
set_option maxHeartbeats 8000000 in
set_option maxRecDepth 100000 in
theorem qr16Circles.calls (k : Nat) (a0_0 : Int) (A0_1 : Option Addr) (c0_1 : Nat) (l0_1 : List (S37)) (A1 : Option Addr) (c1 : Nat) (l1 : List Int) (r1 : List (List Int)) (r2 : Int) (w : World) (hr0_1 : Kd.C k37 w A0_1 l0_1.length l0_1) (hc0_1 : l0_1.length ≤ c0_1) (hr1 : Kd.C (Kd.int .i64) w A1 l1.length l1) (hc1 : l1.length ≤ c1) (h : qr16Circles.f k a0_0 l0_1 l1 = some (r1, r2)) :
  Calls Try.prog 54 #[.agg #[.int .i64 a0_0, .slice A0_1 l0_1.length c0_1], .slice A1 l1.length c1] w fun e w' => ∃ v0_ : Value, e = .returned (.tuple #[v0_, .int .i64 r2]) ∧ Kd.S (Kd.slice 3 (Kd.int .i64)) 25 w' w.heap.size (fun _ => True) v0_ r1 ∧ Below w.heap.size w w' := by
 have hu24 := Try.underlying24
 have HR0_1 := Z0.mk hr0_1
 have HC0_1 := Z0.mk hc0_1
 clear hr0_1 hc0_1
 have HR1 := Z0.mk hr1
 have HC1 := Z0.mk hc1
 clear hr1 hc1
 have HB := Z0.mk (Below.refl w.heap.size w)
 have H : ((qr16Tree.f k a0_0 l0_1 l1).bind fun bt698 => (if bt698.2 = 0 then ((qr14In.f k a0_0 l0_1 l1).bind fun t702 => (qr16Circles.l0 k bt698.1 ([] : List (List Int)) t702 0 a0_0 l0_1)) else (some (([] : List (List Int)), bt698.2)))) = some (r1, r2) := h
 clear h
 replace H := Option.bind_eq_some_iff.mp H
 obtain ⟨⟨t698, t701⟩, A30, H⟩ := H
 replace H : (if t701 = 0 then ((qr14In.f k a0_0 l0_1 l1).bind fun t702 => (qr16Circles.l0 k t698 ([] : List (List Int)) t702 0 a0_0 l0_1)) else (some (([] : List (List Int)), t701))) = some (r1, r2) := H
 have A3 := Z0.mk A30
 clear A30
 by_cases c4 : t701 = 0
 ·rw [if_pos c4] at H
  have c4b0 : (t701 == 0) = true := beq_iff_eq.mpr c4
  have c4b1 : (t701 != 0) = false := bne_eq_false_iff_eq.mpr c4
  clear c4
  replace H := Option.bind_eq_some_iff.mp H
  obtain ⟨t702, A50, H⟩ := H
  replace H : (qr16Circles.l0 k t698 ([] : List (List Int)) t702 0 a0_0 l0_1) = some (r1, r2) := H
  have A5 := Z0.mk A50
  clear A50
  have H' := Z0.mk H
  clear H
  go_enter Try.func54, Try.ntmps54
  go_wp2_with (first | ((with_reducible refine gate_dst (N := 2) rfl ?_); refine bE ?hg (N := 2) ?hd (cs := #[.int .i64 a0_0, .slice A0_1 l0_1.length c0_1]) (t := 24) ?hr ?_; (case hd => rfl); (case hg => rfl); (case hr => first | (go_simp; done) | (go_simp; rfl)); intro gb697 hg w6 hbox hb; have n0_ := Z0.mk (bT (by repeat (first | (with_reducible first | exact HB.out | apply below_alloc | apply bN | apply bD) | exact HB.out)) hb); have n1_ := Z0.mk (hbox); have n2_ := Z0.mk ((by rw [hg]; exact (bZ (by repeat (first | (with_reducible first | exact HB.out | apply below_alloc | apply bN | apply bD) | exact HB.out))) : w.heap.size ≤ gb697)); have n3_ := Z0.mk ((by rw [hg]; exact (bZ (by repeat (first | (with_reducible first | exact HB.out | apply below_alloc | apply bN | apply bD) | exact HB.out))) : w.heap.size ≤ gb697)); clear HB; have HB := n0_; have BK697 := n1_; have GW697 := n2_; have GE697 := n3_; clear n0_ n1_ n2_ n3_; clear hb hbox hg; have hcz7_0 : w6.cell? ⟨gb697, 0, none⟩ = some (.int .i64 a0_0) := (kC BK697.out 0).trans rfl; have hcz7_1 : w6.cell? ⟨gb697, 1, none⟩ = some (.slice A0_1 l0_1.length c0_1) := (kC BK697.out 1).trans rfl; have hfz7_0 := kF BK697.out 0; have hfz7_1 := kF BK697.out 1) | ((with_reducible refine gC (f := 53) rfl ?_); refine gL (some 15) rfl rfl Try.func53 (by kernel_rfl) rfl #[.agg #[.int .i64 a0_0, .slice A0_1 l0_1.length c0_1], .slice A1 l1.length c1] rfl (by (try simp only [List.map_toArray, List.map_cons, List.map_nil]); first | done | rfl | (simp only [List.length_drop, List.length_take]; rfl)) ?_; (with_reducible refine (qr16Tree.calls k a0_0 _ _ l0_1 _ _ l1 t698 t701 _ ?side1 ?side2 ?side3 ?side4 A3.out).mono ?_); (case side1 => repeat (first | exact (Kd.C_below HR0_1.out HB.out) | (with_reducible refine Kd.C_alloc ?_ _) | (with_reducible refine Kd.C_drewN ?_ _) | (with_reducible refine Kd.C_drew ?_))); (case side2 => exact HC0_1.out); (case side3 => repeat (first | exact (Kd.C_below HR1.out HB.out) | (with_reducible refine Kd.C_alloc ?_ _) | (with_reducible refine Kd.C_drewN ?_ _) | (with_reducible refine Kd.C_drew ?_))); (case side4 => exact HC1.out); rintro e w8 ⟨v699, rfl, ho0, hb⟩; refine ⟨_, rfl, ?_⟩; have n0_ := Z0.mk (Kd.R_lower ho0 (bZ (by repeat (first | (with_reducible first | exact HB.out | apply below_alloc | apply bN | apply bD | refine bS ?_ GE697.out) | exact HB.out)))); have n1_ := Z0.mk (kB (g := gb697) (o := .cells #[.int .i64 a0_0, .slice A0_1 l0_1.length c0_1] 24 (0, 0)) (by (with_reducible repeat (first | refine kN ?_ _ | refine kD ?_ | refine kA ?_ _)); exact BK697.out) hb); have n2_ := Z0.mk (bT (by repeat (first | (with_reducible first | exact HB.out | apply below_alloc | apply bN | apply bD | refine bS ?_ GE697.out) | exact HB.out)) hb); clear BK697; clear HB; have HO700 := n0_; have BK697 := n1_; have HB := n2_; clear n0_ n1_ n2_; (try clear hb); (try clear hb2); (try clear hk); (try clear hi); (try clear ho0); have hcz9_0 : w8.cell? ⟨gb697, 0, none⟩ = some (.int .i64 a0_0) := (kC BK697.out 0).trans rfl; have hcz9_1 : w8.cell? ⟨gb697, 1, none⟩ = some (.slice A0_1 l0_1.length c0_1) := (kC BK697.out 1).trans rfl; have hfz9_0 := kF BK697.out 0; have hfz9_1 := kF BK697.out 1) | ((with_reducible refine gC (f := 72) rfl ?_); refine gL (some 23) rfl rfl Try.func72 (by kernel_rfl) rfl #[.agg #[.int .i64 a0_0, .slice A0_1 l0_1.length c0_1], .slice A1 l1.length c1] rfl (by (try simp only [List.map_toArray, List.map_cons, List.map_nil]); first | done | rfl | (simp only [List.length_drop, List.length_take]; rfl)) ?_; (with_reducible refine (qr14In.calls k a0_0 _ _ l0_1 _ _ l1 t702 _ ?side1 ?side2 ?side3 ?side4 A5.out).mono ?_); (case side1 => repeat (first | exact (Kd.C_below HR0_1.out HB.out) | (with_reducible refine Kd.C_alloc ?_ _) | (with_reducible refine Kd.C_drewN ?_ _) | (with_reducible refine Kd.C_drew ?_))); (case side2 => exact HC0_1.out); (case side3 => repeat (first | exact (Kd.C_below HR1.out HB.out) | (with_reducible refine Kd.C_alloc ?_ _) | (with_reducible refine Kd.C_drewN ?_ _) | (with_reducible refine Kd.C_drew ?_))); (case side4 => exact HC1.out); rintro e w10 ⟨v703, rfl, ho0, hb⟩; refine ⟨_, rfl, ?_⟩; have n0_ := Z0.mk (Kd.R_elder' (by (with_reducible repeat (first | apply Kd.R_alloc | apply Kd.R_drewN | apply Kd.R_drew)); exact HO700.out) (Kd.R_base ho0) hb); have n1_ := Z0.mk (Kd.R_lower (Kd.R_new' ho0 (Kd.R_lt (by (with_reducible repeat (first | apply Kd.R_alloc | apply Kd.R_drewN | apply Kd.R_drew)); exact HO700.out))) (bZ (by repeat (first | (with_reducible first | exact HB.out | apply below_alloc | apply bN | apply bD | refine bS ?_ GE697.out) | exact HB.out)))); have n2_ := Z0.mk (kB (g := gb697) (o := .cells #[.int .i64 a0_0, .slice A0_1 l0_1.length c0_1] 24 (0, 0)) (by (with_reducible repeat (first | refine kN ?_ _ | refine kD ?_ | refine kA ?_ _)); exact BK697.out) hb); have n3_ := Z0.mk (bT (by repeat (first | (with_reducible first | exact HB.out | apply below_alloc | apply bN | apply bD | refine bS ?_ GE697.out) | exact HB.out)) hb); clear HO700; clear BK697; clear HB; have HO700 := n0_; have HO704 := n1_; have BK697 := n2_; have HB := n3_; clear n0_ n1_ n2_ n3_; (try clear hb); (try clear hb2); (try clear hk); (try clear hi); (try clear ho0)))
  go_loopg [8, 10] k (fun kq v8 v10 w' => ∃ (x6_1 : List Int) (x8_1 : List (List Int)) (x9_1 : List Int) (x10_1 : Int), v10 = .int .i64 x10_1 ∧ Z0 (qr16Circles.l0 kq x6_1 x8_1 x9_1 x10_1 a0_0 l0_1 = some (r1, r2)) ∧ Z0 (kq ≤ k) ∧ Z0 (Kd.R (Kd.int .i64) 3 w' w.heap.size (fun k_ => some k_ ≠ (v703 : Value).ownBlock) v699 x6_1) ∧ Z0 (Kd.S (Kd.slice 3 (Kd.int .i64)) 25 w' w.heap.size (fun k_ => some k_ ≠ (v699 : Value).ownBlock ∧ some k_ ≠ (v703 : Value).ownBlock) v8 x8_1) ∧ Z0 (Kd.R (Kd.int .i64) 3 w' w.heap.size (fun k_ => some k_ ≠ (v699 : Value).ownBlock) v703 x9_1) ∧ Z0 (w'.heap[gb697]? = some (.cells #[.int .i64 a0_0, (.slice A0_1 l0_1.length c0_1)] 24 (0, 0))) ∧ Z0 (Below w.heap.size w w'))
  case atStart => exact ⟨(t698), (([] : List (List Int))), (t702), (0), (by first | rfl | (simp; done) | (simp [*]; done)), H', ⟨Nat.le_refl _⟩, ⟨by (with_reducible repeat (first | apply Kd.R_alloc | apply Kd.R_drewN | apply Kd.R_drew)); exact Kd.R_mono HO700.out (fun _ hk => hk.2)⟩, ⟨by first | exact Kd.S_nil _ _ _ _ _ | exact Kd.N_nil _ _ _ _ _ | exact Kd.V_nil _ _ _ _ _ | exact Kd.Q_nil _ _ _ _ _ | exact Kd.R_nil _ _ _ _ _⟩, ⟨by (with_reducible repeat (first | apply Kd.R_alloc | apply Kd.R_drewN | apply Kd.R_drew)); exact Kd.R_mono HO704.out (fun _ hk => hk.2)⟩, ⟨by (with_reducible repeat (first | refine kN ?_ _ | refine kD ?_ | refine kA ?_ _)); exact BK697.out⟩, ⟨by repeat (first | (with_reducible first | exact HB.out | apply below_alloc | apply bN | apply bD | refine bS ?_ GE697.out) | exact HB.out)⟩⟩
  case round =>
   clear H'; (try clear c1); (try clear p2); (try clear c4); (try clear c4b0); (try clear c4b1); (try clear c5); (try clear c7); (try clear hcz7_0); (try clear hcz7_1); (try clear hcz9_0); (try clear hcz9_1); (try clear hfz7_0); (try clear hfz7_1); (try clear hfz9_0); (try clear hfz9_1)
   obtain ⟨x6_1, x8_1, x9_1, x10_1, rfl, HA, HK1, HO_6, HO_8, HO_9, BK697, HB⟩ := hrel
   cases gk with
   | zero => exact absurd HA.out (by simp [qr16Circles.l0])
   | succ k1 =>
    have H := HA.out
    clear HA
    simp only [qr16Circles.l0] at H
    by_cases c11 : x10_1 < (x9_1.length : Int)
    ·rw [if_pos c11] at H
     have c11b0 : decide (x10_1 < (x9_1.length : Int)) = true := decide_eq_true c11
     clear c11
     by_cases c12 : 0 ≤ x10_1
     ·rw [if_pos c12] at H
      have c12b0 : decide (0 ≤ x10_1) = true := decide_eq_true c12
      clear c12
      replace H := Option.bind_eq_some_iff.mp H
      obtain ⟨t706, A130, H⟩ := H
      replace H : (if t706 = true then (qr16Circles.l0 k1 x6_1 x8_1 x9_1 (wrap64 (x10_1 + 1)) a0_0 l0_1) else (if 0 ≤ (rd x9_1 x10_1) then (if (rd x9_1 x10_1) < (l0_1.length : Int) then ((qr16way.f k1 a0_0 l0_1 x6_1 ((rd_T37 l0_1 (rd x9_1 x10_1)).f1) ((rd_T37 l0_1 (rd x9_1 x10_1)).f0)).bind fun t711 => (if (rd x9_1 x10_1) < (t711.length : Int) then (if x8_1.length < 5864062014805 then (qr16Circles.l0 k1 x6_1 (x8_1 ++ [(t711.set ((rd x9_1 x10_1) : Int).toNat 1)]) x9_1 (wrap64 (x10_1 + 1)) a0_0 l0_1) else (none)) else (none))) else (none)) else (none))) = some (r1, r2) := H
      have A13 := Z0.mk A130
      clear A130
      by_cases c14 : t706 = true
      ·subst c14
       have H1 : (qr16Circles.l0 k1 x6_1 x8_1 x9_1 (wrap64 (x10_1 + 1)) a0_0 l0_1) = some (r1, r2) := by rw [if_pos rfl] at H; exact H
       clear H
       have H := H1
       clear H1
       have H' := Z0.mk H
       clear H
       obtain ⟨Ao15, co15, eo15⟩ := Kd.R_slice HO_9.out
       subst eo15
       have p705 : 0 ≤ (x10_1 : Int) := of_decide_eq_true (by first | (with_reducible assumption) | assumption)
       have q705 : x10_1 < (x9_1.length : Int) := of_decide_eq_true (by first | (with_reducible assumption) | assumption)
       obtain ⟨ad705, e705, hx705_0⟩ := Kd.at_int (Kd.R_reads' HO_9.out).2.2 x10_1 p705 q705
       cases e705
       replace p705 := eq_true p705
       replace q705 := eq_true q705
       obtain ⟨Ao16, co16, eo16⟩ := Kd.R_slice HO_6.out
       subst eo16
       go_wp2_with (first | ((with_reducible refine gC (f := 97) rfl ?_); refine gL (some 35) rfl rfl Try.func97 (by kernel_rfl) rfl #[.slice Ao16 x6_1.length co16, .int .i64 (rd x9_1 x10_1)] rfl (by (try simp only [List.map_toArray, List.map_cons, List.map_nil]); first | done | rfl | (simp only [List.length_drop, List.length_take]; rfl)) ?_; (with_reducible refine (qr14Has.calls k1 _ _ x6_1 (rd x9_1 x10_1) true _ ?side1 ?side2 A13.out).mono ?_); (case side1 => repeat (first | exact (Kd.R_reads' HO_6.out).2.2 | (with_reducible refine Kd.C_alloc ?_ _) | (with_reducible refine Kd.C_drewN ?_ _) | (with_reducible refine Kd.C_drew ?_))); (case side2 => exact (Kd.R_reads' HO_6.out).2.1); rintro e w' ⟨rfl, ⟨nd, rfl⟩⟩; refine ⟨_, rfl, ?_⟩))
       go_roundg k1
       case measure => have := HK1.out; omega
       case rel => exact ⟨(x6_1), (x8_1), (x9_1), (wrap64 (x10_1 + 1)), (by first | rfl | (simp; done) | (simp [*]; done)), H', ⟨by have := HK1.out; omega⟩, ⟨by (with_reducible repeat (first | apply Kd.R_alloc | apply Kd.R_drewN | apply Kd.R_drew)); exact HO_6.out⟩, ⟨by (with_reducible repeat (first | apply Kd.S_alloc | apply Kd.S_drewN | apply Kd.S_drew)); exact HO_8.out⟩, ⟨by (with_reducible repeat (first | apply Kd.R_alloc | apply Kd.R_drewN | apply Kd.R_drew)); exact HO_9.out⟩, ⟨by (with_reducible repeat (first | refine kN ?_ _ | refine kD ?_ | refine kA ?_ _)); exact BK697.out⟩, ⟨by repeat (first | (with_reducible first | exact HB.out | apply below_alloc | apply bN | apply bD | refine bS ?_ GE697.out) | exact HB.out)⟩⟩
      ·replace c14 := Bool.eq_false_iff.mpr c14
       subst c14
       have H1 : (if 0 ≤ (rd x9_1 x10_1) then (if (rd x9_1 x10_1) < (l0_1.length : Int) then ((qr16way.f k1 a0_0 l0_1 x6_1 ((rd_T37 l0_1 (rd x9_1 x10_1)).f1) ((rd_T37 l0_1 (rd x9_1 x10_1)).f0)).bind fun t711 => (if (rd x9_1 x10_1) < (t711.length : Int) then (if x8_1.length < 5864062014805 then (qr16Circles.l0 k1 x6_1 (x8_1 ++ [(t711.set ((rd x9_1 x10_1) : Int).toNat 1)]) x9_1 (wrap64 (x10_1 + 1)) a0_0 l0_1) else (none)) else (none))) else (none)) else (none)) = some (r1, r2) := by rw [if_neg (show ¬ (false = true) by decide)] at H; exact H
       clear H
       have H := H1
       clear H1
       by_cases c17 : 0 ≤ (rd x9_1 x10_1)
       ·rw [if_pos c17] at H
        have c17b0 : decide (0 ≤ (rd x9_1 x10_1)) = true := decide_eq_true c17
        clear c17
        by_cases c18 : (rd x9_1 x10_1) < (l0_1.length : Int)
        ·rw [if_pos c18] at H
         have c18b0 : decide ((rd x9_1 x10_1) < (l0_1.length : Int)) = true := decide_eq_true c18
         clear c18
         replace H := Option.bind_eq_some_iff.mp H
         obtain ⟨t711, A190, H⟩ := H
         replace H : (if (rd x9_1 x10_1) < (t711.length : Int) then (if x8_1.length < 5864062014805 then (qr16Circles.l0 k1 x6_1 (x8_1 ++ [(t711.set ((rd x9_1 x10_1) : Int).toNat 1)]) x9_1 (wrap64 (x10_1 + 1)) a0_0 l0_1) else (none)) else (none)) = some (r1, r2) := H
         have A19 := Z0.mk A190
         clear A190
         by_cases c20 : (rd x9_1 x10_1) < (t711.length : Int)
         ·rw [if_pos c20] at H
          have c20b0 : decide ((rd x9_1 x10_1) < (t711.length : Int)) = true := decide_eq_true c20
          clear c20
          obtain ⟨y715, hy715⟩ : ∃ y_ : List Int, y_ = (t711.set ((rd x9_1 x10_1) : Int).toNat 1) := ⟨_, rfl⟩
          replace H : (if x8_1.length < 5864062014805 then (qr16Circles.l0 k1 x6_1 (x8_1 ++ [y715]) x9_1 (wrap64 (x10_1 + 1)) a0_0 l0_1) else (none)) = some (r1, r2) := by first | (rw [hy715]; with_reducible exact H) | (have H2_ := (Option.bind_some _ _).symm.trans H; rw [hy715]; with_reducible exact H2_) | (have H2_ := (Option.bind_some _ _).symm.trans H; with_reducible exact H2_) | with_reducible exact H | (rw [hy715]; exact H) | exact H
          have Ny715 := Z0.mk hy715
          clear hy715
          by_cases c22 : x8_1.length < 5864062014805
          ·rw [if_pos c22] at H
           have LMc22 := Z0.mk c22
           clear c22
           obtain ⟨y716, hy716⟩ : ∃ y_ : List (List Int), y_ = (x8_1 ++ [y715]) := ⟨_, rfl⟩
           replace H : (qr16Circles.l0 k1 x6_1 y716 x9_1 (wrap64 (x10_1 + 1)) a0_0 l0_1) = some (r1, r2) := by first | (rw [hy716]; with_reducible exact H) | (have H2_ := (Option.bind_some _ _).symm.trans H; rw [hy716]; with_reducible exact H2_) | (have H2_ := (Option.bind_some _ _).symm.trans H; with_reducible exact H2_) | with_reducible exact H | (rw [hy716]; exact H) | exact H
           have Ny716 := Z0.mk hy716
           clear hy716
           have H' := Z0.mk H
           clear H
           obtain ⟨Ao23, co23, eo23⟩ := Kd.R_slice HO_9.out
           subst eo23
           have p705 : 0 ≤ (x10_1 : Int) := of_decide_eq_true (by first | (with_reducible assumption) | assumption)
           have q705 : x10_1 < (x9_1.length : Int) := of_decide_eq_true (by first | (with_reducible assumption) | assumption)
           obtain ⟨ad705, e705, hx705_0⟩ := Kd.at_int (Kd.R_reads' HO_9.out).2.2 x10_1 p705 q705
           cases e705
           replace p705 := eq_true p705
           replace q705 := eq_true q705
           obtain ⟨Ao24, co24, eo24⟩ := Kd.R_slice HO_6.out
           subst eo24
           try go_wp2_with (first | ((with_reducible refine gC (f := 97) rfl ?_); refine gL (some 35) rfl rfl Try.func97 (by kernel_rfl) rfl #[.slice Ao24 x6_1.length co24, .int .i64 (rd x9_1 x10_1)] rfl (by (try simp only [List.map_toArray, List.map_cons, List.map_nil]); first | done | rfl | (simp only [List.length_drop, List.length_take]; rfl)) ?_; (with_reducible refine (qr14Has.calls k1 _ _ x6_1 (rd x9_1 x10_1) false _ ?side1 ?side2 A13.out).mono ?_); (case side1 => repeat (first | exact (Kd.R_reads' HO_6.out).2.2 | (with_reducible refine Kd.C_alloc ?_ _) | (with_reducible refine Kd.C_drewN ?_ _) | (with_reducible refine Kd.C_drew ?_))); (case side2 => exact (Kd.R_reads' HO_6.out).2.1); rintro e w' ⟨rfl, ⟨nd, rfl⟩⟩; refine ⟨_, rfl, ?_⟩; (try ((first | (generalize hq_ : World.drewN wr _ = wr) | (rw [drewN_self wr]; generalize hq_ : World.drewN wr _ = wr)); have n0_ : Z0 (Kd.R (Kd.int .i64) 3 wr w.heap.size (fun k_ => some k_ ≠ (.slice (some ad705) x9_1.length co23 : Value).ownBlock) (.slice Ao24 x6_1.length co24) x6_1) := ⟨by rw [← hq_]; exact (by (with_reducible repeat (first | apply Kd.R_alloc | apply Kd.R_drewN | apply Kd.R_drew)); exact HO_6.out)⟩; have n1_ : Z0 (Kd.S (Kd.slice 3 (Kd.int .i64)) 25 wr w.heap.size (fun k_ => some k_ ≠ (.slice Ao24 x6_1.length co24 : Value).ownBlock ∧ some k_ ≠ (.slice (some ad705) x9_1.length co23 : Value).ownBlock) u8 x8_1) := ⟨by rw [← hq_]; exact (by (with_reducible repeat (first | apply Kd.S_alloc | apply Kd.S_drewN | apply Kd.S_drew)); exact HO_8.out)⟩; have n2_ : Z0 (Kd.R (Kd.int .i64) 3 wr w.heap.size (fun k_ => some k_ ≠ (.slice Ao24 x6_1.length co24 : Value).ownBlock) (.slice (some ad705) x9_1.length co23) x9_1) := ⟨by rw [← hq_]; exact (by (with_reducible repeat (first | apply Kd.R_alloc | apply Kd.R_drewN | apply Kd.R_drew)); exact HO_9.out)⟩; have n3_ : Z0 (wr.heap[gb697]? = some (.cells #[.int .i64 a0_0, .slice A0_1 l0_1.length c0_1] 24 (0, 0))) := ⟨by rw [← hq_]; exact (by (with_reducible repeat (first | refine kN ?_ _ | refine kD ?_ | refine kA ?_ _)); exact BK697.out)⟩; have n4_ : Z0 (Below w.heap.size w wr) := ⟨by rw [← hq_]; exact (by repeat (first | (with_reducible first | exact HB.out | apply below_alloc | apply bN | apply bD | refine bS ?_ GE697.out) | exact HB.out))⟩; clear HO_6 HO_8 HO_9 BK697 HB hq_; have HO_6 := n0_; have HO_8 := n1_; have HO_9 := n2_; have BK697 := n3_; have HB := n4_; clear n0_ n1_ n2_ n3_ n4_))))
           have n0_ := Z0.mk (Kd.R_drew HO_6.out)
           have n1_ := Z0.mk (Kd.S_drew HO_8.out)
           have n2_ := Z0.mk (Kd.R_drew HO_9.out)
           have n3_ := Z0.mk (kD BK697.out)
           have n4_ := Z0.mk (bD HB.out)
           clear HO_6; clear HO_8; clear HO_9; clear BK697; clear HB
           have HO_6 := n0_
           have HO_8 := n1_
           have HO_9 := n2_
           have BK697 := n3_
           have HB := n4_
           clear n0_ n1_ n2_ n3_ n4_
           have p707 : 0 ≤ (x10_1 : Int) := of_decide_eq_true (by first | (with_reducible assumption) | assumption)
           have q707 : x10_1 < (x9_1.length : Int) := of_decide_eq_true (by first | (with_reducible assumption) | assumption)
           obtain ⟨ad707, e707, hx707_0⟩ := Kd.at_int (Kd.R_reads' HO_9.out).2.2 x10_1 p707 q707
           obtain rfl : ad705 = ad707 := (by injection e707)
           replace p707 := eq_true p707
           replace q707 := eq_true q707
           have p708 : 0 ≤ ((rd x9_1 x10_1) : Int) := of_decide_eq_true (by first | (with_reducible assumption) | assumption)
           have q708 : (rd x9_1 x10_1) < (l0_1.length : Int) := of_decide_eq_true (by first | (with_reducible assumption) | assumption)
           obtain ⟨ad708, e708, hx708_0, hx708_1, hx708_2, hx708_3⟩ := at_T37 HR0_1.out (rd x9_1 x10_1) p708 q708
           have hw708_3 := hx708_3
           have hw708_2 := hx708_2
           have hw708_1 := hx708_1
           have hw708_0 := hx708_0
           cases e708
           replace hx708_0 := (HB.out.cell (wlt0 w _ hx708_0)).trans hx708_0
           replace hx708_1 := (HB.out.cell (wlt0 w _ hx708_1)).trans hx708_1
           replace hx708_2 := (HB.out.cell (wlt0 w _ hx708_2)).trans hx708_2
           replace hx708_3 := (HB.out.cell (wlt0 w _ hx708_3)).trans hx708_3
           replace p708 := eq_true p708
           replace q708 := eq_true q708
           have p709 : 0 ≤ (x10_1 : Int) := of_decide_eq_true (by first | (with_reducible assumption) | assumption)
           have q709 : x10_1 < (x9_1.length : Int) := of_decide_eq_true (by first | (with_reducible assumption) | assumption)
           obtain ⟨ad709, e709, hx709_0⟩ := Kd.at_int (Kd.R_reads' HO_9.out).2.2 x10_1 p709 q709
           obtain rfl : ad705 = ad709 := (by injection e709)
           replace p709 := eq_true p709
           replace q709 := eq_true q709
           have p710 : 0 ≤ ((rd x9_1 x10_1) : Int) := of_decide_eq_true (by first | (with_reducible assumption) | assumption)
           have q710 : (rd x9_1 x10_1) < (l0_1.length : Int) := of_decide_eq_true (by first | (with_reducible assumption) | assumption)
           obtain ⟨ad710, e710, hx710_0, hx710_1, hx710_2, hx710_3⟩ := at_T37 HR0_1.out (rd x9_1 x10_1) p710 q710
           have hw710_3 := hx710_3
           have hw710_2 := hx710_2
           have hw710_1 := hx710_1
           have hw710_0 := hx710_0
           obtain rfl : ad708 = ad710 := (by injection e710)
           replace hx710_0 := (HB.out.cell (wlt0 w _ hx710_0)).trans hx710_0
           replace hx710_1 := (HB.out.cell (wlt0 w _ hx710_1)).trans hx710_1
           replace hx710_2 := (HB.out.cell (wlt0 w _ hx710_2)).trans hx710_2
           replace hx710_3 := (HB.out.cell (wlt0 w _ hx710_3)).trans hx710_3
           replace p710 := eq_true p710
           replace q710 := eq_true q710
           refine start_ (n := 22) (S := fun w' => w'.cell? ⟨gb697, 0, none⟩ = some (.int .i64 a0_0) ∧ w'.cell? ⟨gb697, 1, none⟩ = some (.slice (some ad708) l0_1.length c0_1) ∧ w'.cell? (ad705.add (x10_1).toNat) = some (.int .i64 (rd x9_1 x10_1)) ∧ w'.cell? (ad708.add (((rd x9_1 x10_1)).toNat * 4)) = some (.int .i64 ((rd_T37 l0_1 (rd x9_1 x10_1)).f0)) ∧ w'.cell? ⟨(ad708.add (((rd x9_1 x10_1)).toNat * 4)).block, (ad708.add (((rd x9_1 x10_1)).toNat * 4)).off + 1, none⟩ = some (.int .i64 ((rd_T37 l0_1 (rd x9_1 x10_1)).f1)) ∧ w'.cell? ⟨(ad708.add (((rd x9_1 x10_1)).toNat * 4)).block, (ad708.add (((rd x9_1 x10_1)).toNat * 4)).off + 2, none⟩ = some (.int .i64 ((rd_T37 l0_1 (rd x9_1 x10_1)).f2)) ∧ w'.cell? ⟨(ad708.add (((rd x9_1 x10_1)).toNat * 4)).block, (ad708.add (((rd x9_1 x10_1)).toNat * 4)).off + 3, none⟩ = some (.int .i64 ((rd_T37 l0_1 (rd x9_1 x10_1)).f3)) ∧ w'.cell? (ad705.add (x10_1).toNat) = some (.int .i64 (rd x9_1 x10_1)) ∧ w'.cell? (ad708.add (((rd x9_1 x10_1)).toNat * 4)) = some (.int .i64 ((rd_T37 l0_1 (rd x9_1 x10_1)).f0)) ∧ w'.cell? ⟨(ad708.add (((rd x9_1 x10_1)).toNat * 4)).block, (ad708.add (((rd x9_1 x10_1)).toNat * 4)).off + 1, none⟩ = some (.int .i64 ((rd_T37 l0_1 (rd x9_1 x10_1)).f1)) ∧ w'.cell? ⟨(ad708.add (((rd x9_1 x10_1)).toNat * 4)).block, (ad708.add (((rd x9_1 x10_1)).toNat * 4)).off + 2, none⟩ = some (.int .i64 ((rd_T37 l0_1 (rd x9_1 x10_1)).f2)) ∧ w'.cell? ⟨(ad708.add (((rd x9_1 x10_1)).toNat * 4)).block, (ad708.add (((rd x9_1 x10_1)).toNat * 4)).off + 3, none⟩ = some (.int .i64 ((rd_T37 l0_1 (rd x9_1 x10_1)).f3))) (ds := []) #[false,false,false,false,false,false,false,false,false,false,false,false,false,false,false,false,false,false,false,false,false,false] (by kernel_rfl) rfl rfl ⟨(kC BK697.out 0).trans rfl, (kC BK697.out 1).trans rfl, hx707_0, ((HB.out.cell (wlt0 w _ hw708_0)).trans hw708_0), ((HB.out.cell (wlt0 w _ hw708_1)).trans hw708_1), ((HB.out.cell (wlt0 w _ hw708_2)).trans hw708_2), ((HB.out.cell (wlt0 w _ hw708_3)).trans hw708_3), hx709_0, ((HB.out.cell (wlt0 w _ hw710_0)).trans hw710_0), ((HB.out.cell (wlt0 w _ hw710_1)).trans hw710_1), ((HB.out.cell (wlt0 w _ hw710_2)).trans hw710_2), ((HB.out.cell (wlt0 w _ hw710_3)).trans hw710_3)⟩ (fun hHeld => ?_); refine with_tabW qr16Circles.tab10 qr16Circles.bits10 (fun HT_ HW_ => ?_)
           generalize wr.drew = w25 at HO_6 HO_8 HO_9 BK697 HB hx707_0 hx708_0 hx708_1 hx708_2 hx708_3 hx709_0 hx710_0 hx710_1 hx710_2 hx710_3 hHeld ⊢
           refine pure_ (i := 1) (N := some 37) (v := ?_) (a' := ?_) #[false,true,false,false,false,false,false,false,false,false,false,false,false,false,false,false,false,false,false,false,false,false] rfl rfl (any_of HT_.out (by kernel_rfl)) (fun _ _ _ h => h) (Or.inl ⟨by rfl, ?_⟩) ?_ ?_
           rotate_left; (intro w'; go_simp; with_reducible rfl); rotate_left; (simp only [Act.put, List.setIfInBounds_toArray, List.set_cons_zero, List.set_cons_succ, i64_w, i32_w]; rfl)
           refine pure_ (i := 2) (N := some 38) (v := ?_) (a' := ?_) #[false,true,true,false,false,false,false,false,false,false,false,false,false,false,false,false,false,false,false,false,false,false] rfl rfl (any_of HT_.out (by kernel_rfl)) (fun _ _ _ h => h) (Or.inl ⟨by rfl, ?_⟩) ?_ ?_
           rotate_left; (intro w'; go_simp; with_reducible rfl); rotate_left; (simp only [Act.put, List.setIfInBounds_toArray, List.set_cons_zero, List.set_cons_succ, i64_w, i32_w]; rfl)
           refine pure_ (i := 4) (N := some 40) (v := ?_) (a' := ?_) #[false,true,true,false,true,false,false,false,false,false,false,false,false,false,false,false,false,false,false,false,false,false] rfl rfl (any_of HT_.out (by kernel_rfl)) (fun _ _ _ h => h) (Or.inl ⟨by rfl, ?_⟩) ?_ ?_
           rotate_left; (intro w'; go_simp; with_reducible rfl); rotate_left; (simp only [Act.put, List.setIfInBounds_toArray, List.set_cons_zero, List.set_cons_succ, i64_w, i32_w]; rfl)
           refine pure_ (i := 5) (N := some 41) (v := ?_) (a' := ?_) #[false,true,true,false,true,true,false,false,false,false,false,false,false,false,false,false,false,false,false,false,false,false] rfl rfl (any_of HT_.out (by kernel_rfl)) (fun _ _ _ h => h) (Or.inl ⟨by rfl, ?_⟩) ?_ ?_
           rotate_left; (intro w'; go_simp; with_reducible rfl); rotate_left; (simp only [Act.put, List.setIfInBounds_toArray, List.set_cons_zero, List.set_cons_succ, i64_w, i32_w]; rfl)
           refine pure_ (i := 6) (N := some 42) (v := ?_) (a' := ?_) #[false,true,true,false,true,true,true,false,false,false,false,false,false,false,false,false,false,false,false,false,false,false] rfl rfl (any_of HT_.out (by kernel_rfl)) (fun _ _ _ h => h) (Or.inl ⟨by rfl, ?_⟩) ?_ ?_
           rotate_left; (intro w'; go_simp; with_reducible rfl); rotate_left; (simp only [Act.put, List.setIfInBounds_toArray, List.set_cons_zero, List.set_cons_succ, i64_w, i32_w]; rfl)
           refine pure_ (i := 11) (N := some 47) (v := ?_) (a' := ?_) #[false,true,true,false,true,true,true,false,false,false,false,true,false,false,false,false,false,false,false,false,false,false] rfl rfl (any_of HT_.out (by kernel_rfl)) (fun _ _ _ h => h) (Or.inl ⟨by rfl, ?_⟩) ?_ ?_
           rotate_left; (intro w'; go_simp; with_reducible rfl); rotate_left; (simp only [Act.put, List.setIfInBounds_toArray, List.set_cons_zero, List.set_cons_succ, i64_w, i32_w]; rfl)
           refine pure_ (i := 13) (N := some 49) (v := ?_) (a' := ?_) #[false,true,true,false,true,true,true,false,false,false,false,true,false,true,false,false,false,false,false,false,false,false] rfl rfl (any_of HT_.out (by kernel_rfl)) (fun _ _ _ h => h) (Or.inl ⟨by rfl, ?_⟩) ?_ ?_
           rotate_left; (intro w'; go_simp; with_reducible rfl); rotate_left; (simp only [Act.put, List.setIfInBounds_toArray, List.set_cons_zero, List.set_cons_succ, i64_w, i32_w]; rfl)
           refine pure_ (i := 14) (N := some 50) (v := ?_) (a' := ?_) #[false,true,true,false,true,true,true,false,false,false,false,true,false,true,true,false,false,false,false,false,false,false] rfl rfl (any_of HT_.out (by kernel_rfl)) (fun _ _ _ h => h) (Or.inl ⟨by rfl, ?_⟩) ?_ ?_
           rotate_left; (intro w'; go_simp; with_reducible rfl); rotate_left; (simp only [Act.put, List.setIfInBounds_toArray, List.set_cons_zero, List.set_cons_succ, i64_w, i32_w]; rfl)
           refine pure_ (i := 15) (N := some 51) (v := ?_) (a' := ?_) #[false,true,true,false,true,true,true,false,false,false,false,true,false,true,true,true,false,false,false,false,false,false] rfl rfl (any_of HT_.out (by kernel_rfl)) (fun _ _ _ h => h) (Or.inl ⟨by rfl, ?_⟩) ?_ ?_
           rotate_left; (intro w'; go_simp; with_reducible rfl); rotate_left; (simp only [Act.put, List.setIfInBounds_toArray, List.set_cons_zero, List.set_cons_succ, i64_w, i32_w]; rfl)
           refine take_ (i := 0) (N := some 36) (v := ?_) (a' := ?_) #[true,true,true,false,true,true,true,false,false,false,false,true,false,true,true,true,false,false,false,false,false,false] rfl rfl (take_ofW HT_.out HW_.out (by kernel_rfl)) (fun _ _ _ h => h) (Or.inl ⟨by rfl, ?_⟩) hHeld ?_ ?_
           rotate_left; (rintro w' ⟨s0, s1, s2, s3, s4, s5, s6, s7, s8, s9, s10, s11⟩; go_simp; with_reducible rfl); rotate_left; (simp only [Act.put, List.setIfInBounds_toArray, List.set_cons_zero, List.set_cons_succ, i64_w, i32_w]; rfl)
           refine take_ (i := 3) (N := some 39) (v := ?_) (a' := ?_) #[true,true,true,true,true,true,true,false,false,false,false,true,false,true,true,true,false,false,false,false,false,false] rfl rfl (take_ofW HT_.out HW_.out (by kernel_rfl)) (fun _ _ _ h => h) (Or.inl ⟨by rfl, ?_⟩) hHeld ?_ ?_
           rotate_left; (rintro w' ⟨s0, s1, s2, s3, s4, s5, s6, s7, s8, s9, s10, s11⟩; go_simp; with_reducible rfl); rotate_left; (simp only [Act.put, List.setIfInBounds_toArray, List.set_cons_zero, List.set_cons_succ, i64_w, i32_w]; rfl)
           refine take_ (i := 7) (N := some 43) (v := ?_) (a' := ?_) #[true,true,true,true,true,true,true,true,false,false,false,true,false,true,true,true,false,false,false,false,false,false] rfl rfl (take_ofW HT_.out HW_.out (by kernel_rfl)) (fun _ _ _ h => h) (Or.inl ⟨by rfl, ?_⟩) hHeld ?_ ?_
           rotate_left; (rintro w' ⟨s0, s1, s2, s3, s4, s5, s6, s7, s8, s9, s10, s11⟩; go_simp; with_reducible rfl); rotate_left; (simp only [Act.put, List.setIfInBounds_toArray, List.set_cons_zero, List.set_cons_succ, i64_w, i32_w]; rfl)
           refine pure_ (i := 8) (N := some 44) (v := ?_) (a' := ?_) #[true,true,true,true,true,true,true,true,true,false,false,true,false,true,true,true,false,false,false,false,false,false] rfl rfl (any_of HT_.out (by kernel_rfl)) (fun _ _ _ h => h) (Or.inl ⟨by rfl, ?_⟩) ?_ ?_
           rotate_left; (intro w'; go_simp; with_reducible rfl); rotate_left; (simp only [Act.put, List.setIfInBounds_toArray, List.set_cons_zero, List.set_cons_succ, i64_w, i32_w]; rfl)
           refine pure_ (i := 9) (N := some 45) (v := ?_) (a' := ?_) #[true,true,true,true,true,true,true,true,true,true,false,true,false,true,true,true,false,false,false,false,false,false] rfl rfl (any_of HT_.out (by kernel_rfl)) (fun _ _ _ h => h) (Or.inl ⟨by rfl, ?_⟩) ?_ ?_
           rotate_left; (intro w'; go_simp; with_reducible rfl); rotate_left; (simp only [Act.put, List.setIfInBounds_toArray, List.set_cons_zero, List.set_cons_succ, i64_w, i32_w]; rfl)
           refine take_ (i := 10) (N := some 46) (v := ?_) (a' := ?_) #[true,true,true,true,true,true,true,true,true,true,true,true,false,true,true,true,false,false,false,false,false,false] rfl rfl (take_ofW HT_.out HW_.out (by kernel_rfl)) (fun _ _ _ h => h) (Or.inl ⟨by rfl, ?_⟩) hHeld ?_ ?_
           rotate_left; (rintro w' ⟨s0, s1, s2, s3, s4, s5, s6, s7, s8, s9, s10, s11⟩; go_simp; with_reducible rfl); rotate_left; (simp only [Act.put, List.setIfInBounds_toArray, List.set_cons_zero, List.set_cons_succ, i64_w, i32_w]; rfl)
           refine take_ (i := 12) (N := some 48) (v := ?_) (a' := ?_) #[true,true,true,true,true,true,true,true,true,true,true,true,true,true,true,true,false,false,false,false,false,false] rfl rfl (take_ofW HT_.out HW_.out (by kernel_rfl)) (fun _ _ _ h => h) (Or.inl ⟨by rfl, ?_⟩) hHeld ?_ ?_
           rotate_left; (rintro w' ⟨s0, s1, s2, s3, s4, s5, s6, s7, s8, s9, s10, s11⟩; go_simp; with_reducible rfl); rotate_left; (simp only [Act.put, List.setIfInBounds_toArray, List.set_cons_zero, List.set_cons_succ, i64_w, i32_w]; rfl)
           refine take_ (i := 16) (N := some 52) (v := ?_) (a' := ?_) #[true,true,true,true,true,true,true,true,true,true,true,true,true,true,true,true,true,false,false,false,false,false] rfl rfl (take_ofW HT_.out HW_.out (by kernel_rfl)) (fun _ _ _ h => h) (Or.inl ⟨by rfl, ?_⟩) hHeld ?_ ?_
           rotate_left; (rintro w' ⟨s0, s1, s2, s3, s4, s5, s6, s7, s8, s9, s10, s11⟩; go_simp; with_reducible rfl); rotate_left; (simp only [Act.put, List.setIfInBounds_toArray, List.set_cons_zero, List.set_cons_succ, i64_w, i32_w]; rfl)
           refine pure_ (i := 17) (N := some 53) (v := ?_) (a' := ?_) #[true,true,true,true,true,true,true,true,true,true,true,true,true,true,true,true,true,true,false,false,false,false] rfl rfl (any_of HT_.out (by kernel_rfl)) (fun _ _ _ h => h) (Or.inl ⟨by rfl, ?_⟩) ?_ ?_
           rotate_left; (intro w'; go_simp; with_reducible rfl); rotate_left; (simp only [Act.put, List.setIfInBounds_toArray, List.set_cons_zero, List.set_cons_succ, i64_w, i32_w]; rfl)
           refine pure_ (i := 18) (N := some 54) (v := ?_) (a' := ?_) #[true,true,true,true,true,true,true,true,true,true,true,true,true,true,true,true,true,true,true,false,false,false] rfl rfl (any_of HT_.out (by kernel_rfl)) (fun _ _ _ h => h) (Or.inl ⟨by rfl, ?_⟩) ?_ ?_
           rotate_left; (intro w'; go_simp; with_reducible rfl); rotate_left; (simp only [Act.put, List.setIfInBounds_toArray, List.set_cons_zero, List.set_cons_succ, i64_w, i32_w]; rfl)
           refine take_ (i := 19) (N := some 55) (v := ?_) (a' := ?_) #[true,true,true,true,true,true,true,true,true,true,true,true,true,true,true,true,true,true,true,true,false,false] rfl rfl (take_ofW HT_.out HW_.out (by kernel_rfl)) (fun _ _ _ h => h) (Or.inl ⟨by rfl, ?_⟩) hHeld ?_ ?_
           rotate_left; (rintro w' ⟨s0, s1, s2, s3, s4, s5, s6, s7, s8, s9, s10, s11⟩; go_simp; with_reducible rfl); rotate_left; (simp only [Act.put, List.setIfInBounds_toArray, List.set_cons_zero, List.set_cons_succ, i64_w, i32_w]; rfl)
           refine one_ (i := 20) (N := some 56) #[true,true,true,true,true,true,true,true,true,true,true,true,true,true,true,true,true,true,true,true,true,false] rfl rfl (one_of HT_.out (by kernel_rfl)) (by decide) (fun K hK => ?_)
           refine goes_ Try.func98 (by kernel_rfl) rfl #[.agg #[.int .i64 a0_0, .slice (some ad708) l0_1.length c0_1], .slice Ao24 x6_1.length co24, .int .i64 ((rd_T37 l0_1 (rd x9_1 x10_1)).f1), .int .i64 ((rd_T37 l0_1 (rd x9_1 x10_1)).f0)] (by rfl) rfl rfl (by (try simp only [List.map_toArray, List.map_cons, List.map_nil]); first | done | rfl | (simp only [List.length_drop, List.length_take]; rfl)) ?_
           with_reducible refine (qr16way.calls k1 a0_0 _ _ l0_1 _ _ x6_1 ((rd_T37 l0_1 (rd x9_1 x10_1)).f1) ((rd_T37 l0_1 (rd x9_1 x10_1)).f0) t711 _ ?side1 ?side2 ?side3 ?side4 A19.out).mono ?_
           (case side1 => repeat (first | exact (Kd.C_below HR0_1.out HB.out) | (with_reducible refine Kd.C_alloc ?_ _) | (with_reducible refine Kd.C_drewN ?_ _) | (with_reducible refine Kd.C_drew ?_)))
           (case side2 => exact HC0_1.out)
           (case side3 => repeat (first | exact (Kd.R_reads' HO_6.out).2.2 | (with_reducible refine Kd.C_alloc ?_ _) | (with_reducible refine Kd.C_drewN ?_ _) | (with_reducible refine Kd.C_drew ?_)))
           (case side4 => exact (Kd.R_reads' HO_6.out).2.1)
           rintro e w26 ⟨v712, rfl, ho0, hb⟩
           have HS2_ := (hb.cell (wlt0 _ _ (hHeld.2.2.1))).trans (hHeld.2.2.1)
           have HS7_ := (hb.cell (wlt0 _ _ (hHeld.2.2.2.2.2.2.2.1))).trans (hHeld.2.2.2.2.2.2.2.1)
           refine ⟨_, rfl, ?_⟩
           have n0_ := Z0.mk (Kd.R_elder' (by (with_reducible repeat (first | apply Kd.R_alloc | apply Kd.R_drewN | apply Kd.R_drew)); exact HO_6.out) (Kd.R_base ho0) hb)
           have n1_ := Z0.mk (Kd.S_elder' (by (with_reducible repeat (first | apply Kd.S_alloc | apply Kd.S_drewN | apply Kd.S_drew)); exact HO_8.out) (Kd.R_base ho0) hb)
           have n2_ := Z0.mk (Kd.R_elder' (by (with_reducible repeat (first | apply Kd.R_alloc | apply Kd.R_drewN | apply Kd.R_drew)); exact HO_9.out) (Kd.R_base ho0) hb)
           have n3_ := Z0.mk (Kd.R_lower (Kd.R_new' (Kd.R_new' ho0 (Kd.R_lt (by (with_reducible repeat (first | apply Kd.R_alloc | apply Kd.R_drewN | apply Kd.R_drew)); exact HO_6.out))) (Kd.R_lt (by (with_reducible repeat (first | apply Kd.R_alloc | apply Kd.R_drewN | apply Kd.R_drew)); exact HO_9.out))) (bZ (by repeat (first | (with_reducible first | exact HB.out | apply below_alloc | apply bN | apply bD | refine bS ?_ GE697.out) | exact HB.out))))
           have n4_ := Z0.mk (kB (g := gb697) (o := .cells #[.int .i64 a0_0, .slice (some ad708) l0_1.length c0_1] 24 (0, 0)) (by (with_reducible repeat (first | refine kN ?_ _ | refine kD ?_ | refine kA ?_ _)); exact BK697.out) hb)
           have n5_ := Z0.mk (bT (by repeat (first | (with_reducible first | exact HB.out | apply below_alloc | apply bN | apply bD | refine bS ?_ GE697.out) | exact HB.out)) hb)
           clear HO_6; clear HO_8; clear HO_9; clear BK697; clear HB
           have HO_6 := n0_
           have HO_8 := n1_
           have HO_9 := n2_
           have HO713 := n3_
           have BK697 := n4_
           have HB := n5_
           clear n0_ n1_ n2_ n3_ n4_ n5_
           (try clear hb)
           (try clear hb2)
           (try clear hk)
           (try clear hi)
           (try clear ho0)
           refine hK.out _ _ ⟨(kC BK697.out 0).trans rfl, (kC BK697.out 1).trans rfl, HS2_, ((HB.out.cell (wlt0 w _ hw708_0)).trans hw708_0), ((HB.out.cell (wlt0 w _ hw708_1)).trans hw708_1), ((HB.out.cell (wlt0 w _ hw708_2)).trans hw708_2), ((HB.out.cell (wlt0 w _ hw708_3)).trans hw708_3), HS7_, ((HB.out.cell (wlt0 w _ hw710_0)).trans hw710_0), ((HB.out.cell (wlt0 w _ hw710_1)).trans hw710_1), ((HB.out.cell (wlt0 w _ hw710_2)).trans hw710_2), ((HB.out.cell (wlt0 w _ hw710_3)).trans hw710_3)⟩ (fun hHeld => ?_)
           clear hK K
           refine norm_ (a' := ?_) ?_ ?_
           rotate_left
           ·show Act.put _ (some 56) _ = _
            simp only [Act.put, List.setIfInBounds_toArray, List.set_cons_zero, List.set_cons_succ, i64_w, i32_w]
            rfl
           refine pure_ (i := 21) (N := some 11) (v := ?_) (a' := ?_) #[true,true,true,true,true,true,true,true,true,true,true,true,true,true,true,true,true,true,true,true,true,true] rfl rfl (any_of HT_.out (by kernel_rfl)) (fun _ _ _ h => h) (Or.inl ⟨by rfl, ?_⟩) ?_ ?_
           rotate_left; (intro w'; go_simp; with_reducible rfl); rotate_left; (simp only [Act.put, List.setIfInBounds_toArray, List.set_cons_zero, List.set_cons_succ, i64_w, i32_w]; rfl)
           refine done_ (done_of HT_.out (by kernel_rfl)) ?_
           have p714 : 0 ≤ (x10_1 : Int) := of_decide_eq_true (by first | (with_reducible assumption) | assumption)
           have q714 : x10_1 < (x9_1.length : Int) := of_decide_eq_true (by first | (with_reducible assumption) | assumption)
           obtain ⟨ad714, e714, hx714_0⟩ := Kd.at_int (Kd.R_reads' HO_9.out).2.2 x10_1 p714 q714
           obtain rfl : ad705 = ad714 := (by injection e714)
           replace p714 := eq_true p714
           replace q714 := eq_true q714
           have p21 : 0 ≤ ((rd x9_1 x10_1) : Int) := of_decide_eq_true (by first | (with_reducible assumption) | assumption)
           have q21 : ((rd x9_1 x10_1) : Int) < ((t711.length : Int) : Int) := of_decide_eq_true (by first | (with_reducible assumption) | assumption)
           obtain ⟨go21, co21, eo21, gb21, gl21, cl21, HG21⟩ := Kd.R_form HO713.out (by omega)
           (first | cases eo21 | (injection eo21 with ea_ en_ ec_; (first | subst ea_ | (injection ea_ with ea_; subst ea_)); subst ec_; clear en_))
           have GB21 := Z0.mk gb21
           have GG21 := Z0.mk HG21
           clear gb21 gl21 HG21
           obtain ⟨hx21_0, hf21_0⟩ := Kd.R_celln 0 HO713.out ((rd x9_1 x10_1) : Int) p21 q21
           replace p21 := eq_true p21
           replace q21 := eq_true q21
           have n_ := Z0.mk (Kd.R_mono (ok' := (fun k_ => some k_ ≠ (.slice Ao24 x6_1.length co24 : Value).ownBlock ∧ some k_ ≠ (.slice (some ad705) x9_1.length co23 : Value).ownBlock)) HO713.out (fun k_ hk => ⟨hk.1.2, hk.2⟩))
           clear HO713
           have HO713 := n_
           clear n_
           obtain ⟨hy27_, hz27_⟩ := Kd.R_celln 0 HO713.out ((rd x9_1 x10_1) : Int) (of_decide_eq_true (by first | (with_reducible assumption) | assumption)) (of_decide_eq_true (by first | (with_reducible assumption) | assumption))
           have HP27 := Kd.R_putg HO713.out ((rd x9_1 x10_1) : Int) 1
           try go_wp2_with (first | ((with_reducible refine gate_store (t := 3) (p := 62) rfl ?_); refine store_event (t := 3) (p := 62) (v := ?vo_w28) (w1 := (w26.setCell ⟨go21, ((rd x9_1 x10_1) : Int).toNat, none⟩ (.int .i64 1))) ?hg ?ho ?hn ?hr ?_; (case ho => rfl); (case hg => rfl); (case hn => rfl); (case hr => first | (go_simp; done) | (go_simp; rfl)); intro w28 hw; have hg : w26.grownBy w28 (some go21) := (by rw [hw]; exact HP27.2); have hp_ : Kd.R (Kd.int .i64) 3 w28 w.heap.size (fun k_ => some k_ ≠ (.slice Ao24 x6_1.length co24 : Value).ownBlock ∧ some k_ ≠ (.slice (some ad705) x9_1.length co23 : Value).ownBlock) (.slice (some ⟨go21, 0, none⟩) t711.length co21) y715 := (by rw [hw, Ny715.out]; exact HP27.1); clear HP27; have n0_ := Z0.mk (Kd.R_after (v := (.slice (some ⟨go21, 0, none⟩) t711.length co21)) (v1 := (.slice (some ⟨go21, 0, none⟩) t711.length co21)) (ok := (fun k_ => some k_ ≠ (.slice (some ad705) x9_1.length co23 : Value).ownBlock)) (by (with_reducible repeat (first | apply Kd.R_alloc | apply Kd.R_drewN | apply Kd.R_drew)); exact HO_6.out) hg (.inl rfl)); have n1_ := Z0.mk (Kd.S_after (v := (.slice (some ⟨go21, 0, none⟩) t711.length co21)) (v1 := (.slice (some ⟨go21, 0, none⟩) t711.length co21)) (ok := (fun k_ => some k_ ≠ (.slice Ao24 x6_1.length co24 : Value).ownBlock ∧ some k_ ≠ (.slice (some ad705) x9_1.length co23 : Value).ownBlock)) (by (with_reducible repeat (first | apply Kd.S_alloc | apply Kd.S_drewN | apply Kd.S_drew)); exact HO_8.out) hg (.inl rfl)); have n2_ := Z0.mk (Kd.R_after (v := (.slice (some ⟨go21, 0, none⟩) t711.length co21)) (v1 := (.slice (some ⟨go21, 0, none⟩) t711.length co21)) (ok := (fun k_ => some k_ ≠ (.slice Ao24 x6_1.length co24 : Value).ownBlock)) (by (with_reducible repeat (first | apply Kd.R_alloc | apply Kd.R_drewN | apply Kd.R_drew)); exact HO_9.out) hg (.inl rfl)); have n3_ := Z0.mk (blk_grown (g := gb697) (o := .cells #[.int .i64 a0_0, .slice (some ad708) l0_1.length c0_1] 24 (0, 0)) (by (with_reducible repeat (first | refine kN ?_ _ | refine kD ?_ | refine kA ?_ _)); exact BK697.out) hg (Kd.R_ne HO713.out BK697.out (by decide))); have n4_ := Z0.mk (hp_); have n5_ := Z0.mk ((by rw [hw]; exact bS (HB.out) GB21.out : Below w.heap.size w w28)); clear HO_6; clear HO_8; clear HO_9; clear BK697; clear HO713; clear HB; have HO_6 := n0_; have HO_8 := n1_; have HO_9 := n2_; have BK697 := n3_; have HO713 := n4_; have HB := n5_; clear n0_ n1_ n2_ n3_ n4_ n5_; clear hg hw hp_) | ((with_reducible refine gate_builtin (b := .append) (xs := #[.tmp 63, .tmp 65]) rfl ?_); at_builtin; refine Kd.S_append (Kd.slice 3 (Kd.int .i64)) (w0 := w) w.heap.size rfl (.tmp 63) (.tmp 65) 46 25 (.slice none 0 0) 24 rfl Try.underlying46 info25 rfl (by decide) (by omega) u8 x8_1 y715 [.slice (some ⟨go21, 0, none⟩) t711.length co21] (fun k_ => some k_ ≠ (.slice Ao24 x6_1.length co24 : Value).ownBlock ∧ some k_ ≠ (.slice (some ad705) x9_1.length co23 : Value).ownBlock) (fun k_ => some k_ = (.slice (some ⟨go21, 0, none⟩) t711.length co21 : Value).ownBlock) rfl rfl ?aP (fun k_ hk_ => ((Kd.R_mono (ok' := fun k_ => ((fun k_ => some k_ ≠ (.slice Ao24 x6_1.length co24 : Value).ownBlock ∧ some k_ ≠ (.slice (some ad705) x9_1.length co23 : Value).ownBlock)) k_ ∧ some k_ ≠ (u8 : Value).ownBlock) (Kd.R_apart' (HO713.out) (Kd.S_typed HO_8.out) (by decide)) (fun k_ hk => ⟨⟨hk.1.1, hk.1.2⟩, hk.2⟩))).1 k_ hk_.symm) ?aF ?aO ?aB ?aS ?aL ?_; (case aP => exact Kd.M_row (Kd.R_mono (Kd.R_tight rfl (Kd.R_mono (ok' := fun k_ => ((fun k_ => some k_ ≠ (.slice Ao24 x6_1.length co24 : Value).ownBlock ∧ some k_ ≠ (.slice (some ad705) x9_1.length co23 : Value).ownBlock)) k_ ∧ some k_ ≠ (u8 : Value).ownBlock) (Kd.R_apart' (HO713.out) (Kd.S_typed HO_8.out) (by decide)) (fun k_ hk => ⟨⟨hk.1.1, hk.1.2⟩, hk.2⟩))) (fun _ h_ => h_))); (case aB => exact (by repeat (first | (with_reducible first | exact HB.out | apply below_alloc | apply bN | apply bD | refine bS ?_ GE697.out) | exact HB.out))); (case aF => exact (fun k_ hk => ⟨Kd.fresh' (Kd.R_lt (by (with_reducible repeat (first | apply Kd.R_alloc | apply Kd.R_drewN | apply Kd.R_drew)); exact HO_6.out)) k_ hk, Kd.fresh' (Kd.R_lt (by (with_reducible repeat (first | apply Kd.R_alloc | apply Kd.R_drewN | apply Kd.R_drew)); exact HO_9.out)) k_ hk⟩)); (case aO => exact (by (with_reducible repeat (first | apply Kd.S_alloc | apply Kd.S_drewN | apply Kd.S_drew)); exact Kd.S_mono HO_8.out (fun k_ hk => ⟨⟨hk.1.1, hk.1.2⟩, fun e_ => hk.2 e_⟩))); (case aS => exact (bZ (by repeat (first | (with_reducible first | exact HB.out | apply below_alloc | apply bN | apply bD | refine bS ?_ GE697.out) | exact HB.out)))); (case aL => have := LMc22.out; omega); intro v717 w29 ho hb hg hat; rw [← Ny716.out] at ho; have n0_ := Z0.mk (Kd.R_over' (by (with_reducible repeat (first | apply Kd.R_alloc | apply Kd.R_drewN | apply Kd.R_drew)); exact HO_6.out) (Kd.S_typed (by (with_reducible repeat (first | apply Kd.S_alloc | apply Kd.S_drewN | apply Kd.S_drew)); exact HO_8.out)) (by decide) hg); have n1_ := Z0.mk (Kd.R_over' (by (with_reducible repeat (first | apply Kd.R_alloc | apply Kd.R_drewN | apply Kd.R_drew)); exact HO_9.out) (Kd.S_typed (by (with_reducible repeat (first | apply Kd.S_alloc | apply Kd.S_drewN | apply Kd.S_drew)); exact HO_8.out)) (by decide) hg); have n2_ := Z0.mk (blk_grown (g := gb697) (o := .cells #[.int .i64 a0_0, .slice (some ad708) l0_1.length c0_1] 24 (0, 0)) (by (with_reducible repeat (first | refine kN ?_ _ | refine kD ?_ | refine kA ?_ _)); exact BK697.out) hg (Kd.S_ne HO_8.out BK697.out (by decide))); have n3_ := Z0.mk (hb); have n4_ := Z0.mk (ho); clear HO_6; clear HO_9; clear BK697; clear HB; clear HO_8; clear HO713; have HO_6 := n0_; have HO_9 := n1_; have BK697 := n2_; have HB := n3_; have HO718 := n4_; clear n0_ n1_ n2_ n3_ n4_; clear ho hb hg hat))
           go_roundg k1
           case measure => have := HK1.out; omega
           case rel => exact ⟨(x6_1), (y716), (x9_1), (wrap64 (x10_1 + 1)), (by first | rfl | (simp; done) | (simp [*]; done)), H', ⟨by have := HK1.out; omega⟩, ⟨by (with_reducible repeat (first | apply Kd.R_alloc | apply Kd.R_drewN | apply Kd.R_drew)); exact Kd.R_mono HO_6.out (fun _ hk => hk.1)⟩, ⟨by (with_reducible repeat (first | apply Kd.S_alloc | apply Kd.S_drewN | apply Kd.S_drew)); exact HO718.out⟩, ⟨by (with_reducible repeat (first | apply Kd.R_alloc | apply Kd.R_drewN | apply Kd.R_drew)); exact Kd.R_mono HO_9.out (fun _ hk => hk.1)⟩, ⟨by (with_reducible repeat (first | refine kN ?_ _ | refine kD ?_ | refine kA ?_ _)); exact BK697.out⟩, ⟨by repeat (first | (with_reducible first | exact HB.out | apply below_alloc | apply bN | apply bD | refine bS ?_ GE697.out) | exact HB.out)⟩⟩
          ·rw [if_neg c22] at H
           exact absurd H (by simp)
         ·rw [if_neg c20] at H
          exact absurd H (by simp)
        ·rw [if_neg c18] at H
         exact absurd H (by simp)
       ·rw [if_neg c17] at H
        exact absurd H (by simp)
     ·rw [if_neg c12] at H
      exact absurd H (by simp)
    ·rw [if_neg c11] at H
     have c11b0 : decide (x10_1 < (x9_1.length : Int)) = false := decide_eq_false c11
     clear c11
     simp only [Option.some.injEq, Prod.mk.injEq] at H
     obtain ⟨rfl, rfl⟩ := H
     obtain ⟨Ao30, co30, eo30⟩ := Kd.R_slice HO_9.out
     subst eo30
     go_wp2
     go_ret2
     exact ⟨_, by first | rfl | (simp [errW_none, errW_some] <;> rfl) | (simp [*, errW_none, errW_some] <;> rfl), by (with_reducible repeat (first | apply Kd.S_alloc | apply Kd.S_drewN | apply Kd.S_drew)); exact Kd.S_mono HO_8.out (fun _ hk => trivial), by repeat (first | (with_reducible first | exact HB.out | apply below_alloc | apply bN | apply bD | refine bS ?_ GE697.out) | exact HB.out)⟩
 ·rw [if_neg c4] at H
  have c4b0 : (t701 == 0) = false := beq_eq_false_iff_ne.mpr c4
  have c4b1 : (t701 != 0) = true := bne_iff_ne.mpr c4
  simp only [Option.some.injEq, Prod.mk.injEq] at H
  obtain ⟨rfl, rfl⟩ := H
  go_enter Try.func54, Try.ntmps54
  go_wp2_with (first | ((with_reducible refine gate_dst (N := 2) rfl ?_); refine bE ?hg (N := 2) ?hd (cs := #[.int .i64 a0_0, .slice A0_1 l0_1.length c0_1]) (t := 24) ?hr ?_; (case hd => rfl); (case hg => rfl); (case hr => first | (go_simp; done) | (go_simp; rfl)); intro gb697 hg w31 hbox hb; have n0_ := Z0.mk (bT (by repeat (first | (with_reducible first | exact HB.out | apply below_alloc | apply bN | apply bD) | exact HB.out)) hb); have n1_ := Z0.mk (hbox); have n2_ := Z0.mk ((by rw [hg]; exact (bZ (by repeat (first | (with_reducible first | exact HB.out | apply below_alloc | apply bN | apply bD) | exact HB.out))) : w.heap.size ≤ gb697)); have n3_ := Z0.mk ((by rw [hg]; exact (bZ (by repeat (first | (with_reducible first | exact HB.out | apply below_alloc | apply bN | apply bD) | exact HB.out))) : w.heap.size ≤ gb697)); clear HB; have HB := n0_; have BK697 := n1_; have GW697 := n2_; have GE697 := n3_; clear n0_ n1_ n2_ n3_; clear hb hbox hg; have hcz32_0 : w31.cell? ⟨gb697, 0, none⟩ = some (.int .i64 a0_0) := (kC BK697.out 0).trans rfl; have hcz32_1 : w31.cell? ⟨gb697, 1, none⟩ = some (.slice A0_1 l0_1.length c0_1) := (kC BK697.out 1).trans rfl; have hfz32_0 := kF BK697.out 0; have hfz32_1 := kF BK697.out 1) | ((with_reducible refine gC (f := 53) rfl ?_); refine gL (some 15) rfl rfl Try.func53 (by kernel_rfl) rfl #[.agg #[.int .i64 a0_0, .slice A0_1 l0_1.length c0_1], .slice A1 l1.length c1] rfl (by (try simp only [List.map_toArray, List.map_cons, List.map_nil]); first | done | rfl | (simp only [List.length_drop, List.length_take]; rfl)) ?_; (with_reducible refine (qr16Tree.calls k a0_0 _ _ l0_1 _ _ l1 t698 t701 _ ?side1 ?side2 ?side3 ?side4 A3.out).mono ?_); (case side1 => repeat (first | exact (Kd.C_below HR0_1.out HB.out) | (with_reducible refine Kd.C_alloc ?_ _) | (with_reducible refine Kd.C_drewN ?_ _) | (with_reducible refine Kd.C_drew ?_))); (case side2 => exact HC0_1.out); (case side3 => repeat (first | exact (Kd.C_below HR1.out HB.out) | (with_reducible refine Kd.C_alloc ?_ _) | (with_reducible refine Kd.C_drewN ?_ _) | (with_reducible refine Kd.C_drew ?_))); (case side4 => exact HC1.out); rintro e w33 ⟨v699, rfl, ho0, hb⟩; refine ⟨_, rfl, ?_⟩; have n0_ := Z0.mk (Kd.R_lower ho0 (bZ (by repeat (first | (with_reducible first | exact HB.out | apply below_alloc | apply bN | apply bD | refine bS ?_ GE697.out) | exact HB.out)))); have n1_ := Z0.mk (kB (g := gb697) (o := .cells #[.int .i64 a0_0, .slice A0_1 l0_1.length c0_1] 24 (0, 0)) (by (with_reducible repeat (first | refine kN ?_ _ | refine kD ?_ | refine kA ?_ _)); exact BK697.out) hb); have n2_ := Z0.mk (bT (by repeat (first | (with_reducible first | exact HB.out | apply below_alloc | apply bN | apply bD | refine bS ?_ GE697.out) | exact HB.out)) hb); clear BK697; clear HB; have HO700 := n0_; have BK697 := n1_; have HB := n2_; clear n0_ n1_ n2_; (try clear hb); (try clear hb2); (try clear hk); (try clear hi); (try clear ho0)))
  go_ret2
  exact ⟨_, by first | rfl | (simp [errW_none, errW_some] <;> rfl) | (simp [*, errW_none, errW_some] <;> rfl), by first | exact Kd.S_nil _ _ _ _ _ | exact Kd.N_nil _ _ _ _ _ | exact Kd.V_nil _ _ _ _ _ | exact Kd.Q_nil _ _ _ _ _ | exact Kd.R_nil _ _ _ _ _, by repeat (first | (with_reducible first | exact HB.out | apply below_alloc | apply bN | apply bD | refine bS ?_ GE697.out) | exact HB.out)⟩
def ql16spoil.f (l0 : List (List Int)) : Option (Unit) := some ()
set_option maxRecDepth 100000 in
set_option maxHeartbeats 4000000 in
theorem ql16spoil.real (S : Nat → Prop) (A0 : Option Addr) (vs : List Value) (c : Nat) (w : World) (hl : vs.length ≤ 9223372036854775807) (h : RowsOk S w A0 vs) :
  Calls Try.prog 58 #[.slice A0 vs.length c] w fun e w' => e = .returned (.tuple #[]) ∧ SpoilKept S w w' := by
 have H := Lib.hid h
 have HL := Lib.hid hl
 clear h hl
 go_enter Try.func58, Try.ntmps58
 go_wp2_with fail
 go_loopg [2] vs.length (fun kq v2 wr => ∃ i : Nat, i ≤ vs.length ∧ v2 = .int .i64 (i : Int) ∧ Hid (kq = vs.length - i) ∧ Hid (RowsOk S wr A0 vs ∧ SpoilKept S w wr))
 case atStart => exact ⟨0, Nat.zero_le _, rfl, rfl, H.out, SpoilKept.refl _ _⟩
 case round =>
  obtain ⟨i, hi, rfl, HK, HR⟩ := hrel
  have hL := HL.out
  by_cases hlt : i < vs.length
  ·have q2 : decide ((i : Int) < (vs.length : Int)) = true := decide_eq_true (by omega)
   have q3 : decide (0 ≤ (i : Int)) = true := decide_eq_true (by omega)
   have i1 : (0 ≤ (i : Int)) = True := eq_true (by omega)
   have i2 : ((i : Int) < (vs.length : Int)) = True := eq_true (by omega)
   obtain ⟨G, hA0, _⟩ := HR.out.1.no (by omega)
   subst hA0
   have hcell0 := HR.out.1.at_ G i hlt rfl
   obtain ⟨A, n, c', hv, hn, hc⟩ := HR.out.1.ok _ (List.getElem_mem hlt)
   have HC := Lib.hid hc
   rw [hv] at hcell0
   have HV := Lib.hid hv
   clear hc hv
   go_wp2_with fail
   go_loopg [3] n (fun kq v3 w2 => ∃ j : Nat, j ≤ n ∧ v3 = .int .i64 (j : Int) ∧ Hid (kq = n - j) ∧ Hid (RowsOk S w2 (some ⟨G, 0, none⟩) vs ∧ SpoilKept S w w2))
   case atStart => exact ⟨0, Nat.zero_le _, rfl, rfl, HR.out⟩
   case round =>
    obtain ⟨j, hj, rfl, HK2, HR2⟩ := hrel
    have hcell := HR2.out.1.at_ G i hlt rfl
    rw [HV.out] at hcell
    by_cases hjt : j < n
    ·have q4 : decide ((j : Int) < (n : Int)) = true := decide_eq_true (by omega)
     have i3 : (0 ≤ (j : Int)) = True := eq_true (by omega)
     have i4 : ((j : Int) < (n : Int)) = True := eq_true (by omega)
     have hrow := HR2.out.1.ok _ (List.getElem_mem hlt)
     rw [HV.out] at hrow
     obtain ⟨A2, n2, c2, hv2, _, hc2⟩ := hrow
     injection hv2 with e1 e2 e3
     subst e1 e2 e3
     obtain ⟨g, z, hA, hS, hx, hf⟩ := hc2 j hjt
     have HS := Lib.hid hS
     subst hA
     clear hc2 hS
     go_wp2_with fail
     go_roundg (n - (j + 1))
     case measure => have := HK2.out; omega
     case rel => exact ⟨j + 1, by omega, rfl, rfl, HR2.out.1.set HS.out j _, HR2.out.2.set HS.out j _⟩
    ·have q4 : decide ((j : Int) < (n : Int)) = false := decide_eq_false (by omega)
     go_wp2_with fail
     go_roundg (vs.length - (i + 1))
     case measure => have := HK.out; omega
     case rel => exact ⟨i + 1, by omega, rfl, rfl, HR2.out⟩
  ·have q2 : decide ((i : Int) < (vs.length : Int)) = false := decide_eq_false (by omega)
   go_wp2_with fail
   exact ⟨rfl, .tuple #[], by simp [results, Try.f58, go_sem], rfl, HR.out.2⟩
mutual
def ql16TreeMatches.l0 : Nat → List Int → List Int → Int → List Int → Int → List (List Int) → Int → Int → Int → List (S37) → Option (Bool)
 | 0, _, _, _, _, _, _, _, _, _, _ => none
 | k + 1, x1, x5, x6, x7, x8, x9, x10, x11, x720000, x720001 => if x11 < 2 then ((tBridges.f k x720000 x720001 x1).bind fun bt738 => ((tTree.f k x720000 x720001 x1).bind fun bt742 => ((tCycles.f k x720000 x720001 x1).bind fun bt746 => (if bt738.2 = x6 then (if bt742.2 = x8 then (if bt746.2 = x10 then ((qr14Ints.f k bt738.1 x5).bind fun t750 => (if t750 = true then ((qr14Ints.f k bt742.1 x7).bind fun t751 => (if t751 = true then ((qr15Rows.f k bt746.1 x9).bind fun t752 => (ql16TreeMatches.j1 k x1 x5 x6 x7 x8 x9 x10 x11 bt738.1 bt742.1 bt746.1 (!t752) x720000 x720001)) else (ql16TreeMatches.j1 k x1 x5 x6 x7 x8 x9 x10 x11 bt738.1 bt742.1 bt746.1 true x720000 x720001))) else (ql16TreeMatches.j1 k x1 x5 x6 x7 x8 x9 x10 x11 bt738.1 bt742.1 bt746.1 true x720000 x720001))) else (ql16TreeMatches.j1 k x1 x5 x6 x7 x8 x9 x10 x11 bt738.1 bt742.1 bt746.1 true x720000 x720001)) else (ql16TreeMatches.j1 k x1 x5 x6 x7 x8 x9 x10 x11 bt738.1 bt742.1 bt746.1 true x720000 x720001)) else (ql16TreeMatches.j1 k x1 x5 x6 x7 x8 x9 x10 x11 bt738.1 bt742.1 bt746.1 true x720000 x720001))))) else ((ql16awake.f).bind fun t737 => (some t737))
def ql16TreeMatches.j1 : Nat → List Int → List Int → Int → List Int → Int → List (List Int) → Int → Int → List Int → List Int → List (List Int) → Bool → Int → List (S37) → Option (Bool)
 | 0, _, _, _, _, _, _, _, _, _, _, _, _, _, _ => none
 | k + 1, x1, x5, x6, x7, x8, x9, x10, x11, x12, x14, x16, x93, x720000, x720001 => if x93 = true then (some false) else ((ql16spoil.f (([x12, x14] : List (List Int)))).bind fun _ => ((ql16spoil.f x16).bind fun _ => (ql16TreeMatches.l0 k x1 x5 x6 x7 x8 x9 x10 (wrap64 (x11 + 1)) x720000 x720001)))
end
def ql16TreeMatches.f (k : Nat) (a0_0 : Int) (l0_1 : List (S37)) (l1 : List Int) : Option (Bool) := (ql14Long.f k a0_0 l0_1 (([l1] : List (List Int)))).bind fun t723 => (if t723 = true then ((ql16awake.f).bind fun t724 => (some t724)) else ((qr16Bridges.f k a0_0 l0_1 l1).bind fun bt725 => ((qr16Tree.f k a0_0 l0_1 l1).bind fun bt729 => ((qr16Circles.f k a0_0 l0_1 l1).bind fun bt733 => (ql16TreeMatches.l0 k l1 bt725.1 bt725.2 bt729.1 bt729.2 bt733.1 bt733.2 0 a0_0 l0_1)))))
set_option maxHeartbeats 8000000 in
set_option maxRecDepth 100000 in
theorem ql16TreeMatches.callsT (k : Nat) (a0_0 : Int) (A0_1 : Option Addr) (c0_1 : Nat) (l0_1 : List (S37)) (P1_ : Nat → Prop) (A1 : Option Addr) (c1 : Nat) (l1 : List Int) (r : Bool) (hrt : r = true) (w : World) (hr0_1 : Kd.C k37 w A0_1 l0_1.length l0_1) (hc0_1 : l0_1.length ≤ c0_1) (hs1 : Kd.V (Kd.int .i64) 3 w w.heap.size (fun k_ => P1_ k_) (.slice A1 l1.length c1) l1) (h : ql16TreeMatches.f k a0_0 l0_1 l1 = some r) :
  Calls Try.prog 11 #[.agg #[.int .i64 a0_0, .slice A0_1 l0_1.length c0_1], .slice A1 l1.length c1] w fun e w' => e = .returned (.bool r) ∧ Below w.heap.size w w' := by
 have HRT := Z0.mk hrt
 clear hrt
 have hu24 := Try.underlying24
 have HR0_1 := Z0.mk hr0_1
 have HC0_1 := Z0.mk hc0_1
 clear hr0_1 hc0_1
 have HO1 := Z0.mk (show Kd.V (Kd.int .i64) 3 w w.heap.size (fun k_ => (P1_ k_ ∨ w.heap.size ≤ k_)) (.slice A1 l1.length c1) l1 from Kd.V_mono hs1 (fun k_ hk => .inl hk))
 have HB := Z0.mk (Below.refl w.heap.size w)
 have H : ((ql14Long.f k a0_0 l0_1 (([l1] : List (List Int)))).bind fun t723 => (if t723 = true then ((ql16awake.f).bind fun t724 => (some t724)) else ((qr16Bridges.f k a0_0 l0_1 l1).bind fun bt725 => ((qr16Tree.f k a0_0 l0_1 l1).bind fun bt729 => ((qr16Circles.f k a0_0 l0_1 l1).bind fun bt733 => (ql16TreeMatches.l0 k l1 bt725.1 bt725.2 bt729.1 bt729.2 bt733.1 bt733.2 0 a0_0 l0_1)))))) = some r := h
 clear h
 obtain ⟨y720, hy720⟩ : ∃ y_ : List (List Int), y_ = (([l1] : List (List Int))) := ⟨_, rfl⟩
 replace H : ((ql14Long.f k a0_0 l0_1 y720).bind fun t723 => (if t723 = true then ((ql16awake.f).bind fun t724 => (some t724)) else ((qr16Bridges.f k a0_0 l0_1 l1).bind fun bt725 => ((qr16Tree.f k a0_0 l0_1 l1).bind fun bt729 => ((qr16Circles.f k a0_0 l0_1 l1).bind fun bt733 => (ql16TreeMatches.l0 k l1 bt725.1 bt725.2 bt729.1 bt729.2 bt733.1 bt733.2 0 a0_0 l0_1)))))) = some r := by first | (rw [hy720]; with_reducible exact H) | (have H2_ := (Option.bind_some _ _).symm.trans H; rw [hy720]; with_reducible exact H2_) | (have H2_ := (Option.bind_some _ _).symm.trans H; with_reducible exact H2_) | with_reducible exact H | (rw [hy720]; exact H) | exact H
 have Ny720 := Z0.mk hy720
 clear hy720
 replace H := Option.bind_eq_some_iff.mp H
 obtain ⟨t723, A30, H⟩ := H
 replace H : (if t723 = true then ((ql16awake.f).bind fun t724 => (some t724)) else ((qr16Bridges.f k a0_0 l0_1 l1).bind fun bt725 => ((qr16Tree.f k a0_0 l0_1 l1).bind fun bt729 => ((qr16Circles.f k a0_0 l0_1 l1).bind fun bt733 => (ql16TreeMatches.l0 k l1 bt725.1 bt725.2 bt729.1 bt729.2 bt733.1 bt733.2 0 a0_0 l0_1))))) = some r := H
 have A3 := Z0.mk A30
 clear A30
 by_cases c4 : t723 = true
 ·subst c4
  have H1 : ((ql16awake.f).bind fun t724 => (some t724)) = some r := by rw [if_pos rfl] at H; exact H
  clear H
  have H := H1
  clear H1
  replace H := Option.bind_eq_some_iff.mp H
  obtain ⟨t724, A50, H⟩ := H
  replace H : (some t724) = some r := H
  have A5 := Z0.mk A50
  clear A50
  obtain rfl := Option.some.inj H
  go_enter Try.func11, Try.ntmps11
  go_wp2_with (first | ((with_reducible refine gate_dst (N := 2) rfl ?_); refine bE ?hg (N := 2) ?hd (cs := #[.int .i64 a0_0, .slice A0_1 l0_1.length c0_1]) (t := 24) ?hr ?_; (case hd => rfl); (case hg => rfl); (case hr => first | (go_simp; done) | (go_simp; rfl)); intro gb719 hg w6 hbox hb; have n0_ := Z0.mk (Kd.V_below (Kd.V_elderB (by (with_reducible repeat (first | apply Kd.V_alloc | apply Kd.V_drewN | apply Kd.V_drew)); exact HO1.out) gb719 (Nat.le_of_eq hg.symm)) hb); have n1_ := Z0.mk (bT (by repeat (first | (with_reducible first | exact HB.out | apply below_alloc | apply bN | apply bD) | exact HB.out)) hb); have n2_ := Z0.mk (hbox); have n3_ := Z0.mk ((by rw [hg]; exact (bZ (by repeat (first | (with_reducible first | exact HB.out | apply below_alloc | apply bN | apply bD) | exact HB.out))) : w.heap.size ≤ gb719)); have n4_ := Z0.mk ((by rw [hg]; exact (bZ (by repeat (first | (with_reducible first | exact HB.out | apply below_alloc | apply bN | apply bD) | exact HB.out))) : w.heap.size ≤ gb719)); clear HO1; clear HB; have HO1 := n0_; have HB := n1_; have BK719 := n2_; have GW719 := n3_; have GE719 := n4_; clear n0_ n1_ n2_ n3_ n4_; clear hb hbox hg; have hcz7_0 : w6.cell? ⟨gb719, 0, none⟩ = some (.int .i64 a0_0) := (kC BK719.out 0).trans rfl; have hcz7_1 : w6.cell? ⟨gb719, 1, none⟩ = some (.slice A0_1 l0_1.length c0_1) := (kC BK719.out 1).trans rfl; have hfz7_0 := kF BK719.out 0; have hfz7_1 := kF BK719.out 1) | ((with_reducible refine gate_dst (N := 20) rfl ?_); refine Kd.N_lit (Kd.slice 3 (Kd.int .i64)) _ 25 ?hg (N' := 20) ?hd (xs := ([l1] : List (List Int))) (inner := [.slice A1 l1.length c1]) (ok := (fun k_ => (P1_ k_ ∨ w.heap.size ≤ k_) ∧ k_ ≠ gb719)) (okp := (fun k_ => (P1_ k_ ∨ w.heap.size ≤ k_) ∧ k_ ≠ gb719)) ?hr ?hp (fun _ hk => hk) ((show ∀ k_, w6.heap.size ≤ k_ → (fun k_ => (P1_ k_ ∨ w.heap.size ≤ k_) ∧ k_ ≠ gb719) k_ from fun k_ hk => ⟨(.inr (Nat.le_trans (bZ (by repeat (first | (with_reducible first | exact HB.out | apply below_alloc | apply bN | apply bD | refine bS ?_ GE719.out) | exact HB.out))) hk)), Kd.freshB (g := gb719) (o := .cells #[.int .i64 a0_0, .slice A0_1 l0_1.length c0_1] 24 (0, 0)) (by (with_reducible repeat (first | refine kN ?_ _ | refine kD ?_ | refine kA ?_ _)); exact BK719.out) k_ hk⟩) _ (Nat.le_refl _)) (Below.refl _ _) (Nat.le_refl _) (by simp) ?_; (case hd => rfl); (case hg => rfl); (case hr => first | (go_simp; done) | (go_simp; rfl)); (case hp => exact (Reps.one (show Kd.FK (Kd.slice 3 (Kd.int .i64)) _ _ l1 [.slice A1 l1.length c1] from (Kd.FK_slice_mk (Kd.V_reads' (Kd.V_mono (ok' := (fun k_ => (P1_ k_ ∨ w.heap.size ≤ k_) ∧ k_ ≠ gb719)) (HO1.out) (fun k_ hk => ⟨hk.1, hk.2⟩))).2.1 (Kd.V_F (Kd.V_mono (ok' := (fun k_ => (P1_ k_ ∨ w.heap.size ≤ k_) ∧ k_ ≠ gb719)) (HO1.out) (fun k_ hk => ⟨hk.1, hk.2⟩))))) (Reps.none _ _))); intro v721 w8 ho9 hb hg_ hnew_; clear hg_ hnew_; (first | rw [← Ny720.out] at ho9 | (simp only [Int.reduceToNat] at ho9; rw [← Ny720.out] at ho9)); have n0_ := Z0.mk (Kd.V_elder' (by (with_reducible repeat (first | apply Kd.V_alloc | apply Kd.V_drewN | apply Kd.V_drew)); exact HO1.out) (Kd.N_base ho9) hb); have n1_ := Z0.mk (Kd.N_lower ho9 (bZ (by repeat (first | (with_reducible first | exact HB.out | apply below_alloc | apply bN | apply bD | refine bS ?_ GE719.out) | exact HB.out)))); have n2_ := Z0.mk (kB (g := gb719) (o := .cells #[.int .i64 a0_0, .slice A0_1 l0_1.length c0_1] 24 (0, 0)) (by (with_reducible repeat (first | refine kN ?_ _ | refine kD ?_ | refine kA ?_ _)); exact BK719.out) hb); have n3_ := Z0.mk (bT (by repeat (first | (with_reducible first | exact HB.out | apply below_alloc | apply bN | apply bD | refine bS ?_ GE719.out) | exact HB.out)) hb); clear HO1; clear BK719; clear HB; have HO1 := n0_; have HO722 := n1_; have BK719 := n2_; have HB := n3_; clear n0_ n1_ n2_ n3_; clear hb ho9; obtain ⟨Ao10, co10, eo10⟩ := Kd.N_slice HO722.out; subst eo10) | ((with_reducible refine gC (f := 28) rfl ?_); refine gL (some 21) rfl rfl Try.func28 (by kernel_rfl) rfl #[.agg #[.int .i64 a0_0, .slice A0_1 l0_1.length c0_1], .slice Ao10 y720.length co10] rfl (by (try simp only [List.map_toArray, List.map_cons, List.map_nil]); first | done | rfl | (simp only [List.length_drop, List.length_take]; rfl)) ?_; (with_reducible refine (ql14Long.calls k a0_0 _ _ l0_1 _ _ y720 true _ ?side1 ?side2 ?side3 ?side4 A3.out).mono ?_); (case side1 => repeat (first | exact (Kd.C_below HR0_1.out HB.out) | (with_reducible refine Kd.C_alloc ?_ _) | (with_reducible refine Kd.C_drewN ?_ _) | (with_reducible refine Kd.C_drew ?_))); (case side2 => exact HC0_1.out); (case side3 => repeat (first | exact (Kd.N_reads' HO722.out).2.2 | (with_reducible refine Kd.C_alloc ?_ _) | (with_reducible refine Kd.C_drewN ?_ _) | (with_reducible refine Kd.C_drew ?_))); (case side4 => exact (Kd.N_reads' HO722.out).2.1); rintro e w11 ⟨rfl, hb⟩; refine ⟨_, rfl, ?_⟩; have n0_ := Z0.mk (Kd.V_below (by (with_reducible repeat (first | apply Kd.V_alloc | apply Kd.V_drewN | apply Kd.V_drew)); exact HO1.out) hb); have n1_ := Z0.mk (Kd.N_below (by (with_reducible repeat (first | apply Kd.N_alloc | apply Kd.N_drewN | apply Kd.N_drew)); exact HO722.out) hb); have n2_ := Z0.mk (kB (g := gb719) (o := .cells #[.int .i64 a0_0, .slice A0_1 l0_1.length c0_1] 24 (0, 0)) (by (with_reducible repeat (first | refine kN ?_ _ | refine kD ?_ | refine kA ?_ _)); exact BK719.out) hb); have n3_ := Z0.mk (bT (by repeat (first | (with_reducible first | exact HB.out | apply below_alloc | apply bN | apply bD | refine bS ?_ GE719.out) | exact HB.out)) hb); clear HO1; clear HO722; clear BK719; clear HB; have HO1 := n0_; have HO722 := n1_; have BK719 := n2_; have HB := n3_; clear n0_ n1_ n2_ n3_; (try clear hb); (try clear hb2); (try clear hk); (try clear hi)) | ((with_reducible refine gC (f := 51) rfl ?_); refine gL (some 22) rfl rfl Try.func51 (by kernel_rfl) rfl #[] rfl (by (try simp only [List.map_toArray, List.map_cons, List.map_nil]); first | done | rfl | (simp only [List.length_drop, List.length_take]; rfl)) ?_; (with_reducible refine (ql16awake.calls  t724 _ A5.out).mono ?_); rintro e w12 ⟨rfl, hb⟩; refine ⟨_, rfl, ?_⟩; have n0_ := Z0.mk (Kd.V_below (by (with_reducible repeat (first | apply Kd.V_alloc | apply Kd.V_drewN | apply Kd.V_drew)); exact HO1.out) hb); have n1_ := Z0.mk (Kd.N_below (by (with_reducible repeat (first | apply Kd.N_alloc | apply Kd.N_drewN | apply Kd.N_drew)); exact HO722.out) hb); have n2_ := Z0.mk (kB (g := gb719) (o := .cells #[.int .i64 a0_0, .slice A0_1 l0_1.length c0_1] 24 (0, 0)) (by (with_reducible repeat (first | refine kN ?_ _ | refine kD ?_ | refine kA ?_ _)); exact BK719.out) hb); have n3_ := Z0.mk (bT (by repeat (first | (with_reducible first | exact HB.out | apply below_alloc | apply bN | apply bD | refine bS ?_ GE719.out) | exact HB.out)) hb); clear HO1; clear HO722; clear BK719; clear HB; have HO1 := n0_; have HO722 := n1_; have BK719 := n2_; have HB := n3_; clear n0_ n1_ n2_ n3_; (try clear hb); (try clear hb2); (try clear hk); (try clear hi)))
  go_ret
  exact ⟨by first | rfl | (simp [errW_none, errW_some] <;> rfl) | (simp [*, errW_none, errW_some] <;> rfl), by repeat (first | (with_reducible first | exact HB.out | apply below_alloc | apply bN | apply bD | refine bS ?_ GE719.out) | exact HB.out)⟩
 ·replace c4 := Bool.eq_false_iff.mpr c4
  subst c4
  have H1 : ((qr16Bridges.f k a0_0 l0_1 l1).bind fun bt725 => ((qr16Tree.f k a0_0 l0_1 l1).bind fun bt729 => ((qr16Circles.f k a0_0 l0_1 l1).bind fun bt733 => (ql16TreeMatches.l0 k l1 bt725.1 bt725.2 bt729.1 bt729.2 bt733.1 bt733.2 0 a0_0 l0_1)))) = some r := by rw [if_neg (show ¬ (false = true) by decide)] at H; exact H
  clear H
  have H := H1
  clear H1
  replace H := Option.bind_eq_some_iff.mp H
  obtain ⟨⟨t725, t728⟩, A130, H⟩ := H
  replace H : ((qr16Tree.f k a0_0 l0_1 l1).bind fun bt729 => ((qr16Circles.f k a0_0 l0_1 l1).bind fun bt733 => (ql16TreeMatches.l0 k l1 t725 t728 bt729.1 bt729.2 bt733.1 bt733.2 0 a0_0 l0_1))) = some r := H
  have A13 := Z0.mk A130
  clear A130
  replace H := Option.bind_eq_some_iff.mp H
  obtain ⟨⟨t729, t732⟩, A140, H⟩ := H
  replace H : ((qr16Circles.f k a0_0 l0_1 l1).bind fun bt733 => (ql16TreeMatches.l0 k l1 t725 t728 t729 t732 bt733.1 bt733.2 0 a0_0 l0_1)) = some r := H
  have A14 := Z0.mk A140
  clear A140
  replace H := Option.bind_eq_some_iff.mp H
  obtain ⟨⟨t733, t736⟩, A150, H⟩ := H
  replace H : (ql16TreeMatches.l0 k l1 t725 t728 t729 t732 t733 t736 0 a0_0 l0_1) = some r := H
  have A15 := Z0.mk A150
  clear A150
  have H' := Z0.mk H
  clear H
  go_enter Try.func11, Try.ntmps11
  go_wp2_with (first | ((with_reducible refine gate_dst (N := 2) rfl ?_); refine bE ?hg (N := 2) ?hd (cs := #[.int .i64 a0_0, .slice A0_1 l0_1.length c0_1]) (t := 24) ?hr ?_; (case hd => rfl); (case hg => rfl); (case hr => first | (go_simp; done) | (go_simp; rfl)); intro gb719 hg w16 hbox hb; have n0_ := Z0.mk (Kd.V_below (Kd.V_elderB (by (with_reducible repeat (first | apply Kd.V_alloc | apply Kd.V_drewN | apply Kd.V_drew)); exact HO1.out) gb719 (Nat.le_of_eq hg.symm)) hb); have n1_ := Z0.mk (bT (by repeat (first | (with_reducible first | exact HB.out | apply below_alloc | apply bN | apply bD) | exact HB.out)) hb); have n2_ := Z0.mk (hbox); have n3_ := Z0.mk ((by rw [hg]; exact (bZ (by repeat (first | (with_reducible first | exact HB.out | apply below_alloc | apply bN | apply bD) | exact HB.out))) : w.heap.size ≤ gb719)); have n4_ := Z0.mk ((by rw [hg]; exact (bZ (by repeat (first | (with_reducible first | exact HB.out | apply below_alloc | apply bN | apply bD) | exact HB.out))) : w.heap.size ≤ gb719)); clear HO1; clear HB; have HO1 := n0_; have HB := n1_; have BK719 := n2_; have GW719 := n3_; have GE719 := n4_; clear n0_ n1_ n2_ n3_ n4_; clear hb hbox hg; have hcz17_0 : w16.cell? ⟨gb719, 0, none⟩ = some (.int .i64 a0_0) := (kC BK719.out 0).trans rfl; have hcz17_1 : w16.cell? ⟨gb719, 1, none⟩ = some (.slice A0_1 l0_1.length c0_1) := (kC BK719.out 1).trans rfl; have hfz17_0 := kF BK719.out 0; have hfz17_1 := kF BK719.out 1) | ((with_reducible refine gate_dst (N := 20) rfl ?_); refine Kd.N_lit (Kd.slice 3 (Kd.int .i64)) _ 25 ?hg (N' := 20) ?hd (xs := ([l1] : List (List Int))) (inner := [.slice A1 l1.length c1]) (ok := (fun k_ => (P1_ k_ ∨ w.heap.size ≤ k_) ∧ k_ ≠ gb719)) (okp := (fun k_ => (P1_ k_ ∨ w.heap.size ≤ k_) ∧ k_ ≠ gb719)) ?hr ?hp (fun _ hk => hk) ((show ∀ k_, w16.heap.size ≤ k_ → (fun k_ => (P1_ k_ ∨ w.heap.size ≤ k_) ∧ k_ ≠ gb719) k_ from fun k_ hk => ⟨(.inr (Nat.le_trans (bZ (by repeat (first | (with_reducible first | exact HB.out | apply below_alloc | apply bN | apply bD | refine bS ?_ GE719.out) | exact HB.out))) hk)), Kd.freshB (g := gb719) (o := .cells #[.int .i64 a0_0, .slice A0_1 l0_1.length c0_1] 24 (0, 0)) (by (with_reducible repeat (first | refine kN ?_ _ | refine kD ?_ | refine kA ?_ _)); exact BK719.out) k_ hk⟩) _ (Nat.le_refl _)) (Below.refl _ _) (Nat.le_refl _) (by simp) ?_; (case hd => rfl); (case hg => rfl); (case hr => first | (go_simp; done) | (go_simp; rfl)); (case hp => exact (Reps.one (show Kd.FK (Kd.slice 3 (Kd.int .i64)) _ _ l1 [.slice A1 l1.length c1] from (Kd.FK_slice_mk (Kd.V_reads' (Kd.V_mono (ok' := (fun k_ => (P1_ k_ ∨ w.heap.size ≤ k_) ∧ k_ ≠ gb719)) (HO1.out) (fun k_ hk => ⟨hk.1, hk.2⟩))).2.1 (Kd.V_F (Kd.V_mono (ok' := (fun k_ => (P1_ k_ ∨ w.heap.size ≤ k_) ∧ k_ ≠ gb719)) (HO1.out) (fun k_ hk => ⟨hk.1, hk.2⟩))))) (Reps.none _ _))); intro v721 w18 ho19 hb hg_ hnew_; clear hg_ hnew_; (first | rw [← Ny720.out] at ho19 | (simp only [Int.reduceToNat] at ho19; rw [← Ny720.out] at ho19)); have n0_ := Z0.mk (Kd.V_elder' (by (with_reducible repeat (first | apply Kd.V_alloc | apply Kd.V_drewN | apply Kd.V_drew)); exact HO1.out) (Kd.N_base ho19) hb); have n1_ := Z0.mk (Kd.N_lower ho19 (bZ (by repeat (first | (with_reducible first | exact HB.out | apply below_alloc | apply bN | apply bD | refine bS ?_ GE719.out) | exact HB.out)))); have n2_ := Z0.mk (kB (g := gb719) (o := .cells #[.int .i64 a0_0, .slice A0_1 l0_1.length c0_1] 24 (0, 0)) (by (with_reducible repeat (first | refine kN ?_ _ | refine kD ?_ | refine kA ?_ _)); exact BK719.out) hb); have n3_ := Z0.mk (bT (by repeat (first | (with_reducible first | exact HB.out | apply below_alloc | apply bN | apply bD | refine bS ?_ GE719.out) | exact HB.out)) hb); clear HO1; clear BK719; clear HB; have HO1 := n0_; have HO722 := n1_; have BK719 := n2_; have HB := n3_; clear n0_ n1_ n2_ n3_; clear hb ho19; obtain ⟨Ao20, co20, eo20⟩ := Kd.N_slice HO722.out; subst eo20) | ((with_reducible refine gC (f := 28) rfl ?_); refine gL (some 21) rfl rfl Try.func28 (by kernel_rfl) rfl #[.agg #[.int .i64 a0_0, .slice A0_1 l0_1.length c0_1], .slice Ao20 y720.length co20] rfl (by (try simp only [List.map_toArray, List.map_cons, List.map_nil]); first | done | rfl | (simp only [List.length_drop, List.length_take]; rfl)) ?_; (with_reducible refine (ql14Long.calls k a0_0 _ _ l0_1 _ _ y720 false _ ?side1 ?side2 ?side3 ?side4 A3.out).mono ?_); (case side1 => repeat (first | exact (Kd.C_below HR0_1.out HB.out) | (with_reducible refine Kd.C_alloc ?_ _) | (with_reducible refine Kd.C_drewN ?_ _) | (with_reducible refine Kd.C_drew ?_))); (case side2 => exact HC0_1.out); (case side3 => repeat (first | exact (Kd.N_reads' HO722.out).2.2 | (with_reducible refine Kd.C_alloc ?_ _) | (with_reducible refine Kd.C_drewN ?_ _) | (with_reducible refine Kd.C_drew ?_))); (case side4 => exact (Kd.N_reads' HO722.out).2.1); rintro e w21 ⟨rfl, hb⟩; refine ⟨_, rfl, ?_⟩; have n0_ := Z0.mk (Kd.V_below (by (with_reducible repeat (first | apply Kd.V_alloc | apply Kd.V_drewN | apply Kd.V_drew)); exact HO1.out) hb); have n1_ := Z0.mk (Kd.N_below (by (with_reducible repeat (first | apply Kd.N_alloc | apply Kd.N_drewN | apply Kd.N_drew)); exact HO722.out) hb); have n2_ := Z0.mk (kB (g := gb719) (o := .cells #[.int .i64 a0_0, .slice A0_1 l0_1.length c0_1] 24 (0, 0)) (by (with_reducible repeat (first | refine kN ?_ _ | refine kD ?_ | refine kA ?_ _)); exact BK719.out) hb); have n3_ := Z0.mk (bT (by repeat (first | (with_reducible first | exact HB.out | apply below_alloc | apply bN | apply bD | refine bS ?_ GE719.out) | exact HB.out)) hb); clear HO1; clear HO722; clear BK719; clear HB; have HO1 := n0_; have HO722 := n1_; have BK719 := n2_; have HB := n3_; clear n0_ n1_ n2_ n3_; (try clear hb); (try clear hb2); (try clear hk); (try clear hi); have hcz22_0 : w21.cell? ⟨gb719, 0, none⟩ = some (.int .i64 a0_0) := (kC BK719.out 0).trans rfl; have hcz22_1 : w21.cell? ⟨gb719, 1, none⟩ = some (.slice A0_1 l0_1.length c0_1) := (kC BK719.out 1).trans rfl; have hfz22_0 := kF BK719.out 0; have hfz22_1 := kF BK719.out 1) | ((with_reducible refine gC (f := 52) rfl ?_); refine gL (some 26) rfl rfl Try.func52 (by kernel_rfl) rfl #[.agg #[.int .i64 a0_0, .slice A0_1 l0_1.length c0_1], .slice A1 l1.length c1] rfl (by (try simp only [List.map_toArray, List.map_cons, List.map_nil]); first | done | rfl | (simp only [List.length_drop, List.length_take]; rfl)) ?_; (with_reducible refine (qr16Bridges.calls k a0_0 _ _ l0_1 _ _ l1 t725 t728 _ ?side1 ?side2 ?side3 ?side4 A13.out).mono ?_); (case side1 => repeat (first | exact (Kd.C_below HR0_1.out HB.out) | (with_reducible refine Kd.C_alloc ?_ _) | (with_reducible refine Kd.C_drewN ?_ _) | (with_reducible refine Kd.C_drew ?_))); (case side2 => exact HC0_1.out); (case side3 => repeat (first | exact (Kd.V_reads' HO1.out).2.2 | (with_reducible refine Kd.C_alloc ?_ _) | (with_reducible refine Kd.C_drewN ?_ _) | (with_reducible refine Kd.C_drew ?_))); (case side4 => exact (Kd.V_reads' HO1.out).2.1); rintro e w23 ⟨v726, rfl, ho0, hb⟩; refine ⟨_, rfl, ?_⟩; have n0_ := Z0.mk (Kd.V_elder' (by (with_reducible repeat (first | apply Kd.V_alloc | apply Kd.V_drewN | apply Kd.V_drew)); exact HO1.out) (Kd.R_base ho0) hb); have n1_ := Z0.mk (Kd.N_elder' (by (with_reducible repeat (first | apply Kd.N_alloc | apply Kd.N_drewN | apply Kd.N_drew)); exact HO722.out) (Kd.R_base ho0) hb); have n2_ := Z0.mk (Kd.R_lower (Kd.R_newM (M := fun k_ => (w.heap.size ≤ k_)) ho0 (bZ (by repeat (first | (with_reducible first | exact HB.out | apply below_alloc | apply bN | apply bD | refine bS ?_ GE719.out) | exact HB.out))) (fun k_ h_ => h_)) (bZ (by repeat (first | (with_reducible first | exact HB.out | apply below_alloc | apply bN | apply bD | refine bS ?_ GE719.out) | exact HB.out)))); have n3_ := Z0.mk (kB (g := gb719) (o := .cells #[.int .i64 a0_0, .slice A0_1 l0_1.length c0_1] 24 (0, 0)) (by (with_reducible repeat (first | refine kN ?_ _ | refine kD ?_ | refine kA ?_ _)); exact BK719.out) hb); have n4_ := Z0.mk (bT (by repeat (first | (with_reducible first | exact HB.out | apply below_alloc | apply bN | apply bD | refine bS ?_ GE719.out) | exact HB.out)) hb); clear HO1; clear HO722; clear BK719; clear HB; have HO1 := n0_; have HO722 := n1_; have HO727 := n2_; have BK719 := n3_; have HB := n4_; clear n0_ n1_ n2_ n3_ n4_; (try clear hb); (try clear hb2); (try clear hk); (try clear hi); (try clear ho0); have hcz24_0 : w23.cell? ⟨gb719, 0, none⟩ = some (.int .i64 a0_0) := (kC BK719.out 0).trans rfl; have hcz24_1 : w23.cell? ⟨gb719, 1, none⟩ = some (.slice A0_1 l0_1.length c0_1) := (kC BK719.out 1).trans rfl; have hfz24_0 := kF BK719.out 0; have hfz24_1 := kF BK719.out 1) | ((with_reducible refine gC (f := 53) rfl ?_); refine gL (some 32) rfl rfl Try.func53 (by kernel_rfl) rfl #[.agg #[.int .i64 a0_0, .slice A0_1 l0_1.length c0_1], .slice A1 l1.length c1] rfl (by (try simp only [List.map_toArray, List.map_cons, List.map_nil]); first | done | rfl | (simp only [List.length_drop, List.length_take]; rfl)) ?_; (with_reducible refine (qr16Tree.calls k a0_0 _ _ l0_1 _ _ l1 t729 t732 _ ?side1 ?side2 ?side3 ?side4 A14.out).mono ?_); (case side1 => repeat (first | exact (Kd.C_below HR0_1.out HB.out) | (with_reducible refine Kd.C_alloc ?_ _) | (with_reducible refine Kd.C_drewN ?_ _) | (with_reducible refine Kd.C_drew ?_))); (case side2 => exact HC0_1.out); (case side3 => repeat (first | exact (Kd.V_reads' HO1.out).2.2 | (with_reducible refine Kd.C_alloc ?_ _) | (with_reducible refine Kd.C_drewN ?_ _) | (with_reducible refine Kd.C_drew ?_))); (case side4 => exact (Kd.V_reads' HO1.out).2.1); rintro e w25 ⟨v730, rfl, ho0, hb⟩; refine ⟨_, rfl, ?_⟩; have n0_ := Z0.mk (Kd.V_elder' (by (with_reducible repeat (first | apply Kd.V_alloc | apply Kd.V_drewN | apply Kd.V_drew)); exact HO1.out) (Kd.R_base ho0) hb); have n1_ := Z0.mk (Kd.N_elder' (by (with_reducible repeat (first | apply Kd.N_alloc | apply Kd.N_drewN | apply Kd.N_drew)); exact HO722.out) (Kd.R_base ho0) hb); have n2_ := Z0.mk (Kd.R_elder' (by (with_reducible repeat (first | apply Kd.R_alloc | apply Kd.R_drewN | apply Kd.R_drew)); exact HO727.out) (Kd.R_base ho0) hb); have n3_ := Z0.mk (Kd.R_lower (Kd.R_new' (Kd.R_newM (M := fun k_ => (w.heap.size ≤ k_)) ho0 (bZ (by repeat (first | (with_reducible first | exact HB.out | apply below_alloc | apply bN | apply bD | refine bS ?_ GE719.out) | exact HB.out))) (fun k_ h_ => h_)) (Kd.R_lt (by (with_reducible repeat (first | apply Kd.R_alloc | apply Kd.R_drewN | apply Kd.R_drew)); exact HO727.out))) (bZ (by repeat (first | (with_reducible first | exact HB.out | apply below_alloc | apply bN | apply bD | refine bS ?_ GE719.out) | exact HB.out)))); have n4_ := Z0.mk (kB (g := gb719) (o := .cells #[.int .i64 a0_0, .slice A0_1 l0_1.length c0_1] 24 (0, 0)) (by (with_reducible repeat (first | refine kN ?_ _ | refine kD ?_ | refine kA ?_ _)); exact BK719.out) hb); have n5_ := Z0.mk (bT (by repeat (first | (with_reducible first | exact HB.out | apply below_alloc | apply bN | apply bD | refine bS ?_ GE719.out) | exact HB.out)) hb); clear HO1; clear HO722; clear HO727; clear BK719; clear HB; have HO1 := n0_; have HO722 := n1_; have HO727 := n2_; have HO731 := n3_; have BK719 := n4_; have HB := n5_; clear n0_ n1_ n2_ n3_ n4_ n5_; (try clear hb); (try clear hb2); (try clear hk); (try clear hi); (try clear ho0); have hcz26_0 : w25.cell? ⟨gb719, 0, none⟩ = some (.int .i64 a0_0) := (kC BK719.out 0).trans rfl; have hcz26_1 : w25.cell? ⟨gb719, 1, none⟩ = some (.slice A0_1 l0_1.length c0_1) := (kC BK719.out 1).trans rfl; have hfz26_0 := kF BK719.out 0; have hfz26_1 := kF BK719.out 1) | ((with_reducible refine gC (f := 54) rfl ?_); refine gL (some 38) rfl rfl Try.func54 (by kernel_rfl) rfl #[.agg #[.int .i64 a0_0, .slice A0_1 l0_1.length c0_1], .slice A1 l1.length c1] rfl (by (try simp only [List.map_toArray, List.map_cons, List.map_nil]); first | done | rfl | (simp only [List.length_drop, List.length_take]; rfl)) ?_; (with_reducible refine (qr16Circles.calls k a0_0 _ _ l0_1 _ _ l1 t733 t736 _ ?side1 ?side2 ?side3 ?side4 A15.out).mono ?_); (case side1 => repeat (first | exact (Kd.C_below HR0_1.out HB.out) | (with_reducible refine Kd.C_alloc ?_ _) | (with_reducible refine Kd.C_drewN ?_ _) | (with_reducible refine Kd.C_drew ?_))); (case side2 => exact HC0_1.out); (case side3 => repeat (first | exact (Kd.V_reads' HO1.out).2.2 | (with_reducible refine Kd.C_alloc ?_ _) | (with_reducible refine Kd.C_drewN ?_ _) | (with_reducible refine Kd.C_drew ?_))); (case side4 => exact (Kd.V_reads' HO1.out).2.1); rintro e w27 ⟨v734, rfl, ho0, hb⟩; refine ⟨_, rfl, ?_⟩; have n0_ := Z0.mk (Kd.V_elder' (by (with_reducible repeat (first | apply Kd.V_alloc | apply Kd.V_drewN | apply Kd.V_drew)); exact HO1.out) (Kd.N_base (Kd.S_N ho0)) hb); have n1_ := Z0.mk (Kd.N_elder' (by (with_reducible repeat (first | apply Kd.N_alloc | apply Kd.N_drewN | apply Kd.N_drew)); exact HO722.out) (Kd.N_base (Kd.S_N ho0)) hb); have n2_ := Z0.mk (Kd.R_below (by (with_reducible repeat (first | apply Kd.R_alloc | apply Kd.R_drewN | apply Kd.R_drew)); exact HO727.out) hb); have n3_ := Z0.mk (Kd.R_below (by (with_reducible repeat (first | apply Kd.R_alloc | apply Kd.R_drewN | apply Kd.R_drew)); exact HO731.out) hb); have n4_ := Z0.mk (Kd.N_lower (Kd.N_mono (ok' := fun k_ => (P1_ k_ ∨ w.heap.size ≤ k_) ∧ some k_ ≠ (.slice Ao20 y720.length co20 : Value).ownBlock ∧ some k_ ≠ (v726 : Value).ownBlock ∧ some k_ ≠ (v730 : Value).ownBlock ∧ k_ ≠ gb719) (Kd.S_N (Kd.S_bound ho0)) (fun k_ hk_ => ⟨(.inr (Nat.le_trans (bZ (by repeat (first | (with_reducible first | exact HB.out | apply below_alloc | apply bN | apply bD | refine bS ?_ GE719.out) | exact HB.out))) hk_.2.1)), (Kd.fresh' (Kd.N_lt (by (with_reducible repeat (first | apply Kd.N_alloc | apply Kd.N_drewN | apply Kd.N_drew)); exact HO722.out)) k_ hk_.2.1), (Kd.fresh' (Kd.R_lt (by (with_reducible repeat (first | apply Kd.R_alloc | apply Kd.R_drewN | apply Kd.R_drew)); exact HO727.out)) k_ hk_.2.1), (Kd.fresh' (Kd.R_lt (by (with_reducible repeat (first | apply Kd.R_alloc | apply Kd.R_drewN | apply Kd.R_drew)); exact HO731.out)) k_ hk_.2.1), (Kd.freshB (g := gb719) (o := .cells #[.int .i64 a0_0, .slice A0_1 l0_1.length c0_1] 24 (0, 0)) (by (with_reducible repeat (first | refine kN ?_ _ | refine kD ?_ | refine kA ?_ _)); exact BK719.out) k_ hk_.2.1)⟩)) (bZ (by repeat (first | (with_reducible first | exact HB.out | apply below_alloc | apply bN | apply bD | refine bS ?_ GE719.out) | exact HB.out)))); have n5_ := Z0.mk (kB (g := gb719) (o := .cells #[.int .i64 a0_0, .slice A0_1 l0_1.length c0_1] 24 (0, 0)) (by (with_reducible repeat (first | refine kN ?_ _ | refine kD ?_ | refine kA ?_ _)); exact BK719.out) hb); have n6_ := Z0.mk (bT (by repeat (first | (with_reducible first | exact HB.out | apply below_alloc | apply bN | apply bD | refine bS ?_ GE719.out) | exact HB.out)) hb); clear HO1; clear HO722; clear HO727; clear HO731; clear BK719; clear HB; have HO1 := n0_; have HO722 := n1_; have HO727 := n2_; have HO731 := n3_; have HO735 := n4_; have BK719 := n5_; have HB := n6_; clear n0_ n1_ n2_ n3_ n4_ n5_ n6_; (try clear hb); (try clear hb2); (try clear hk); (try clear hi); (try clear ho0)))
  go_loopg [11] k (fun kq v11 w' => ∃ (x11_1 : Int), v11 = .int .i64 x11_1 ∧ Z0 (ql16TreeMatches.l0 kq l1 t725 t728 t729 t732 t733 t736 x11_1 a0_0 l0_1 = some r) ∧ Z0 (kq ≤ k) ∧ Z0 (Kd.V (Kd.int .i64) 3 w' w.heap.size (fun k_ => (P1_ k_ ∨ w.heap.size ≤ k_) ∧ some k_ ≠ (v726 : Value).ownBlock ∧ some k_ ≠ (v730 : Value).ownBlock ∧ some k_ ≠ (v734 : Value).ownBlock ∧ k_ ≠ gb719) (.slice A1 l1.length c1) l1) ∧ Z0 (Kd.R (Kd.int .i64) 3 w' w.heap.size (fun k_ => (w.heap.size ≤ k_) ∧ some k_ ≠ (v730 : Value).ownBlock) v726 t725) ∧ Z0 (Kd.R (Kd.int .i64) 3 w' w.heap.size (fun k_ => (w.heap.size ≤ k_) ∧ some k_ ≠ (v726 : Value).ownBlock) v730 t729) ∧ Z0 (Kd.N (Kd.slice 3 (Kd.int .i64)) 25 w' w.heap.size (fun k_ => (P1_ k_ ∨ w.heap.size ≤ k_) ∧ some k_ ≠ (v726 : Value).ownBlock ∧ some k_ ≠ (v730 : Value).ownBlock ∧ k_ ≠ gb719) v734 t733) ∧ Z0 (w'.heap[gb719]? = some (.cells #[.int .i64 a0_0, (.slice A0_1 l0_1.length c0_1)] 24 (0, 0))) ∧ Z0 (Below w.heap.size w w'))
  case atStart => exact ⟨(0), (by first | rfl | (simp; done) | (simp [*]; done)), H', ⟨Nat.le_refl _⟩, ⟨by (with_reducible repeat (first | apply Kd.V_alloc | apply Kd.V_drewN | apply Kd.V_drew)); exact Kd.V_mono HO1.out (fun _ hk => ⟨hk.1.1.1.1.1, ⟨hk.1.1.2, ⟨hk.1.2, ⟨hk.2, hk.1.1.1.1.2⟩⟩⟩⟩)⟩, ⟨by (with_reducible repeat (first | apply Kd.R_alloc | apply Kd.R_drewN | apply Kd.R_drew)); exact Kd.R_mono HO727.out (fun _ hk => ⟨hk.1.1, hk.2⟩)⟩, ⟨by (with_reducible repeat (first | apply Kd.R_alloc | apply Kd.R_drewN | apply Kd.R_drew)); exact Kd.R_mono HO731.out (fun _ hk => ⟨hk.1.1, hk.2⟩)⟩, ⟨by (with_reducible repeat (first | apply Kd.N_alloc | apply Kd.N_drewN | apply Kd.N_drew)); exact Kd.N_mono HO735.out (fun _ hk => ⟨hk.1, ⟨hk.2.2.1, ⟨hk.2.2.2.1, hk.2.2.2.2⟩⟩⟩)⟩, ⟨by (with_reducible repeat (first | refine kN ?_ _ | refine kD ?_ | refine kA ?_ _)); exact BK719.out⟩, ⟨by repeat (first | (with_reducible first | exact HB.out | apply below_alloc | apply bN | apply bD | refine bS ?_ GE719.out) | exact HB.out)⟩⟩
  case round =>
   clear H'; (try clear c1); (try clear c2); (try clear p2); (try clear c4); (try clear c5); (try clear c11); (try clear hcz17_0); (try clear hcz17_1); (try clear hcz22_0); (try clear hcz22_1); (try clear hcz24_0); (try clear hcz24_1); (try clear hcz26_0); (try clear hcz26_1); (try clear hcz7_0); (try clear hcz7_1); (try clear hfz17_0); (try clear hfz17_1); (try clear hfz22_0); (try clear hfz22_1); (try clear hfz24_0); (try clear hfz24_1); (try clear hfz26_0); (try clear hfz26_1); (try clear hfz7_0); (try clear hfz7_1)
   obtain ⟨x11_1, rfl, HA, HK1, HO_1, HO_5, HO_7, HO_9, BK719, HB⟩ := hrel
   have RB := Z0.mk (Below.refl wr.heap.size wr)
   have SVHO_1 := HO_1
   have SVHO_5 := HO_5
   have SVHO_7 := HO_7
   have SVHO_9 := HO_9
   have SVBK719 := BK719
   have SVHB := HB
   cases gk with
   | zero => exact absurd HA.out (by simp [ql16TreeMatches.l0])
   | succ k1 =>
    have H := HA.out
    clear HA
    simp only [ql16TreeMatches.l0] at H
    by_cases c28 : x11_1 < 2
    ·rw [if_pos c28] at H
     have c28b0 : decide (x11_1 < 2) = true := decide_eq_true c28
     clear c28
     replace H := Option.bind_eq_some_iff.mp H
     obtain ⟨⟨t738, t741⟩, A290, H⟩ := H
     replace H : ((tTree.f k1 a0_0 l0_1 l1).bind fun bt742 => ((tCycles.f k1 a0_0 l0_1 l1).bind fun bt746 => (if t741 = t728 then (if bt742.2 = t732 then (if bt746.2 = t736 then ((qr14Ints.f k1 t738 t725).bind fun t750 => (if t750 = true then ((qr14Ints.f k1 bt742.1 t729).bind fun t751 => (if t751 = true then ((qr15Rows.f k1 bt746.1 t733).bind fun t752 => (ql16TreeMatches.j1 k1 l1 t725 t728 t729 t732 t733 t736 x11_1 t738 bt742.1 bt746.1 (!t752) a0_0 l0_1)) else (ql16TreeMatches.j1 k1 l1 t725 t728 t729 t732 t733 t736 x11_1 t738 bt742.1 bt746.1 true a0_0 l0_1))) else (ql16TreeMatches.j1 k1 l1 t725 t728 t729 t732 t733 t736 x11_1 t738 bt742.1 bt746.1 true a0_0 l0_1))) else (ql16TreeMatches.j1 k1 l1 t725 t728 t729 t732 t733 t736 x11_1 t738 bt742.1 bt746.1 true a0_0 l0_1)) else (ql16TreeMatches.j1 k1 l1 t725 t728 t729 t732 t733 t736 x11_1 t738 bt742.1 bt746.1 true a0_0 l0_1)) else (ql16TreeMatches.j1 k1 l1 t725 t728 t729 t732 t733 t736 x11_1 t738 bt742.1 bt746.1 true a0_0 l0_1)))) = some r := H
     have A29 := Z0.mk A290
     clear A290
     replace H := Option.bind_eq_some_iff.mp H
     obtain ⟨⟨t742, t745⟩, A300, H⟩ := H
     replace H : ((tCycles.f k1 a0_0 l0_1 l1).bind fun bt746 => (if t741 = t728 then (if t745 = t732 then (if bt746.2 = t736 then ((qr14Ints.f k1 t738 t725).bind fun t750 => (if t750 = true then ((qr14Ints.f k1 t742 t729).bind fun t751 => (if t751 = true then ((qr15Rows.f k1 bt746.1 t733).bind fun t752 => (ql16TreeMatches.j1 k1 l1 t725 t728 t729 t732 t733 t736 x11_1 t738 t742 bt746.1 (!t752) a0_0 l0_1)) else (ql16TreeMatches.j1 k1 l1 t725 t728 t729 t732 t733 t736 x11_1 t738 t742 bt746.1 true a0_0 l0_1))) else (ql16TreeMatches.j1 k1 l1 t725 t728 t729 t732 t733 t736 x11_1 t738 t742 bt746.1 true a0_0 l0_1))) else (ql16TreeMatches.j1 k1 l1 t725 t728 t729 t732 t733 t736 x11_1 t738 t742 bt746.1 true a0_0 l0_1)) else (ql16TreeMatches.j1 k1 l1 t725 t728 t729 t732 t733 t736 x11_1 t738 t742 bt746.1 true a0_0 l0_1)) else (ql16TreeMatches.j1 k1 l1 t725 t728 t729 t732 t733 t736 x11_1 t738 t742 bt746.1 true a0_0 l0_1))) = some r := H
     have A30 := Z0.mk A300
     clear A300
     replace H := Option.bind_eq_some_iff.mp H
     obtain ⟨⟨t746, t749⟩, A310, H⟩ := H
     replace H : (if t741 = t728 then (if t745 = t732 then (if t749 = t736 then ((qr14Ints.f k1 t738 t725).bind fun t750 => (if t750 = true then ((qr14Ints.f k1 t742 t729).bind fun t751 => (if t751 = true then ((qr15Rows.f k1 t746 t733).bind fun t752 => (ql16TreeMatches.j1 k1 l1 t725 t728 t729 t732 t733 t736 x11_1 t738 t742 t746 (!t752) a0_0 l0_1)) else (ql16TreeMatches.j1 k1 l1 t725 t728 t729 t732 t733 t736 x11_1 t738 t742 t746 true a0_0 l0_1))) else (ql16TreeMatches.j1 k1 l1 t725 t728 t729 t732 t733 t736 x11_1 t738 t742 t746 true a0_0 l0_1))) else (ql16TreeMatches.j1 k1 l1 t725 t728 t729 t732 t733 t736 x11_1 t738 t742 t746 true a0_0 l0_1)) else (ql16TreeMatches.j1 k1 l1 t725 t728 t729 t732 t733 t736 x11_1 t738 t742 t746 true a0_0 l0_1)) else (ql16TreeMatches.j1 k1 l1 t725 t728 t729 t732 t733 t736 x11_1 t738 t742 t746 true a0_0 l0_1)) = some r := H
     have A31 := Z0.mk A310
     clear A310
     have HC32 := Z0.mk H
     clear H
     have hcz33_0 : wr.cell? ⟨gb719, 0, none⟩ = some (.int .i64 a0_0) := (kC BK719.out 0).trans rfl
     have hcz33_1 : wr.cell? ⟨gb719, 1, none⟩ = some (.slice A0_1 l0_1.length c0_1) := (kC BK719.out 1).trans rfl
     have hfz33_0 := kF BK719.out 0
     have hfz33_1 := kF BK719.out 1
     go_upto_region 12 with (first | ((with_reducible refine gC (f := 55) rfl ?_); refine gL (some 48) rfl rfl Try.func55 (by kernel_rfl) rfl #[.agg #[.int .i64 a0_0, .slice A0_1 l0_1.length c0_1], .slice A1 l1.length c1] rfl (by (try simp only [List.map_toArray, List.map_cons, List.map_nil]); first | done | rfl | (simp only [List.length_drop, List.length_take]; rfl)) ?_; (with_reducible refine (tBridges.calls k1 a0_0 _ _ l0_1 _ _ l1 t738 t741 _ ?side1 ?side2 ?side3 ?side4 A29.out).mono ?_); (case side1 => repeat (first | exact (Kd.C_below HR0_1.out HB.out) | (with_reducible refine Kd.C_alloc ?_ _) | (with_reducible refine Kd.C_drewN ?_ _) | (with_reducible refine Kd.C_drew ?_))); (case side2 => exact HC0_1.out); (case side3 => repeat (first | exact (Kd.V_reads' HO_1.out).2.2 | (with_reducible refine Kd.C_alloc ?_ _) | (with_reducible refine Kd.C_drewN ?_ _) | (with_reducible refine Kd.C_drew ?_))); (case side4 => exact (Kd.V_reads' HO_1.out).2.1); rintro e w34 ⟨v739, rfl, ho0, hb⟩; have KG740 := Z0.mk (show ∀ k_, some k_ = (v739 : Value).ownBlock → wr.heap.size ≤ k_ from fun k_ h_ => Nat.le_trans RB.out.size (Kd.R_base ho0 k_ h_.symm)); have nR_ := Z0.mk (bT (by repeat (first | (with_reducible first | exact RB.out | apply below_alloc | apply bN | apply bD) | exact RB.out)) hb); clear RB; have RB := nR_; clear nR_; refine ⟨_, rfl, ?_⟩; have n0_ := Z0.mk (Kd.V_elder' (by (with_reducible repeat (first | apply Kd.V_alloc | apply Kd.V_drewN | apply Kd.V_drew)); exact HO_1.out) (Kd.R_base ho0) hb); have n1_ := Z0.mk (Kd.R_elder' (by (with_reducible repeat (first | apply Kd.R_alloc | apply Kd.R_drewN | apply Kd.R_drew)); exact HO_5.out) (Kd.R_base ho0) hb); have n2_ := Z0.mk (Kd.R_elder' (by (with_reducible repeat (first | apply Kd.R_alloc | apply Kd.R_drewN | apply Kd.R_drew)); exact HO_7.out) (Kd.R_base ho0) hb); have n3_ := Z0.mk (Kd.N_elder' (by (with_reducible repeat (first | apply Kd.N_alloc | apply Kd.N_drewN | apply Kd.N_drew)); exact HO_9.out) (Kd.R_base ho0) hb); have n4_ := Z0.mk (Kd.R_lower (Kd.R_new' (Kd.R_new' (Kd.R_newM (M := fun k_ => (w.heap.size ≤ k_)) ho0 (bZ (by repeat (first | (with_reducible first | exact HB.out | apply below_alloc | apply bN | apply bD | refine bS ?_ GE719.out) | exact HB.out))) (fun k_ h_ => h_)) (Kd.R_lt (by (with_reducible repeat (first | apply Kd.R_alloc | apply Kd.R_drewN | apply Kd.R_drew)); exact HO_5.out))) (Kd.R_lt (by (with_reducible repeat (first | apply Kd.R_alloc | apply Kd.R_drewN | apply Kd.R_drew)); exact HO_7.out))) (bZ (by repeat (first | (with_reducible first | exact HB.out | apply below_alloc | apply bN | apply bD | refine bS ?_ GE719.out) | exact HB.out)))); have n5_ := Z0.mk (kB (g := gb719) (o := .cells #[.int .i64 a0_0, .slice A0_1 l0_1.length c0_1] 24 (0, 0)) (by (with_reducible repeat (first | refine kN ?_ _ | refine kD ?_ | refine kA ?_ _)); exact BK719.out) hb); have n6_ := Z0.mk (bT (by repeat (first | (with_reducible first | exact HB.out | apply below_alloc | apply bN | apply bD | refine bS ?_ GE719.out) | exact HB.out)) hb); clear HO_1; clear HO_5; clear HO_7; clear HO_9; clear BK719; clear HB; have HO_1 := n0_; have HO_5 := n1_; have HO_7 := n2_; have HO_9 := n3_; have HO740 := n4_; have BK719 := n5_; have HB := n6_; clear n0_ n1_ n2_ n3_ n4_ n5_ n6_; (try clear hb); (try clear hb2); (try clear hk); (try clear hi); (try clear ho0); have hcz35_0 : w34.cell? ⟨gb719, 0, none⟩ = some (.int .i64 a0_0) := (kC BK719.out 0).trans rfl; have hcz35_1 : w34.cell? ⟨gb719, 1, none⟩ = some (.slice A0_1 l0_1.length c0_1) := (kC BK719.out 1).trans rfl; have hfz35_0 := kF BK719.out 0; have hfz35_1 := kF BK719.out 1) | ((with_reducible refine gC (f := 56) rfl ?_); refine gL (some 54) rfl rfl Try.func56 (by kernel_rfl) rfl #[.agg #[.int .i64 a0_0, .slice A0_1 l0_1.length c0_1], .slice A1 l1.length c1] rfl (by (try simp only [List.map_toArray, List.map_cons, List.map_nil]); first | done | rfl | (simp only [List.length_drop, List.length_take]; rfl)) ?_; (with_reducible refine (tTree.calls k1 a0_0 _ _ l0_1 _ _ l1 t742 t745 _ ?side1 ?side2 ?side3 ?side4 A30.out).mono ?_); (case side1 => repeat (first | exact (Kd.C_below HR0_1.out HB.out) | (with_reducible refine Kd.C_alloc ?_ _) | (with_reducible refine Kd.C_drewN ?_ _) | (with_reducible refine Kd.C_drew ?_))); (case side2 => exact HC0_1.out); (case side3 => repeat (first | exact (Kd.V_reads' HO_1.out).2.2 | (with_reducible refine Kd.C_alloc ?_ _) | (with_reducible refine Kd.C_drewN ?_ _) | (with_reducible refine Kd.C_drew ?_))); (case side4 => exact (Kd.V_reads' HO_1.out).2.1); rintro e w36 ⟨v743, rfl, ho0, hb⟩; have KG744 := Z0.mk (show ∀ k_, some k_ = (v743 : Value).ownBlock → wr.heap.size ≤ k_ from fun k_ h_ => Nat.le_trans RB.out.size (Kd.R_base ho0 k_ h_.symm)); have nR_ := Z0.mk (bT (by repeat (first | (with_reducible first | exact RB.out | apply below_alloc | apply bN | apply bD) | exact RB.out)) hb); clear RB; have RB := nR_; clear nR_; refine ⟨_, rfl, ?_⟩; have n0_ := Z0.mk (Kd.V_elder' (by (with_reducible repeat (first | apply Kd.V_alloc | apply Kd.V_drewN | apply Kd.V_drew)); exact HO_1.out) (Kd.R_base ho0) hb); have n1_ := Z0.mk (Kd.R_elder' (by (with_reducible repeat (first | apply Kd.R_alloc | apply Kd.R_drewN | apply Kd.R_drew)); exact HO_5.out) (Kd.R_base ho0) hb); have n2_ := Z0.mk (Kd.R_elder' (by (with_reducible repeat (first | apply Kd.R_alloc | apply Kd.R_drewN | apply Kd.R_drew)); exact HO_7.out) (Kd.R_base ho0) hb); have n3_ := Z0.mk (Kd.N_elder' (by (with_reducible repeat (first | apply Kd.N_alloc | apply Kd.N_drewN | apply Kd.N_drew)); exact HO_9.out) (Kd.R_base ho0) hb); have n4_ := Z0.mk (Kd.R_elder' (by (with_reducible repeat (first | apply Kd.R_alloc | apply Kd.R_drewN | apply Kd.R_drew)); exact HO740.out) (Kd.R_base ho0) hb); have n5_ := Z0.mk (Kd.R_lower (Kd.R_new' (Kd.R_new' (Kd.R_new' (Kd.R_newM (M := fun k_ => (w.heap.size ≤ k_)) ho0 (bZ (by repeat (first | (with_reducible first | exact HB.out | apply below_alloc | apply bN | apply bD | refine bS ?_ GE719.out) | exact HB.out))) (fun k_ h_ => h_)) (Kd.R_lt (by (with_reducible repeat (first | apply Kd.R_alloc | apply Kd.R_drewN | apply Kd.R_drew)); exact HO_5.out))) (Kd.R_lt (by (with_reducible repeat (first | apply Kd.R_alloc | apply Kd.R_drewN | apply Kd.R_drew)); exact HO_7.out))) (Kd.R_lt (by (with_reducible repeat (first | apply Kd.R_alloc | apply Kd.R_drewN | apply Kd.R_drew)); exact HO740.out))) (bZ (by repeat (first | (with_reducible first | exact HB.out | apply below_alloc | apply bN | apply bD | refine bS ?_ GE719.out) | exact HB.out)))); have n6_ := Z0.mk (kB (g := gb719) (o := .cells #[.int .i64 a0_0, .slice A0_1 l0_1.length c0_1] 24 (0, 0)) (by (with_reducible repeat (first | refine kN ?_ _ | refine kD ?_ | refine kA ?_ _)); exact BK719.out) hb); have n7_ := Z0.mk (bT (by repeat (first | (with_reducible first | exact HB.out | apply below_alloc | apply bN | apply bD | refine bS ?_ GE719.out) | exact HB.out)) hb); clear HO_1; clear HO_5; clear HO_7; clear HO_9; clear HO740; clear BK719; clear HB; have HO_1 := n0_; have HO_5 := n1_; have HO_7 := n2_; have HO_9 := n3_; have HO740 := n4_; have HO744 := n5_; have BK719 := n6_; have HB := n7_; clear n0_ n1_ n2_ n3_ n4_ n5_ n6_ n7_; (try clear hb); (try clear hb2); (try clear hk); (try clear hi); (try clear ho0); have hcz37_0 : w36.cell? ⟨gb719, 0, none⟩ = some (.int .i64 a0_0) := (kC BK719.out 0).trans rfl; have hcz37_1 : w36.cell? ⟨gb719, 1, none⟩ = some (.slice A0_1 l0_1.length c0_1) := (kC BK719.out 1).trans rfl; have hfz37_0 := kF BK719.out 0; have hfz37_1 := kF BK719.out 1) | ((with_reducible refine gC (f := 57) rfl ?_); refine gL (some 60) rfl rfl Try.func57 (by kernel_rfl) rfl #[.agg #[.int .i64 a0_0, .slice A0_1 l0_1.length c0_1], .slice A1 l1.length c1] rfl (by (try simp only [List.map_toArray, List.map_cons, List.map_nil]); first | done | rfl | (simp only [List.length_drop, List.length_take]; rfl)) ?_; (with_reducible refine (tCycles.calls k1 a0_0 _ _ l0_1 _ _ l1 t746 t749 _ ?side1 ?side2 ?side3 ?side4 A31.out).mono ?_); (case side1 => repeat (first | exact (Kd.C_below HR0_1.out HB.out) | (with_reducible refine Kd.C_alloc ?_ _) | (with_reducible refine Kd.C_drewN ?_ _) | (with_reducible refine Kd.C_drew ?_))); (case side2 => exact HC0_1.out); (case side3 => repeat (first | exact (Kd.V_reads' HO_1.out).2.2 | (with_reducible refine Kd.C_alloc ?_ _) | (with_reducible refine Kd.C_drewN ?_ _) | (with_reducible refine Kd.C_drew ?_))); (case side4 => exact (Kd.V_reads' HO_1.out).2.1); rintro e w38 ⟨v747, rfl, ho0, hb⟩; have KC := Z0.mk (CRows.of_S ho0); have KB := Z0.mk (KB_of ho0 (by repeat (first | (with_reducible first | exact RB.out | apply below_alloc | apply bN | apply bD) | exact RB.out))); have KP740 := Z0.mk (KP_of ho0 (by (with_reducible repeat (first | apply Kd.R_alloc | apply Kd.R_drewN | apply Kd.R_drew)); exact HO740.out)); have KP744 := Z0.mk (KP_of ho0 (by (with_reducible repeat (first | apply Kd.R_alloc | apply Kd.R_drewN | apply Kd.R_drew)); exact HO744.out)); have nR_ := Z0.mk (bT (by repeat (first | (with_reducible first | exact RB.out | apply below_alloc | apply bN | apply bD) | exact RB.out)) hb); clear RB; have RB := nR_; clear nR_; have RC := Z0.mk (Below.refl w38.heap.size w38); refine ⟨_, rfl, ?_⟩; have n0_ := Z0.mk (Kd.V_elder' (by (with_reducible repeat (first | apply Kd.V_alloc | apply Kd.V_drewN | apply Kd.V_drew)); exact HO_1.out) (Kd.N_base (Kd.S_N ho0)) hb); have n1_ := Z0.mk (Kd.R_below (by (with_reducible repeat (first | apply Kd.R_alloc | apply Kd.R_drewN | apply Kd.R_drew)); exact HO_5.out) hb); have n2_ := Z0.mk (Kd.R_below (by (with_reducible repeat (first | apply Kd.R_alloc | apply Kd.R_drewN | apply Kd.R_drew)); exact HO_7.out) hb); have n3_ := Z0.mk (Kd.N_elder' (by (with_reducible repeat (first | apply Kd.N_alloc | apply Kd.N_drewN | apply Kd.N_drew)); exact HO_9.out) (Kd.N_base (Kd.S_N ho0)) hb); have n4_ := Z0.mk (Kd.R_below (by (with_reducible repeat (first | apply Kd.R_alloc | apply Kd.R_drewN | apply Kd.R_drew)); exact HO740.out) hb); have n5_ := Z0.mk (Kd.R_below (by (with_reducible repeat (first | apply Kd.R_alloc | apply Kd.R_drewN | apply Kd.R_drew)); exact HO744.out) hb); have n6_ := Z0.mk (Kd.N_lower (Kd.N_mono (ok' := fun k_ => (P1_ k_ ∨ w.heap.size ≤ k_) ∧ some k_ ≠ (v726 : Value).ownBlock ∧ some k_ ≠ (v730 : Value).ownBlock ∧ some k_ ≠ (v734 : Value).ownBlock ∧ some k_ ≠ (v739 : Value).ownBlock ∧ some k_ ≠ (v743 : Value).ownBlock ∧ k_ ≠ gb719) (Kd.S_N (Kd.S_bound ho0)) (fun k_ hk_ => ⟨(.inr (Nat.le_trans (bZ (by repeat (first | (with_reducible first | exact HB.out | apply below_alloc | apply bN | apply bD | refine bS ?_ GE719.out) | exact HB.out))) hk_.2.1)), (Kd.fresh' (Kd.R_lt (by (with_reducible repeat (first | apply Kd.R_alloc | apply Kd.R_drewN | apply Kd.R_drew)); exact HO_5.out)) k_ hk_.2.1), (Kd.fresh' (Kd.R_lt (by (with_reducible repeat (first | apply Kd.R_alloc | apply Kd.R_drewN | apply Kd.R_drew)); exact HO_7.out)) k_ hk_.2.1), (Kd.fresh' (Kd.N_lt (by (with_reducible repeat (first | apply Kd.N_alloc | apply Kd.N_drewN | apply Kd.N_drew)); exact HO_9.out)) k_ hk_.2.1), (Kd.fresh' (Kd.R_lt (by (with_reducible repeat (first | apply Kd.R_alloc | apply Kd.R_drewN | apply Kd.R_drew)); exact HO740.out)) k_ hk_.2.1), (Kd.fresh' (Kd.R_lt (by (with_reducible repeat (first | apply Kd.R_alloc | apply Kd.R_drewN | apply Kd.R_drew)); exact HO744.out)) k_ hk_.2.1), (Kd.freshB (g := gb719) (o := .cells #[.int .i64 a0_0, .slice A0_1 l0_1.length c0_1] 24 (0, 0)) (by (with_reducible repeat (first | refine kN ?_ _ | refine kD ?_ | refine kA ?_ _)); exact BK719.out) k_ hk_.2.1)⟩)) (bZ (by repeat (first | (with_reducible first | exact HB.out | apply below_alloc | apply bN | apply bD | refine bS ?_ GE719.out) | exact HB.out)))); have n7_ := Z0.mk (kB (g := gb719) (o := .cells #[.int .i64 a0_0, .slice A0_1 l0_1.length c0_1] 24 (0, 0)) (by (with_reducible repeat (first | refine kN ?_ _ | refine kD ?_ | refine kA ?_ _)); exact BK719.out) hb); have n8_ := Z0.mk (bT (by repeat (first | (with_reducible first | exact HB.out | apply below_alloc | apply bN | apply bD | refine bS ?_ GE719.out) | exact HB.out)) hb); clear HO_1; clear HO_5; clear HO_7; clear HO_9; clear HO740; clear HO744; clear BK719; clear HB; have HO_1 := n0_; have HO_5 := n1_; have HO_7 := n2_; have HO_9 := n3_; have HO740 := n4_; have HO744 := n5_; have HO748 := n6_; have BK719 := n7_; have HB := n8_; clear n0_ n1_ n2_ n3_ n4_ n5_ n6_ n7_ n8_; (try clear hb); (try clear hb2); (try clear hk); (try clear hi); (try clear ho0)))
     (try simp only [Act.put, List.setIfInBounds_toArray, List.set_cons_zero, List.set_cons_succ])
     go_cut [93] (fun v93 wc => ∃ (kq : Nat) (x93_31 : Bool), v93 = .bool x93_31 ∧ Z0 (ql16TreeMatches.j1 kq l1 t725 t728 t729 t732 t733 t736 x11_1 t738 t742 t746 x93_31 a0_0 l0_1 = some r) ∧ Z0 (kq ≤ k1) ∧ Z0 (Kd.V (Kd.int .i64) 3 wc w.heap.size (fun k_ => (P1_ k_ ∨ w.heap.size ≤ k_) ∧ some k_ ≠ (v726 : Value).ownBlock ∧ some k_ ≠ (v730 : Value).ownBlock ∧ some k_ ≠ (v734 : Value).ownBlock ∧ some k_ ≠ (v739 : Value).ownBlock ∧ some k_ ≠ (v743 : Value).ownBlock ∧ some k_ ≠ (v747 : Value).ownBlock ∧ k_ ≠ gb719) (.slice A1 l1.length c1) l1) ∧ Z0 (Kd.R (Kd.int .i64) 3 wc w.heap.size (fun k_ => (w.heap.size ≤ k_) ∧ some k_ ≠ (v730 : Value).ownBlock ∧ some k_ ≠ (v739 : Value).ownBlock ∧ some k_ ≠ (v743 : Value).ownBlock) v726 t725) ∧ Z0 (Kd.R (Kd.int .i64) 3 wc w.heap.size (fun k_ => (w.heap.size ≤ k_) ∧ some k_ ≠ (v726 : Value).ownBlock ∧ some k_ ≠ (v739 : Value).ownBlock ∧ some k_ ≠ (v743 : Value).ownBlock) v730 t729) ∧ Z0 (Kd.N (Kd.slice 3 (Kd.int .i64)) 25 wc w.heap.size (fun k_ => (P1_ k_ ∨ w.heap.size ≤ k_) ∧ some k_ ≠ (v726 : Value).ownBlock ∧ some k_ ≠ (v730 : Value).ownBlock ∧ some k_ ≠ (v739 : Value).ownBlock ∧ some k_ ≠ (v743 : Value).ownBlock ∧ some k_ ≠ (v747 : Value).ownBlock ∧ k_ ≠ gb719) v734 t733) ∧ Z0 (Kd.R (Kd.int .i64) 3 wc w.heap.size (fun k_ => (w.heap.size ≤ k_) ∧ some k_ ≠ (v726 : Value).ownBlock ∧ some k_ ≠ (v730 : Value).ownBlock ∧ some k_ ≠ (v743 : Value).ownBlock) v739 t738) ∧ Z0 (Kd.R (Kd.int .i64) 3 wc w.heap.size (fun k_ => (w.heap.size ≤ k_) ∧ some k_ ≠ (v726 : Value).ownBlock ∧ some k_ ≠ (v730 : Value).ownBlock ∧ some k_ ≠ (v739 : Value).ownBlock) v743 t742) ∧ Z0 (Kd.N (Kd.slice 3 (Kd.int .i64)) 25 wc w.heap.size (fun k_ => (P1_ k_ ∨ w.heap.size ≤ k_) ∧ some k_ ≠ (v726 : Value).ownBlock ∧ some k_ ≠ (v730 : Value).ownBlock ∧ some k_ ≠ (v734 : Value).ownBlock ∧ some k_ ≠ (v739 : Value).ownBlock ∧ some k_ ≠ (v743 : Value).ownBlock ∧ k_ ≠ gb719) v747 t746) ∧ Z0 (wc.heap[gb719]? = some (.cells #[.int .i64 a0_0, (.slice A0_1 l0_1.length c0_1)] 24 (0, 0))) ∧ Z0 (Below w.heap.size w wc) ∧ Z0 (Below wr.heap.size wr wc) ∧ Z0 (Below w38.heap.size w38 wc))
     case first =>
      have H := HC32.out
      clear HC32
      by_cases c39 : t741 = t728
      ·rw [if_pos c39] at H
       have c39b0 : (t741 == t728) = true := beq_iff_eq.mpr c39
       have c39b1 : (t741 != t728) = false := bne_eq_false_iff_eq.mpr c39
       clear c39
       (first | rw [c39b0] | (simp only [i64_w, i32_w]; rw [c39b0]) | skip)
       by_cases c40 : t745 = t732
       ·rw [if_pos c40] at H
        have c40b0 : (t745 == t732) = true := beq_iff_eq.mpr c40
        have c40b1 : (t745 != t732) = false := bne_eq_false_iff_eq.mpr c40
        clear c40
        by_cases c41 : t749 = t736
        ·rw [if_pos c41] at H
         have c41b0 : (t749 == t736) = true := beq_iff_eq.mpr c41
         have c41b1 : (t749 != t736) = false := bne_eq_false_iff_eq.mpr c41
         clear c41
         replace H := Option.bind_eq_some_iff.mp H
         obtain ⟨t750, A420, H⟩ := H
         replace H : (if t750 = true then ((qr14Ints.f k1 t742 t729).bind fun t751 => (if t751 = true then ((qr15Rows.f k1 t746 t733).bind fun t752 => (ql16TreeMatches.j1 k1 l1 t725 t728 t729 t732 t733 t736 x11_1 t738 t742 t746 (!t752) a0_0 l0_1)) else (ql16TreeMatches.j1 k1 l1 t725 t728 t729 t732 t733 t736 x11_1 t738 t742 t746 true a0_0 l0_1))) else (ql16TreeMatches.j1 k1 l1 t725 t728 t729 t732 t733 t736 x11_1 t738 t742 t746 true a0_0 l0_1)) = some r := H
         have A42 := Z0.mk A420
         clear A420
         by_cases c43 : t750 = true
         ·subst c43
          have H1 : ((qr14Ints.f k1 t742 t729).bind fun t751 => (if t751 = true then ((qr15Rows.f k1 t746 t733).bind fun t752 => (ql16TreeMatches.j1 k1 l1 t725 t728 t729 t732 t733 t736 x11_1 t738 t742 t746 (!t752) a0_0 l0_1)) else (ql16TreeMatches.j1 k1 l1 t725 t728 t729 t732 t733 t736 x11_1 t738 t742 t746 true a0_0 l0_1))) = some r := by rw [if_pos rfl] at H; exact H
          clear H
          have H := H1
          clear H1
          replace H := Option.bind_eq_some_iff.mp H
          obtain ⟨t751, A440, H⟩ := H
          replace H : (if t751 = true then ((qr15Rows.f k1 t746 t733).bind fun t752 => (ql16TreeMatches.j1 k1 l1 t725 t728 t729 t732 t733 t736 x11_1 t738 t742 t746 (!t752) a0_0 l0_1)) else (ql16TreeMatches.j1 k1 l1 t725 t728 t729 t732 t733 t736 x11_1 t738 t742 t746 true a0_0 l0_1)) = some r := H
          have A44 := Z0.mk A440
          clear A440
          by_cases c45 : t751 = true
          ·subst c45
           have H1 : ((qr15Rows.f k1 t746 t733).bind fun t752 => (ql16TreeMatches.j1 k1 l1 t725 t728 t729 t732 t733 t736 x11_1 t738 t742 t746 (!t752) a0_0 l0_1)) = some r := by rw [if_pos rfl] at H; exact H
           clear H
           have H := H1
           clear H1
           replace H := Option.bind_eq_some_iff.mp H
           obtain ⟨t752, A460, H⟩ := H
           replace H : (ql16TreeMatches.j1 k1 l1 t725 t728 t729 t732 t733 t736 x11_1 t738 t742 t746 (!t752) a0_0 l0_1) = some r := H
           have A46 := Z0.mk A460
           clear A460
           have H' := Z0.mk H
           clear H
           obtain ⟨Ao47, co47, eo47⟩ := Kd.R_slice HO740.out
           subst eo47
           obtain ⟨Ao48, co48, eo48⟩ := Kd.R_slice HO_5.out
           subst eo48
           go_wp2_with (first | (go_at_call 36; (with_reducible refine (qr14Ints.calls k1 _ _ t738 _ _ t725 true _ ?side1 ?side2 ?side3 ?side4 A42.out).mono ?_); (case side1 => repeat (first | exact (Kd.R_reads' HO740.out).2.2 | (with_reducible refine Kd.C_alloc ?_ _) | (with_reducible refine Kd.C_drewN ?_ _) | (with_reducible refine Kd.C_drew ?_))); (case side2 => exact (Kd.R_reads' HO740.out).2.1); (case side3 => repeat (first | exact (Kd.R_reads' HO_5.out).2.2 | (with_reducible refine Kd.C_alloc ?_ _) | (with_reducible refine Kd.C_drewN ?_ _) | (with_reducible refine Kd.C_drew ?_))); (case side4 => exact (Kd.R_reads' HO_5.out).2.1); rintro e w' ⟨rfl, ⟨nd, rfl⟩⟩; obtain ⟨Ao49, co49, eo49⟩ := Kd.R_slice HO744.out; subst eo49; obtain ⟨Ao50, co50, eo50⟩ := Kd.R_slice HO_7.out; subst eo50) | (go_at_call 36; (with_reducible refine (qr14Ints.calls k1 _ _ t742 _ _ t729 true _ ?side1 ?side2 ?side3 ?side4 A44.out).mono ?_); (case side1 => repeat (first | exact (Kd.R_reads' HO744.out).2.2 | (with_reducible refine Kd.C_alloc ?_ _) | (with_reducible refine Kd.C_drewN ?_ _) | (with_reducible refine Kd.C_drew ?_))); (case side2 => exact (Kd.R_reads' HO744.out).2.1); (case side3 => repeat (first | exact (Kd.R_reads' HO_7.out).2.2 | (with_reducible refine Kd.C_alloc ?_ _) | (with_reducible refine Kd.C_drewN ?_ _) | (with_reducible refine Kd.C_drew ?_))); (case side4 => exact (Kd.R_reads' HO_7.out).2.1); rintro e w' ⟨rfl, ⟨nd, rfl⟩⟩; obtain ⟨Ao51, co51, eo51⟩ := Kd.N_slice HO748.out; subst eo51; obtain ⟨Ao52, co52, eo52⟩ := Kd.N_slice HO_9.out; subst eo52) | (go_at_call 44; (with_reducible refine (qr15Rows.calls k1 _ _ t746 _ _ t733 t752 _ ?side1 ?side2 ?side3 ?side4 A46.out).mono ?_); (case side1 => repeat (first | exact (Kd.N_reads' HO748.out).2.2 | (with_reducible refine Kd.C_alloc ?_ _) | (with_reducible refine Kd.C_drewN ?_ _) | (with_reducible refine Kd.C_drew ?_))); (case side2 => exact (Kd.N_reads' HO748.out).2.1); (case side3 => repeat (first | exact (Kd.N_reads' HO_9.out).2.2 | (with_reducible refine Kd.C_alloc ?_ _) | (with_reducible refine Kd.C_drewN ?_ _) | (with_reducible refine Kd.C_drew ?_))); (case side4 => exact (Kd.N_reads' HO_9.out).2.1); rintro e w' ⟨rfl, ⟨nd, rfl⟩⟩))
           go_meet
           case rel => exact ⟨_, (!t752), (by first | rfl | (simp; done) | (simp [*]; done)), H', ⟨by have := HK1.out; first | omega | exact Nat.le_refl _⟩, ⟨by (with_reducible repeat (first | apply Kd.V_alloc | apply Kd.V_drewN | apply Kd.V_drew)); exact Kd.V_mono HO_1.out (fun _ hk => ⟨hk.1.1.1.1, ⟨hk.1.1.1.2.1, ⟨hk.1.1.1.2.2.1, ⟨hk.1.1.1.2.2.2.1, ⟨hk.1.1.2, ⟨hk.1.2, ⟨hk.2, hk.1.1.1.2.2.2.2⟩⟩⟩⟩⟩⟩⟩)⟩, ⟨by (with_reducible repeat (first | apply Kd.R_alloc | apply Kd.R_drewN | apply Kd.R_drew)); exact Kd.R_mono HO_5.out (fun _ hk => ⟨hk.1.1.1, ⟨hk.1.1.2, ⟨hk.1.2, hk.2⟩⟩⟩)⟩, ⟨by (with_reducible repeat (first | apply Kd.R_alloc | apply Kd.R_drewN | apply Kd.R_drew)); exact Kd.R_mono HO_7.out (fun _ hk => ⟨hk.1.1.1, ⟨hk.1.1.2, ⟨hk.1.2, hk.2⟩⟩⟩)⟩, ⟨by (with_reducible repeat (first | apply Kd.N_alloc | apply Kd.N_drewN | apply Kd.N_drew)); exact Kd.N_mono HO_9.out (fun _ hk => ⟨hk.1.1.1.1, ⟨hk.1.1.1.2.1, ⟨hk.1.1.1.2.2.1, ⟨hk.1.1.2, ⟨hk.1.2, ⟨hk.2, hk.1.1.1.2.2.2⟩⟩⟩⟩⟩⟩)⟩, ⟨by (with_reducible repeat (first | apply Kd.R_alloc | apply Kd.R_drewN | apply Kd.R_drew)); exact Kd.R_mono HO740.out (fun _ hk => ⟨hk.1.1.1.1, ⟨hk.1.1.2, ⟨hk.1.2, hk.2⟩⟩⟩)⟩, ⟨by (with_reducible repeat (first | apply Kd.R_alloc | apply Kd.R_drewN | apply Kd.R_drew)); exact Kd.R_mono HO744.out (fun _ hk => ⟨hk.1.1.1.1, ⟨hk.1.1.2, ⟨hk.1.2, hk.2⟩⟩⟩)⟩, ⟨by (with_reducible repeat (first | apply Kd.N_alloc | apply Kd.N_drewN | apply Kd.N_drew)); exact HO748.out⟩, ⟨by (with_reducible repeat (first | refine kN ?_ _ | refine kD ?_ | refine kA ?_ _)); exact BK719.out⟩, ⟨by repeat (first | (with_reducible first | exact HB.out | apply below_alloc | apply bN | apply bD | refine bS ?_ GE719.out) | exact HB.out)⟩, ⟨by repeat (first | (with_reducible first | exact RB.out | apply below_alloc | apply bN | apply bD) | exact RB.out)⟩, ⟨by repeat (first | (with_reducible first | exact RC.out | apply below_alloc | apply bN | apply bD) | exact RC.out)⟩⟩
          ·replace c45 := Bool.eq_false_iff.mpr c45
           subst c45
           have H1 : (ql16TreeMatches.j1 k1 l1 t725 t728 t729 t732 t733 t736 x11_1 t738 t742 t746 true a0_0 l0_1) = some r := by rw [if_neg (show ¬ (false = true) by decide)] at H; exact H
           exact absurd (H1.trans (congrArg some HRT.out)) (by cases k1 <;> simp [ql16TreeMatches.j1])
         ·replace c43 := Bool.eq_false_iff.mpr c43
          subst c43
          have H1 : (ql16TreeMatches.j1 k1 l1 t725 t728 t729 t732 t733 t736 x11_1 t738 t742 t746 true a0_0 l0_1) = some r := by rw [if_neg (show ¬ (false = true) by decide)] at H; exact H
          exact absurd (H1.trans (congrArg some HRT.out)) (by cases k1 <;> simp [ql16TreeMatches.j1])
        ·rw [if_neg c41] at H
         exact absurd (H.trans (congrArg some HRT.out)) (by cases k1 <;> simp [ql16TreeMatches.j1])
       ·rw [if_neg c40] at H
        exact absurd (H.trans (congrArg some HRT.out)) (by cases k1 <;> simp [ql16TreeMatches.j1])
      ·rw [if_neg c39] at H
       exact absurd (H.trans (congrArg some HRT.out)) (by cases k1 <;> simp [ql16TreeMatches.j1])
     case rest =>
      clear HC32; (try clear c1); (try clear c2); (try clear p2); (try clear c3); (try clear c4); (try clear c5); (try clear c11); (try clear c28); (try clear c28b0); (try clear c39); (try clear c39b0); (try clear c39b1); (try clear c40); (try clear c40b0); (try clear c40b1); (try clear c41); (try clear c41b0); (try clear c41b1); (try clear c43); (try clear c45); (try clear c51); (try clear c52); (try clear c53); (try clear c54); (try clear c55); (try clear c56); (try clear c57); (try clear hcz17_0); (try clear hcz17_1); (try clear hcz22_0); (try clear hcz22_1); (try clear hcz24_0); (try clear hcz24_1); (try clear hcz26_0); (try clear hcz26_1); (try clear hcz33_0); (try clear hcz33_1); (try clear hcz35_0); (try clear hcz35_1); (try clear hcz37_0); (try clear hcz37_1); (try clear hcz7_0); (try clear hcz7_1); (try clear hfz17_0); (try clear hfz17_1); (try clear hfz22_0); (try clear hfz22_1); (try clear hfz24_0); (try clear hfz24_1); (try clear hfz26_0); (try clear hfz26_1); (try clear hfz33_0); (try clear hfz33_1); (try clear hfz35_0); (try clear hfz35_1); (try clear hfz37_0); (try clear hfz37_1); (try clear hfz7_0); (try clear hfz7_1); (try clear p2)
      obtain ⟨kq, x93_31, rfl, HA, HJ31, HO_1, HO_5, HO_7, HO_9, HO_12, HO_14, HO_16, BK719, HB, RB, RC⟩ := hcut
      cases kq with
      | zero => exact absurd HA.out (by simp [ql16TreeMatches.j1])
      | succ kj31 =>
       have H := HA.out
       clear HA
       simp only [ql16TreeMatches.j1] at H
       by_cases c59 : x93_31 = true
       ·subst c59
        have H1 : (some false) = some r := by rw [if_pos rfl] at H; exact H
        exact absurd (H1.trans (congrArg some HRT.out)) (by simp)
       ·replace c59 := Bool.eq_false_iff.mpr c59
        subst c59
        have H1 : ((ql16spoil.f (([t738, t742] : List (List Int)))).bind fun _ => ((ql16spoil.f t746).bind fun _ => (ql16TreeMatches.l0 kj31 l1 t725 t728 t729 t732 t733 t736 (wrap64 (x11_1 + 1)) a0_0 l0_1))) = some r := by rw [if_neg (show ¬ (false = true) by decide)] at H; exact H
        clear H
        have H := H1
        clear H1
        obtain ⟨y753, hy753⟩ : ∃ y_ : List (List Int), y_ = (([t738, t742] : List (List Int))) := ⟨_, rfl⟩
        replace H : ((ql16spoil.f y753).bind fun _ => ((ql16spoil.f t746).bind fun _ => (ql16TreeMatches.l0 kj31 l1 t725 t728 t729 t732 t733 t736 (wrap64 (x11_1 + 1)) a0_0 l0_1))) = some r := by first | (rw [hy753]; with_reducible exact H) | (have H2_ := (Option.bind_some _ _).symm.trans H; rw [hy753]; with_reducible exact H2_) | (have H2_ := (Option.bind_some _ _).symm.trans H; with_reducible exact H2_) | with_reducible exact H | (rw [hy753]; exact H) | exact H
        have Ny753 := Z0.mk hy753
        clear hy753
        replace H := Option.bind_eq_some_iff.mp H
        obtain ⟨_, A600, H⟩ := H
        replace H : ((ql16spoil.f t746).bind fun _ => (ql16TreeMatches.l0 kj31 l1 t725 t728 t729 t732 t733 t736 (wrap64 (x11_1 + 1)) a0_0 l0_1)) = some r := H
        have A60 := Z0.mk A600
        clear A600
        replace H := Option.bind_eq_some_iff.mp H
        obtain ⟨_, A610, H⟩ := H
        replace H : (ql16TreeMatches.l0 kj31 l1 t725 t728 t729 t732 t733 t736 (wrap64 (x11_1 + 1)) a0_0 l0_1) = some r := H
        have A61 := Z0.mk A610
        clear A610
        have H' := Z0.mk H
        clear H
        obtain ⟨Ao62, co62, eo62⟩ := Kd.R_slice HO_12.out
        subst eo62
        obtain ⟨Ao63, co63, eo63⟩ := Kd.R_slice HO_14.out
        subst eo63
        go_wp2_with (first | ((with_reducible refine gate_dst (N := 96) rfl ?_); (try (refine gG (by rfl) ?_; dsimp only)); refine rows_event ?hg (N := 96) ?hd (n := 2) (inner := [.slice Ao62 t738.length co62, .slice Ao63 t742.length co63]) (e := 25) ?hr ?_; (case hd => rfl); (case hg => rfl); (case hr => first | (go_simp; done) | (go_simp; rfl)); intro gy753 hg_ w64 hrow_ hb; have KR0 := Z0.mk (RowOk.below (RowOk.of_R (by (with_reducible repeat (first | apply Kd.R_alloc | apply Kd.R_drewN | apply Kd.R_drew)); exact HO_12.out)) hb); have KN0 := Z0.mk (show ∀ k_, some k_ = (.slice Ao62 t738.length co62 : Value).ownBlock → k_ < gy753 from fun k_ h_ => by rw [hg_]; exact Kd.R_lt HO_12.out k_ h_.symm); have KR1 := Z0.mk (RowOk.below (RowOk.of_R (by (with_reducible repeat (first | apply Kd.R_alloc | apply Kd.R_drewN | apply Kd.R_drew)); exact HO_14.out)) hb); have KN1 := Z0.mk (show ∀ k_, some k_ = (.slice Ao63 t742.length co63 : Value).ownBlock → k_ < gy753 from fun k_ h_ => by rw [hg_]; exact Kd.R_lt HO_14.out k_ h_.symm); have KY := Z0.mk hrow_; clear hrow_ hg_; have nR_ := Z0.mk (bT (by repeat (first | (with_reducible first | exact RB.out | apply below_alloc | apply bN | apply bD) | exact RB.out)) hb); clear RB; have RB := nR_; clear nR_; (try (have nR_ := Z0.mk (bT (by repeat (first | (with_reducible first | exact RC.out | apply below_alloc | apply bN | apply bD) | exact RC.out)) hb); clear RC; have RC := nR_; clear nR_)); (try clear hb)) | ((with_reducible refine gC (f := 58) rfl ?_); refine gL (some 97) rfl rfl Try.func58 (by kernel_rfl) rfl #[.slice (some ⟨gy753, 0, none⟩) 2 2] rfl (by (try simp only [List.map_toArray, List.map_cons, List.map_nil]); first | done | rfl | (simp only [List.length_drop, List.length_take]; rfl)) ?_; refine (ql16spoil.real (fun k_ => some k_ = (.slice Ao62 t738.length co62 : Value).ownBlock ∨ some k_ = (.slice Ao63 t742.length co63 : Value).ownBlock) (some ⟨gy753, 0, none⟩) [.slice Ao62 t738.length co62, .slice Ao63 t742.length co63] 2 _ (show 2 ≤ 9223372036854775807 by decide) (rows_lit KY.out (fun h_ => h_.elim (fun h_ => Nat.lt_irrefl _ (KN0.out _ h_)) (fun h_ => Nat.lt_irrefl _ (KN1.out _ h_))) (List.forall_mem_cons.2 ⟨KR0.out.mono (fun k_ h_ => (.inl h_)), List.forall_mem_cons.2 ⟨KR1.out.mono (fun k_ h_ => (.inr h_)), List.forall_mem_nil _⟩⟩))).mono ?_; rintro e w67 ⟨rfl, hsk_⟩; refine ⟨_, rfl, ?_⟩; have nR_ := Z0.mk (SpoilKept.below hsk_ (by repeat (first | (with_reducible first | exact RB.out | apply below_alloc | apply bN | apply bD) | exact RB.out)) RB.out.size (fun k_ h_ => h_.elim (fun h_ => by first | exact KG740.out k_ h_ | exact KG744.out k_ h_) (fun h_ => by first | exact KG740.out k_ h_ | exact KG744.out k_ h_))); clear RB; have RB := nR_; clear nR_; have KS := Z0.mk hsk_; clear hsk_) | ((with_reducible refine gC (f := 58) rfl ?_); refine gL (some 99) rfl rfl Try.func58 (by kernel_rfl) rfl #[v747] rfl (by (try simp only [List.map_toArray, List.map_cons, List.map_nil]); first | done | rfl | (simp only [List.length_drop, List.length_take]; rfl)) ?_; refine (spoil_rows ql16spoil.real KC.out RC.out KS.out (fun k_ h_ => h_.elim (fun h_ => (by first | exact KP740.out k_ h_ | exact KP744.out k_ h_)) (fun h_ => (by first | exact KP740.out k_ h_ | exact KP744.out k_ h_)))).mono ?_; rintro e w69 ⟨rfl, hsk_⟩; refine ⟨_, rfl, ?_⟩; have nR_ := Z0.mk (SpoilKept.below hsk_ (by repeat (first | (with_reducible first | exact RB.out | apply below_alloc | apply bN | apply bD) | exact RB.out)) RB.out.size (fun k_ h_ => Nat.le_trans KB.out h_.1)); clear RB; have RB := nR_; clear nR_ hsk_))
        go_roundg kj31
        case measure => have := HK1.out; have := HJ31.out; omega
        case rel => exact ⟨(wrap64 (x11_1 + 1)), (by first | rfl | (simp; done) | (simp [*]; done)), H', ⟨by have := HK1.out; have := HJ31.out; omega⟩, ⟨Kd.V_below SVHO_1.out RB.out⟩, ⟨Kd.R_below SVHO_5.out RB.out⟩, ⟨Kd.R_below SVHO_7.out RB.out⟩, ⟨Kd.N_below SVHO_9.out RB.out⟩, ⟨kB SVBK719.out RB.out⟩, ⟨SVHB.out.trans (RB.out.mono SVHB.out.size)⟩⟩
    ·rw [if_neg c28] at H
     have c28b0 : decide (x11_1 < 2) = false := decide_eq_false c28
     clear c28
     replace H := Option.bind_eq_some_iff.mp H
     obtain ⟨t737, A700, H⟩ := H
     replace H : (some t737) = some r := H
     have A70 := Z0.mk A700
     clear A700
     obtain rfl := Option.some.inj H
     go_wp2_with (first | ((with_reducible refine gC (f := 51) rfl ?_); refine gL (some 100) rfl rfl Try.func51 (by kernel_rfl) rfl #[] rfl (by (try simp only [List.map_toArray, List.map_cons, List.map_nil]); first | done | rfl | (simp only [List.length_drop, List.length_take]; rfl)) ?_; (with_reducible refine (ql16awake.calls  t737 _ A70.out).mono ?_); rintro e w71 ⟨rfl, hb⟩; have nR_ := Z0.mk (bT (by repeat (first | (with_reducible first | exact RB.out | apply below_alloc | apply bN | apply bD) | exact RB.out)) hb); clear RB; have RB := nR_; clear nR_; (try (have nR_ := Z0.mk (bT (by repeat (first | (with_reducible first | exact RC.out | apply below_alloc | apply bN | apply bD) | exact RC.out)) hb); clear RC; have RC := nR_; clear nR_)); refine ⟨_, rfl, ?_⟩; have n0_ := Z0.mk (Kd.V_below (by (with_reducible repeat (first | apply Kd.V_alloc | apply Kd.V_drewN | apply Kd.V_drew)); exact HO_1.out) hb); have n1_ := Z0.mk (Kd.R_below (by (with_reducible repeat (first | apply Kd.R_alloc | apply Kd.R_drewN | apply Kd.R_drew)); exact HO_5.out) hb); have n2_ := Z0.mk (Kd.R_below (by (with_reducible repeat (first | apply Kd.R_alloc | apply Kd.R_drewN | apply Kd.R_drew)); exact HO_7.out) hb); have n3_ := Z0.mk (Kd.N_below (by (with_reducible repeat (first | apply Kd.N_alloc | apply Kd.N_drewN | apply Kd.N_drew)); exact HO_9.out) hb); have n4_ := Z0.mk (kB (g := gb719) (o := .cells #[.int .i64 a0_0, .slice A0_1 l0_1.length c0_1] 24 (0, 0)) (by (with_reducible repeat (first | refine kN ?_ _ | refine kD ?_ | refine kA ?_ _)); exact BK719.out) hb); have n5_ := Z0.mk (bT (by repeat (first | (with_reducible first | exact HB.out | apply below_alloc | apply bN | apply bD | refine bS ?_ GE719.out) | exact HB.out)) hb); clear HO_1; clear HO_5; clear HO_7; clear HO_9; clear BK719; clear HB; have HO_1 := n0_; have HO_5 := n1_; have HO_7 := n2_; have HO_9 := n3_; have BK719 := n4_; have HB := n5_; clear n0_ n1_ n2_ n3_ n4_ n5_; (try clear hb); (try clear hb2); (try clear hk); (try clear hi)))
     go_ret
     exact ⟨by first | rfl | (simp [errW_none, errW_some] <;> rfl) | (simp [*, errW_none, errW_some] <;> rfl), by repeat (first | (with_reducible first | exact HB.out | apply below_alloc | apply bN | apply bD | refine bS ?_ GE719.out) | exact HB.out)⟩
section
open Go.Joins Go.ChangeShapes Go.WideShapes Go.Deep
section
variable {H : Type} {enc : TypeId × Value → H} {W : World} {base : Nat} {spare : Nat → Bool} {held : Bool}
theorem list4 {α : Type} : ∀ xs : List α, xs.length = 4 → ∃ a b c d, xs = [a, b, c, d]
  | [a, b, c, d], _ => ⟨a, b, c, d, rfl⟩
theorem open_line {fuel : Nat} {cs : List Value} {x : DataW H × List MemPlace} (h : DataW.trod enc Try.prog W base spare held fuel 37 cs = some x) : ∃ l : S37, cs = [.int .i64 l.f0, .int .i64 l.f1, .int .i64 l.f2, .int .i64 l.f3] := by
  obtain ⟨xs, n, _, _, hlen, hxl, hf⟩ := DataW.trod_struct Try.underlying37 h
  have hc37 : Try.prog.cellsOf 37 = 4 := by kernel_rfl
  have hc3 : Try.prog.cellsOf 3 = 1 := by kernel_rfl
  have hc2 : Try.prog.cellsOf 2 = 1 := by kernel_rfl
  rw [hc37] at hlen
  have h0 : DataW.trod enc Try.prog W base spare held n 3 ((cs.drop 0).take (Try.prog.cellsOf 3)) = xs[0]? := hf 0 _ rfl
  have h1 : DataW.trod enc Try.prog W base spare held n 3 ((cs.drop 1).take (Try.prog.cellsOf 3)) = xs[1]? := hf 1 _ rfl
  have h2 : DataW.trod enc Try.prog W base spare held n 2 ((cs.drop 2).take (Try.prog.cellsOf 2)) = xs[2]? := hf 2 _ rfl
  have h3 : DataW.trod enc Try.prog W base spare held n 2 ((cs.drop 3).take (Try.prog.cellsOf 2)) = xs[3]? := hf 3 _ rfl
  rw [hc3] at h0 h1
  rw [hc2] at h2 h3
  have hx4 : xs.length = 4 := hxl
  obtain ⟨x0, x1, x2, x3, rfl⟩ := list4 xs hx4
  obtain ⟨a, b, c, d, rfl⟩ := list4 cs hlen
  obtain ⟨n0, e0, _, _⟩ := DataW.trod_int Try.underlying3 h0
  obtain ⟨n1, e1, _, _⟩ := DataW.trod_int Try.underlying3 h1
  obtain ⟨n2, e2, _, _⟩ := DataW.trod_int Try.underlying2 h2
  obtain ⟨n3, e3, _, _⟩ := DataW.trod_int Try.underlying2 h3
  cases e0; cases e1; cases e2; cases e3
  exact ⟨⟨n0, n1, n2, n3⟩, rfl⟩
theorem open_lines {fuel : Nat} {v : Value} {x : DataW H × List MemPlace} (h : DataW.trod enc Try.prog W base spare held fuel 22 [v] = some x) : ∃ (A : Option Addr) (c : Nat) (L : List S37), v = .slice A L.length c ∧ L.length ≤ c ∧ Kd.C k37 W A L.length L := by
  have hc37 : Try.prog.cellsOf 37 = 4 := by kernel_rfl
  rcases open_slice Try.underlying22 h with ⟨hcs, _⟩ | ⟨a, len, cap, m, n, D, Pl, hcs, _, hl, hm, hmm, _, hi⟩
  · cases hcs
    exact ⟨none, 0, [], rfl, Nat.le_refl _, Kd.C_nil _ _⟩
  · cases hcs
    have hlm : len ≤ m := by rw [hmm]; split <;> omega
    have hline : ∀ i, i < len → ∃ l : S37, ∀ j u, ([.int .i64 l.f0, .int .i64 l.f1, .int .i64 l.f2, .int .i64 l.f3] : List Value)[j]? = some u → W.cell? (a.add (i * 4 + j)) = some u := by
      intro i hil
      obtain ⟨cs', hc, ht⟩ := hi i (by omega)
      rw [hc37] at hc
      obtain ⟨l, hl4⟩ := open_line ht
      obtain ⟨_, hcl, hat⟩ := World.cells?_some hc
      refine ⟨l, fun j u hj => ?_⟩
      rw [hl4] at hcl hat
      have hj4 : j < 4 := by
        rcases Nat.lt_or_ge j 4 with h | h
        · exact h
        · rw [List.getElem?_eq_none (by simpa using h)] at hj; cases hj
      have e := hat j hj4
      rw [← Go.Deep.add_add, e, ← hj]
    have hinh : Inhabited S37 := ⟨z37⟩
    obtain ⟨f, hf⟩ := choose_lt hline
    have hll : ((List.range len).map f).length = len := by simp
    refine ⟨some a, cap, (List.range len).map f, by rw [hll], by rw [hll]; exact hl, ?_⟩
    refine ⟨rfl, by rw [hll]; have : maxLen ≤ 9223372036854775807 := by decide
                    omega, fun _ => ⟨a, rfl, fun j p hj => ?_⟩⟩
    have hjl : j < len := by
      rcases Nat.lt_or_ge j len with h | h
      · exact h
      · rw [List.getElem?_eq_none (by simpa using h)] at hj; cases hj
    rw [List.getElem?_map, List.getElem?_range hjl] at hj
    cases hj
    exact ⟨_, rfl, k37_mk _ _, hf j hjl⟩
set_option maxRecDepth 100000 in
theorem open_net {r : Reach} {b0 : Nat} {v : Value} {d : DataW H} {p : List MemPlace} (hv : Value.okWide Try.prog W r b0 24 v) (h : DataW.Trod enc Try.prog W base spare held 24 v d p) : ∃ (b : Int) (A : Option Addr) (c : Nat) (L : List S37), v = .agg #[.int .i64 b, .slice A L.length c] ∧ L.length ≤ c ∧ Kd.C k37 W A L.length L ∧ (Lit.int .i64 b).wf = true := by
  obtain ⟨v0, v1, y0, y1, n, rfl, _, _, h0, h1⟩ := open_agg2 Try.underlying24 (by kernel_rfl) (by kernel_rfl) hv h
  obtain ⟨b, e0, _, hw⟩ := DataW.trod_int Try.underlying3 h0
  cases e0
  obtain ⟨A, c, L, rfl, hc, hC⟩ := open_lines h1
  exact ⟨b, A, c, L, rfl, hc, hC, hw⟩
end
section
variable {H : Type} {enc : TypeId × Value → H} {W : World} {base : Nat} {spare : Nat → Bool} {held : Bool}
set_option maxRecDepth 100000 in
theorem open_intl {r : Reach} {b0 : Nat} {v : Value} {d : DataW H} {p : List MemPlace} (hv : Value.okWide Try.prog W r b0 25 v) (h : DataW.Trod enc Try.prog W base spare held 25 v d p) : ∃ (A : Option Addr) (c : Nat) (l : List Int), v = .slice A l.length c ∧ l.length ≤ c ∧ Kd.C (Kd.int .i64) W A l.length l := by
  have hc3 : Try.prog.cellsOf 3 = 1 := by kernel_rfl
  obtain ⟨A0, n0, c0, rfl⟩ := okWide_slice Try.underlying25 hv
  obtain ⟨fuel, hf⟩ := h
  have hf' : DataW.trod enc Try.prog W base spare held fuel 25 [.slice A0 n0 c0] = some (d, p) := hf
  rcases open_slice Try.underlying25 hf' with ⟨hcs, _⟩ | ⟨a, len, cap, m, n, D, Pl, hcs, _, hl, hm, hmm, _, hi⟩
  · cases hcs
    exact ⟨none, 0, [], rfl, Nat.le_refl _, Kd.C_nil _ _⟩
  · cases hcs
    have hlm : n0 ≤ m := by rw [hmm]; split <;> omega
    have hint : ∀ i, i < n0 → ∃ x : Int, W.cell? (a.add i) = some (.int .i64 x) := by
      intro i hil
      obtain ⟨cs', hc, ht⟩ := hi i (by omega)
      rw [hc3] at hc
      obtain ⟨x, hx, _, _⟩ := DataW.trod_int Try.underlying3 ht
      obtain ⟨_, hcl, hat⟩ := World.cells?_some hc
      refine ⟨x, ?_⟩
      have e := hat 0 (by omega)
      rw [hx, Go.Deep.add_add, Nat.mul_one, Nat.add_zero] at e
      exact e
    have hinh : Inhabited Int := ⟨0⟩
    obtain ⟨f, hf2⟩ := choose_lt hint
    have hll : ((List.range n0).map f).length = n0 := by simp
    refine ⟨some a, c0, (List.range n0).map f, by rw [hll], by rw [hll]; exact hl, ?_⟩
    refine Kd.C_of_reads (d := (0 : Int)) ⟨rfl, by rw [hll]; have : maxLen ≤ 9223372036854775807 := by decide
                                                   omega, fun _ => ⟨a, rfl, fun j hj => ?_⟩⟩
    rw [hll] at hj
    rw [hf2 j hj, List.getD_eq_getElem?_getD, List.getElem?_map, List.getElem?_range hj]
    rfl
end
end
section
set_option maxRecDepth 100000
set_option linter.unusedSimpArgs false
def headNums : List Nat := [104, 97, 114, 110, 101, 115, 115, 32, 48, 97, 48, 51, 98, 100, 102, 102, 48, 48, 50, 49, 101, 101, 102, 100, 56, 56, 55, 53, 98, 57, 51, 50, 53, 53, 99, 99, 57, 52, 54, 102, 98, 55, 48, 51, 52, 97, 52, 55, 55, 98, 54, 50, 97, 57, 101, 56, 52, 54, 98, 98, 100, 51, 53, 48, 57, 102, 98, 56, 53, 101, 98, 101, 32, 99, 117, 116, 32, 97, 116, 32, 112, 121, 108, 111, 110, 47, 112, 121, 108, 111, 110, 108, 97, 119, 49, 53, 46, 73, 115, 108, 97, 110, 100, 67, 111, 110, 110, 101, 99, 116, 101, 100, 32, 112, 121, 108, 111, 110, 47, 112, 121, 108, 111, 110, 108, 97, 119, 49, 53, 46, 73, 115, 108, 97, 110, 100, 82, 101, 118, 101, 114, 115, 101, 32, 112, 121, 108, 111, 110, 47, 112, 121, 108, 111, 110, 108, 97, 119, 49, 53, 46, 73, 115, 108, 97, 110, 100, 76, 97, 98, 101, 108, 108, 105, 110, 103, 32, 112, 121, 108, 111, 110, 47, 112, 121, 108, 111, 110, 108, 97, 119, 49, 53, 46, 73, 115, 108, 97, 110, 100, 77, 97, 116, 99, 104, 101, 115, 32, 112, 121, 108, 111, 110, 47, 112, 121, 108, 111, 110, 108, 97, 119, 49, 53, 46, 73, 115, 108, 97, 110, 100, 78, 117, 109, 98, 101, 114, 105, 110, 103, 32, 112, 121, 108, 111, 110, 47, 112, 121, 108, 111, 110, 108, 97, 119, 49, 53, 46, 73, 115, 108, 97, 110, 100, 80, 114, 101, 100, 105, 99, 97, 116, 101, 115, 77, 97, 116, 99, 104, 32, 112, 121, 108, 111, 110, 47, 112, 121, 108, 111, 110, 108, 97, 119, 49, 53, 46, 73, 115, 108, 97, 110, 100, 79, 117, 116, 97, 103, 101, 32, 112, 121, 108, 111, 110, 47, 112, 121, 108, 111, 110, 108, 97, 119, 49, 53, 46, 73, 115, 108, 97, 110, 100, 69, 120, 97, 109, 112, 108, 101, 115, 32, 112, 121, 108, 111, 110, 47, 112, 121, 108, 111, 110, 108, 97, 119, 49, 54, 46, 84, 114, 101, 101, 77, 97, 116, 99, 104, 101, 115, 32, 112, 121, 108, 111, 110, 47, 112, 121, 108, 111, 110, 108, 97, 119, 49, 54, 46, 84, 114, 101, 101, 66, 114, 105, 100, 103, 101, 115, 32, 112, 121, 108, 111, 110, 47, 112, 121, 108, 111, 110, 108, 97, 119, 49, 54, 46, 84, 114, 101, 101, 80, 97, 116, 104, 77, 97, 116, 99, 104, 101, 115, 32, 112, 121, 108, 111, 110, 47, 112, 121, 108, 111, 110, 108, 97, 119, 49, 54, 46, 84, 114, 101, 101, 69, 120, 97, 109, 112, 108, 101, 115, 32, 112, 121, 108, 111, 110, 47, 112, 121, 108, 111, 110, 108, 97, 119, 49, 54, 46, 84, 114, 101, 101, 71, 114, 101, 101, 100, 121, 32, 112, 121, 108, 111, 110, 47, 112, 121, 108, 111, 110, 108, 97, 119, 49, 54, 46, 84, 114, 101, 101, 66, 97, 108, 97, 110, 99, 101, 32, 112, 121, 108, 111, 110, 47, 112, 121, 108, 111, 110, 108, 97, 119, 49, 54, 46, 84, 114, 101, 101, 67, 121, 99, 108, 101, 115, 32, 112, 121, 108, 111, 110, 47, 112, 121, 108, 111, 110, 108, 97, 119, 49, 54, 46, 84, 114, 101, 101, 83, 112, 97, 110, 110, 105, 110, 103, 32, 112, 121, 108, 111, 110, 47, 112, 121, 108, 111, 110, 108, 97, 119, 49, 52, 46, 78, 101, 116, 77, 97, 116, 99, 104, 101, 115, 32, 112, 121, 108, 111, 110, 47, 112, 121, 108, 111, 110, 108, 97, 119, 49, 52, 46, 78, 101, 116, 85, 110, 105, 111, 110, 77, 97, 116, 99, 104, 101, 115, 32, 112, 121, 108, 111, 110, 47, 112, 121, 108, 111, 110, 108, 97, 119, 49, 52, 46, 78, 101, 116, 80, 97, 114, 116, 105, 116, 105, 111, 110, 32, 112, 121, 108, 111, 110, 47, 112, 121, 108, 111, 110, 108, 97, 119, 49, 52, 46, 78, 101, 116, 69, 110, 100, 112, 111, 105, 110, 116, 115, 32, 112, 121, 108, 111, 110, 47, 112, 121, 108, 111, 110, 108, 97, 119, 49, 52, 46, 78, 101, 116, 85, 110, 105, 111, 110, 32, 112, 121, 108, 111, 110, 47, 112, 121, 108, 111, 110, 108, 97, 119, 49, 52, 46, 78, 101, 116, 69, 120, 97, 109, 112, 108, 101, 115, 32, 112, 121, 108, 111, 110, 47, 112, 121, 108, 111, 110, 108, 97, 119, 49, 52, 46, 78, 101, 116, 83, 116, 114, 105, 112, 32, 112, 121, 108, 111, 110, 47, 112, 121, 108, 111, 110, 108, 97, 119, 49, 52, 46, 78, 101, 116, 66, 117, 105, 108, 100, 77, 97, 116, 99, 104, 101, 115, 32, 112, 121, 108, 111, 110, 47, 112, 121, 108, 111, 110, 108, 97, 119, 49, 52, 46, 78, 101, 116, 82, 101, 118, 101, 114, 115, 101]
theorem headOf : Try.prog.initOrder = String.ofList (headNums.map Char.ofNat) := by kernel_rfl
theorem headList : Try.prog.initOrder.toList = headNums.map Char.ofNat := by rw [headOf, String.toList_ofList]
def headTail : List (List Nat) := [[97, 116], [112, 121, 108, 111, 110, 47, 112, 121, 108, 111, 110, 108, 97, 119, 49, 53, 46, 73, 115, 108, 97, 110, 100, 67, 111, 110, 110, 101, 99, 116, 101, 100], [112, 121, 108, 111, 110, 47, 112, 121, 108, 111, 110, 108, 97, 119, 49, 53, 46, 73, 115, 108, 97, 110, 100, 82, 101, 118, 101, 114, 115, 101], [112, 121, 108, 111, 110, 47, 112, 121, 108, 111, 110, 108, 97, 119, 49, 53, 46, 73, 115, 108, 97, 110, 100, 76, 97, 98, 101, 108, 108, 105, 110, 103], [112, 121, 108, 111, 110, 47, 112, 121, 108, 111, 110, 108, 97, 119, 49, 53, 46, 73, 115, 108, 97, 110, 100, 77, 97, 116, 99, 104, 101, 115], [112, 121, 108, 111, 110, 47, 112, 121, 108, 111, 110, 108, 97, 119, 49, 53, 46, 73, 115, 108, 97, 110, 100, 78, 117, 109, 98, 101, 114, 105, 110, 103], [112, 121, 108, 111, 110, 47, 112, 121, 108, 111, 110, 108, 97, 119, 49, 53, 46, 73, 115, 108, 97, 110, 100, 80, 114, 101, 100, 105, 99, 97, 116, 101, 115, 77, 97, 116, 99, 104], [112, 121, 108, 111, 110, 47, 112, 121, 108, 111, 110, 108, 97, 119, 49, 53, 46, 73, 115, 108, 97, 110, 100, 79, 117, 116, 97, 103, 101], [112, 121, 108, 111, 110, 47, 112, 121, 108, 111, 110, 108, 97, 119, 49, 53, 46, 73, 115, 108, 97, 110, 100, 69, 120, 97, 109, 112, 108, 101, 115], [112, 121, 108, 111, 110, 47, 112, 121, 108, 111, 110, 108, 97, 119, 49, 54, 46, 84, 114, 101, 101, 77, 97, 116, 99, 104, 101, 115], [112, 121, 108, 111, 110, 47, 112, 121, 108, 111, 110, 108, 97, 119, 49, 54, 46, 84, 114, 101, 101, 66, 114, 105, 100, 103, 101, 115], [112, 121, 108, 111, 110, 47, 112, 121, 108, 111, 110, 108, 97, 119, 49, 54, 46, 84, 114, 101, 101, 80, 97, 116, 104, 77, 97, 116, 99, 104, 101, 115], [112, 121, 108, 111, 110, 47, 112, 121, 108, 111, 110, 108, 97, 119, 49, 54, 46, 84, 114, 101, 101, 69, 120, 97, 109, 112, 108, 101, 115], [112, 121, 108, 111, 110, 47, 112, 121, 108, 111, 110, 108, 97, 119, 49, 54, 46, 84, 114, 101, 101, 71, 114, 101, 101, 100, 121], [112, 121, 108, 111, 110, 47, 112, 121, 108, 111, 110, 108, 97, 119, 49, 54, 46, 84, 114, 101, 101, 66, 97, 108, 97, 110, 99, 101], [112, 121, 108, 111, 110, 47, 112, 121, 108, 111, 110, 108, 97, 119, 49, 54, 46, 84, 114, 101, 101, 67, 121, 99, 108, 101, 115], [112, 121, 108, 111, 110, 47, 112, 121, 108, 111, 110, 108, 97, 119, 49, 54, 46, 84, 114, 101, 101, 83, 112, 97, 110, 110, 105, 110, 103], [112, 121, 108, 111, 110, 47, 112, 121, 108, 111, 110, 108, 97, 119, 49, 52, 46, 78, 101, 116, 77, 97, 116, 99, 104, 101, 115], [112, 121, 108, 111, 110, 47, 112, 121, 108, 111, 110, 108, 97, 119, 49, 52, 46, 78, 101, 116, 85, 110, 105, 111, 110, 77, 97, 116, 99, 104, 101, 115], [112, 121, 108, 111, 110, 47, 112, 121, 108, 111, 110, 108, 97, 119, 49, 52, 46, 78, 101, 116, 80, 97, 114, 116, 105, 116, 105, 111, 110], [112, 121, 108, 111, 110, 47, 112, 121, 108, 111, 110, 108, 97, 119, 49, 52, 46, 78, 101, 116, 69, 110, 100, 112, 111, 105, 110, 116, 115], [112, 121, 108, 111, 110, 47, 112, 121, 108, 111, 110, 108, 97, 119, 49, 52, 46, 78, 101, 116, 85, 110, 105, 111, 110], [112, 121, 108, 111, 110, 47, 112, 121, 108, 111, 110, 108, 97, 119, 49, 52, 46, 78, 101, 116, 69, 120, 97, 109, 112, 108, 101, 115], [112, 121, 108, 111, 110, 47, 112, 121, 108, 111, 110, 108, 97, 119, 49, 52, 46, 78, 101, 116, 83, 116, 114, 105, 112], [112, 121, 108, 111, 110, 47, 112, 121, 108, 111, 110, 108, 97, 119, 49, 52, 46, 78, 101, 116, 66, 117, 105, 108, 100, 77, 97, 116, 99, 104, 101, 115], [112, 121, 108, 111, 110, 47, 112, 121, 108, 111, 110, 108, 97, 119, 49, 52, 46, 78, 101, 116, 82, 101, 118, 101, 114, 115, 101]]
def headRest : List (List Char) := headTail.map (fun l => l.map Char.ofNat)
theorem headBehind : behindMainWord (wordsSigns Try.prog.initOrder.toList) = "cut".toList :: headRest := by rw [headList]; kernel_rfl
theorem eCutGc : ("cut".toList == "gc".toList) = false := by kernel_rfl
theorem eCutSpec : ("cut".toList == "spec".toList) = false := by kernel_rfl
theorem eCutCarried : ("cut".toList == "carried".toList) = false := by kernel_rfl
theorem eCutCut : ("cut".toList == "cut".toList) = true := by kernel_rfl
theorem headStrip : stripLifts liftWords ("cut".toList :: headRest) = ([], "cut".toList :: headRest) := by kernel_rfl
theorem headLiftsNil : Try.prog.headLifts = [] := by unfold Program.headLifts; rw [headBehind, headStrip]; kernel_rfl
theorem headFinal : Try.prog.liftsFinal = false := by unfold Program.liftsFinal; rw [headLiftsNil, headBehind]; kernel_rfl
theorem headMake0 (P : Program) (c : List Char) (r : List (List Char)) (h : behindMainWord (wordsSigns P.initOrder.toList) = c :: r) (h1 : (c == "gc".toList) = false) (h2 : (c == "spec".toList) = false) (h3 : (c == "cut".toList) = true) : P.make = some .cut := by
  unfold Program.make
  rw [h]
  simp only [h1, h2, h3, Bool.or_self, Bool.true_or, if_true, Bool.false_eq_true, if_false]
theorem headMake : Try.prog.make = some .cut := headMake0 _ _ _ headBehind eCutGc eCutSpec eCutCut
theorem headEnter0 (P : Program) (c : List Char) (r : List (List Char)) (h : behindMainWord (wordsSigns P.initOrder.toList) = c :: r) (h1 : (c == "gc".toList) = false) (h2 : (c == "spec".toList) = false) (h3 : (c == "carried".toList) = false) (h4 : stripLifts liftWords (c :: r) = ([], c :: r)) (h5 : (some c == some "cut".toList) = true) (h6 : P.laysLater = false) (h7 : P.bearsReflect = false) (h8 : P.doorFits [] = true) : P.mayEnter = true := by
  unfold Program.mayEnter
  rw [h]
  simp only [h1, h2, h3, h4, h6, h7, h8, h5, Bool.or_self, Bool.true_or, Bool.false_and, Bool.and_true, List.head?_cons, Bool.not_false, Bool.or_true, List.contains_nil, beq_self_eq_true, Bool.false_or, Bool.not_true, Bool.and_self]
theorem headEnter : Try.prog.mayEnter = true := headEnter0 _ _ _ headBehind eCutGc eCutSpec eCutCarried headStrip (by kernel_rfl) (by kernel_rfl) (by kernel_rfl) (by kernel_rfl)
end
end Go.Proofs.Ytdpgdelimffjpaa.P
namespace Go.Proofs
open Go.Shelf
def Try.laysSort_ren : Go.Shelf.Ren := ⟨fun | 189 => 93 | 125 => 115 | 257 => 114 | 128 => 131 | 129 => 132 | 294 => 123 | 295 => 124 | 296 => 125 | 297 => 126 | 298 => 127 | 299 => 128 | 216 => 121 | 300 => 129 | 301 => 130 | 328 => 134 | 329 => 135 | 330 => 136 | 331 => 137 | 332 => 138 | 215 => 133 | 343 => 139 | n => n, fun | 28 => 25 | 3 => 3 | 46 => 113 | 0 => 0 | 51 => 125 | 53 => 127 | 4 => 4 | 183 => 119 | 182 => 118 | 131 => 107 | 5 => 5 | 9 => 9 | 218 => 128 | 222 => 132 | 228 => 134 | 229 => 135 | n => n, fun | n => n⟩
def Try.laysCompact_ren : Go.Shelf.Ren := ⟨fun | 20 => 94 | n => n, fun | 22 => 25 | 3 => 3 | 4 => 4 | 0 => 0 | n => n, fun | n => n⟩
end Go.Proofs
namespace Go.Proofs.Ytdpgdelimffjpaa.P
open Go.RowKit Go.Proofs.YtdpgdelimffjpaaW.PrintWords Go.Proofs.YtdpgdelimffjpaaW.PrintLast Go.Proofs.YtdpgdelimffjpaaW.PrintMore
attribute [local go_sem] max2_int min2_int max_two min_two max_three min_three max_four min_four
set_option linter.unusedVariables false
set_option linter.unusedSimpArgs false
section
def uni (a b : List Int) : List Int := Lib.compact ((a ++ b).mergeSort fun x y => decide (x ≤ y))
theorem inc_ext : ∀ {a b : List Int}, a.Pairwise (· < ·) → b.Pairwise (· < ·) → (∀ x, x ∈ a ↔ x ∈ b) → a = b
  | [], [], _, _, _ => rfl
  | [], y :: b, _, _, h => absurd ((h y).2 (List.mem_cons_self ..)) List.not_mem_nil
  | x :: a, [], _, _, h => absurd ((h x).1 (List.mem_cons_self ..)) List.not_mem_nil
  | x :: a, y :: b, ha, hb, h => by
    have ha' := List.pairwise_cons.1 ha
    have hb' := List.pairwise_cons.1 hb
    have hxy : x = y := by
      rcases List.mem_cons.1 ((h x).1 (List.mem_cons_self ..)) with e | h1
      · exact e
      · rcases List.mem_cons.1 ((h y).2 (List.mem_cons_self ..)) with e | h2
        · exact e.symm
        · have := hb'.1 x h1; have := ha'.1 y h2; omega
    subst hxy
    rw [inc_ext ha'.2 hb'.2 fun z => ?_]
    constructor
    · intro hz
      rcases List.mem_cons.1 ((h z).1 (List.mem_cons_of_mem _ hz)) with e | h1
      · have := ha'.1 z hz; omega
      · exact h1
    · intro hz
      rcases List.mem_cons.1 ((h z).2 (List.mem_cons_of_mem _ hz)) with e | h1
      · have := hb'.1 z hz; omega
      · exact h1
theorem rises_iff {last : Int} : ∀ {l : List Int}, risesFrom last l = true ↔ (∀ x ∈ l, last < x) ∧ l.Pairwise (· < ·)
  | [] => by simp [risesFrom]
  | x :: xs => by
    simp only [risesFrom, Bool.and_eq_true, decide_eq_true_eq]
    rw [rises_iff (l := xs), List.pairwise_cons]
    constructor
    · rintro ⟨h1, h2, h3⟩
      refine ⟨fun y hy => ?_, h2, h3⟩
      rcases List.mem_cons.1 hy with rfl | hy
      · exact h1
      · have := h2 y hy; omega
    · rintro ⟨h1, h2, h3⟩
      exact ⟨h1 x (List.mem_cons_self ..), h2, h3⟩
end
section
open Go.Sort Go.Shelf
end
end Go.Proofs.Ytdpgdelimffjpaa.P
namespace Go.Proofs.Ytdpgdelimffjpaa.P
open Go.RowKit Go.Proofs.YtdpgdelimffjpaaW.PrintWords Go.Proofs.YtdpgdelimffjpaaW.PrintLast Go.Proofs.YtdpgdelimffjpaaW.PrintMore
attribute [local go_sem] max2_int min2_int max_two min_two max_three min_three max_four min_four
set_option linter.unusedVariables false
set_option linter.unusedSimpArgs false
def nUnion.f (l0 : List Int) (l1 : List Int) : Option (List Int × Int) :=
 if l0.length ≤ 1000000 ∧ l1.length ≤ 1000000 then (if risesFrom (-1) l0 = true then (if risesFrom (-1) l1 = true then some (uni l0 l1, 0) else some ([], 1)) else some ([], 1)) else none
section
def iRefs.l0 : Nat → List Int → Int → List Int → Int → Int → Option (List Int × Int)
 | 0, _, _, _, _, _ => none
 | k + 1, x4, x5, x15, x16, x17 => if x17 < x16 then (if 0 ≤ x17 then (if x17 < (x15.length : Int) then (if x17 = (rd x15 x17) then (if x4.length < 17592186044416 then (iRefs.l0 k (x4 ++ [x17]) x5 x15 x16 (wrap64 (x17 + 1))) else (none)) else (iRefs.l0 k x4 x5 x15 x16 (wrap64 (x17 + 1)))) else (none)) else (none)) else (some (x4, x5))
def iRefs.f (k : Nat) (a0_0 : Int) (l0_1 : List (S37)) (l1 : List Int) : Option (List Int × Int) := (istands.f a0_0 l0_1 l1).bind fun bt117 => (iRefs.l0 k ([] : List Int) bt117.2 bt117.1 (bt117.1.length : Int) 0)
end
section
def iOf.l0 : Nat → List Int → Int → List Int → List Int → Int → Int → Option (List Int × Int)
 | 0, _, _, _, _, _, _ => none
 | k + 1, x4, x5, x7, x23, x24, x25 => if x25 < x24 then (if 0 ≤ x25 then (if x25 < (x23.length : Int) then ((sIndex.f k x7 (rd x23 x25)).bind fun t136 => (if x4.length < 17592186044416 then (iOf.l0 k (x4 ++ [t136]) x5 x7 x23 x24 (wrap64 (x25 + 1))) else (none))) else (none)) else (none)) else (some (x4, x5))
def iOf.f (k : Nat) (a0_0 : Int) (l0_1 : List (S37)) (l1 : List Int) : Option (List Int × Int) := (istands.f a0_0 l0_1 l1).bind fun bt127 => ((iRefs.f k a0_0 l0_1 l1).bind fun bt131 => (iOf.l0 k ([] : List Int) bt127.2 bt131.1 bt127.1 (bt127.1.length : Int) 0))
end
section
def iCount.f (k : Nat) (a0_0 : Int) (l0_1 : List (S37)) (l1 : List Int) : Option (Int × Int) := (iRefs.f k a0_0 l0_1 l1).bind fun bt317 => (some ((bt317.1.length : Int), bt317.2))
end
def Ev {α : Type} (F : Nat → Option α) (v : α) : Prop := ∃ K, ∀ k, K ≤ k → F k = some v
theorem Ev.some_ {α : Type} (v : α) : Ev (fun _ => some v) v := ⟨0, fun _ _ => rfl⟩
theorem Ev.bind {α β : Type} {F : Nat → Option α} {G : Nat → α → Option β} {a : α} {b : β} (h : Ev F a) (h2 : Ev (fun k => G k a) b) : Ev (fun k => (F k).bind (G k)) b := by
  obtain ⟨K, hK⟩ := h
  obtain ⟨L, hL⟩ := h2
  exact ⟨max K L, fun k hk => by show (F k).bind (G k) = some b; rw [hK k (by omega), Option.bind_some]; exact hL k (by omega)⟩
theorem Ev.succ {α : Type} {F G : Nat → Option α} {v : α} (hs : ∀ k, F (k + 1) = G k) (h : Ev G v) : Ev F v := by
  obtain ⟨K, hK⟩ := h
  exact ⟨K + 1, fun k hk => by obtain ⟨j, rfl⟩ : ∃ j, k = j + 1 := ⟨k - 1, by omega⟩
                               rw [hs]; exact hK j (by omega)⟩
theorem Ev.eq {α : Type} {F G : Nat → Option α} {v : α} (hs : ∀ k, F k = G k) (h : Ev G v) : Ev F v := by
  obtain ⟨K, hK⟩ := h
  exact ⟨K, fun k hk => by rw [hs]; exact hK k hk⟩
theorem Ev.tell {α : Type} {F : Nat → Option α} {v : α} (h : Ev F v) : ∃ k, F k = some v := by
  obtain ⟨K, hK⟩ := h
  exact ⟨K, hK K (Nat.le_refl _)⟩
theorem Ev.loop {σ α : Type} {F : Nat → σ → Nat → Option α} {v : α} (N : Nat) (I : Nat → σ → Prop) (hstep : ∀ i s, i < N → I i s → (∃ s', I (i + 1) s' ∧ (Ev (fun k => F k s' (i + 1)) v → Ev (fun k => F k s i) v)) ∨ Ev (fun k => F k s i) v) (hend : ∀ s, I N s → Ev (fun k => F k s N) v) : ∀ i s, i ≤ N → I i s → Ev (fun k => F k s i) v := by
  have key : ∀ m i s, i + m = N → I i s → Ev (fun k => F k s i) v := by
    intro m
    induction m with
    | zero => intro i s hi hI; have : i = N := by omega
              subst this; exact hend s hI
    | succ m ih =>
      intro i s hi hI
      rcases hstep i s (by omega) hI with ⟨s', hI', hgo⟩ | hdone
      · exact hgo (ih (i + 1) s' (by omega) hI')
      · exact hdone
  intro i s hi hI
  exact key (N - i) i s (by omega) hI
theorem long_f (b : Int) (L : List S37) (ls : List (List Int)) (hs : ls.length ≤ 1000) : ∃ r, Ev (fun k => ql14Long.f k b L ls) r ∧ (r = false → L.length ≤ 100 ∧ ∀ l ∈ ls, l.length ≤ 100) := by
  have key : ∀ m i, i + m = ls.length → ∃ r, Ev (fun k => ql14Long.l0 k ls (i : Int) b L) r ∧ (r = false → L.length ≤ 100 ∧ ∀ l ∈ ls.drop i, l.length ≤ 100) := by
    intro m
    induction m with
    | zero =>
      intro i hi
      refine ⟨decide ((L.length : Int) > 100), Ev.succ (G := fun _ => some (decide ((L.length : Int) > 100))) (fun k => ?_) (Ev.some_ _), fun h => ?_⟩
      · rw [ql14Long.l0, if_neg (by omega)]
      · have := of_decide_eq_false h
        refine ⟨by omega, fun l hl => ?_⟩
        rw [List.drop_eq_nil_of_le (by omega)] at hl
        cases hl
    | succ m ih =>
      intro i hi
      obtain ⟨r, hr, hx⟩ := ih (i + 1) (by omega)
      have hil : i < ls.length := by omega
      have hrd : rd_L1 ls (i : Int) = ls[i] := by simp [rd_L1, List.getD_eq_getElem?_getD, hil]
      by_cases hlong : ((ls[i].length : Int) > 100)
      · refine ⟨true, Ev.succ (G := fun _ => some true) (fun k => ?_) (Ev.some_ _), fun h => by cases h⟩
        rw [ql14Long.l0, if_pos (by omega), if_pos (by omega), hrd, if_pos hlong]
      · refine ⟨r, Ev.succ (G := fun k => ql14Long.l0 k ls ((i + 1 : Nat) : Int) b L) (fun k => ?_) hr, fun h => ⟨(hx h).1, fun l hl => ?_⟩⟩
        · rw [ql14Long.l0, if_pos (by omega), if_pos (by omega), hrd, if_neg hlong, wrap_small (by omega) (by omega)]; rfl
        · rw [List.drop_eq_getElem_cons hil] at hl
          rcases List.mem_cons.1 hl with rfl | hl
          · omega
          · exact (hx h).2 l hl
  obtain ⟨r, hr, hx⟩ := key ls.length 0 (by omega)
  exact ⟨r, hr, fun h => by simpa using hx h⟩
def idx (l : List Int) (x : Int) : Int := if x ∈ l then (l.idxOf x : Int) else -1
theorem index_f (l : List Int) (x : Int) (hl : l.length ≤ 1000) : Ev (fun k => sIndex.f k l x) (idx l x) := by
  have key : ∀ m i, i + m = l.length → (∀ j (hj : j < l.length), j < i → l[j] ≠ x) → Ev (fun k => sIndex.l0 k l x (l.length : Int) (i : Int)) (idx l x) := by
    intro m
    induction m with
    | zero =>
      intro i hi hno
      refine Ev.succ (G := fun _ => some (idx l x)) (fun k => ?_) (Ev.some_ _)
      rw [sIndex.l0, if_neg (by omega), idx, if_neg]
      intro hm
      obtain ⟨j, hj, e⟩ := List.getElem_of_mem hm
      exact hno j hj (by omega) e
    | succ m ih =>
      intro i hi hno
      have hil : i < l.length := by omega
      by_cases he : x = l[i]
      · refine Ev.succ (G := fun _ => some (idx l x)) (fun k => ?_) (Ev.some_ _)
        have hm : x ∈ l := by rw [he]; exact List.getElem_mem _
        have hidx : l.idxOf x = i := by
          have h1 : l.idxOf x < l.length := List.idxOf_lt_length_iff.2 hm
          have h2 : l[l.idxOf x] = x := List.getElem_idxOf h1
          have h3 : ¬ l.idxOf x < i := fun h => hno _ h1 h h2
          have h4 : ¬ i < l.idxOf x := fun h => by
            have := List.not_of_lt_findIdx (p := (· == x)) (xs := l) (i := i) h
            simp at this
            exact this he.symm
          omega
        rw [sIndex.l0, if_pos (by omega), if_pos (by omega), if_pos (by omega), rd_nat l i hil, if_pos he, idx, if_pos hm, hidx]
      · refine Ev.succ (G := fun k => sIndex.l0 k l x (l.length : Int) ((i + 1 : Nat) : Int)) (fun k => ?_) (ih (i + 1) (by omega) (fun j hj hji => ?_))
        · rw [sIndex.l0, if_pos (by omega), if_pos (by omega), if_pos (by omega), rd_nat l i hil, if_neg he, wrap_small (by omega) (by omega)]; rfl
        · by_cases h : j = i
          · subst h; exact fun e => he e.symm
          · exact hno j hj (by omega)
  exact key l.length 0 (by omega) (fun j _ h => absurd h (Nat.not_lt_zero _))
def refsOf (f : Nat → Nat) (N : Nat) : List Int := ((List.range N).filter (fun b => f b == b)).map (fun (b : Nat) => (b : Int))
theorem refsOf_len (f : Nat → Nat) (N : Nat) : (refsOf f N).length ≤ N := by
  unfold refsOf
  rw [List.length_map]
  exact Nat.le_trans (List.length_filter_le _ _) (by rw [List.length_range]; exact Nat.le_refl _)
def labsOf (f : Nat → Nat) (N : Nat) : List Int := (List.range N).map (fun (b : Nat) => ((f b : Nat) : Int))
theorem labsOf_len (f : Nat → Nat) (N : Nat) : (labsOf f N).length = N := by simp [labsOf]
theorem rd_labsOf (f : Nat → Nat) (N : Nat) (b : Nat) (hb : b < N) : rd (labsOf f N) (b : Int) = ((f b : Nat) : Int) := by
  rw [rd_nat _ b (by rw [labsOf_len]; exact hb)]; simp [labsOf]
theorem refsOf_succ (f : Nat → Nat) (i : Nat) : refsOf f (i + 1) = if f i = i then refsOf f i ++ [(i : Int)] else refsOf f i := by
  unfold refsOf
  rw [List.range_succ, List.filter_append, List.map_append]
  by_cases h : f i = i
  · rw [if_pos h]; simp [h]
  · rw [if_neg h]; simp [h]
def isl (f : Nat → Nat) (N : Nat) (i : Nat) : Int := idx (refsOf f N) ((f i : Nat) : Int)
def islOf (f : Nat → Nat) (N n : Nat) : List Int := (List.range n).map (isl f N)
theorem stands_ok {b : Int} {L : List S37} {out : List Int} (h : outsV b L out = 0) : istands.f b L out = some (labsOf (lab (edges L out)) b.toNat, 0) := by
  rw [istands.f, if_pos h]; rfl
theorem outs_bus {b : Int} {L : List S37} {out : List Int} (h : outsV b L out = 0) : 1 ≤ b ∧ b ≤ 6 ∧ L.length ≤ 10 := by
  have := chk_ok (outsV_ok h).1
  exact ⟨this.1, this.2.1, this.2.2.1⟩
theorem isl_eq {f : Nat → Nat} (hf : Lb f) {N x y : Nat} (hx : x < N) (hy : y < N) : isl f N x = isl f N y ↔ f x = f y := by
  have hmem : ∀ z, z < N → ((f z : Nat) : Int) ∈ refsOf f N := by
    intro z hz
    unfold refsOf
    refine List.mem_map.2 ⟨f z, List.mem_filter.2 ⟨List.mem_range.2 (by have := (hf z).1; omega), ?_⟩, rfl⟩
    simpa using (hf z).2
  constructor
  · intro h
    unfold isl idx at h
    rw [if_pos (hmem x hx), if_pos (hmem y hy)] at h
    have hi : (refsOf f N).idxOf ((f x : Nat) : Int) = (refsOf f N).idxOf ((f y : Nat) : Int) := by omega
    have e1 := List.getElem_idxOf (List.idxOf_lt_length_iff.2 (hmem x hx))
    have e2 := List.getElem_idxOf (List.idxOf_lt_length_iff.2 (hmem y hy))
    have e3 : ((f x : Nat) : Int) = ((f y : Nat) : Int) := by
      rw [← e1, ← e2]
      congr 1
    omega
  · intro h
    unfold isl
    rw [h]
theorem ints_ev (a b : List Int) (ha : a.length ≤ 1000000) : Ev (fun k => qr14Ints.f k a b) (decide (a = b)) := by
  by_cases hl : a.length = b.length
  · have key : ∀ m i, i + m = a.length → (∀ j, j < i → rd a (j : Int) = rd b (j : Int)) → Ev (fun k => qr14Ints.l0 k a b (i : Int)) (decide (a = b)) := by
      intro m
      induction m with
      | zero =>
        intro i hi hh
        have e : a = b := by
          apply List.ext_getElem hl
          intro j h1 h2
          have := hh j (by omega)
          rwa [rd_nat _ j h1, rd_nat _ j h2] at this
        refine Ev.succ (G := fun _ => some (decide (a = b))) (fun k => ?_) (Ev.some_ _)
        rw [qr14Ints.l0, if_neg (by omega), decide_eq_true e]
      | succ m ih =>
        intro i hi hh
        by_cases he : rd a (i : Int) = rd b (i : Int)
        · refine Ev.succ (G := fun k => qr14Ints.l0 k a b ((i + 1 : Nat) : Int)) (fun k => ?_) (ih (i + 1) (by omega) (fun j hj => ?_))
          · rw [qr14Ints.l0, if_pos (by omega), if_pos (by omega), if_pos (by omega), if_pos he, wrap_small (by omega) (by omega)]; rfl
          · by_cases h : j = i
            · subst h; exact he
            · exact hh j (by omega)
        · have hne : ¬ a = b := fun e => he (by rw [e])
          refine Ev.succ (G := fun _ => some (decide (a = b))) (fun k => ?_) (Ev.some_ _)
          rw [qr14Ints.l0, if_pos (by omega), if_pos (by omega), if_pos (by omega), if_neg he, decide_eq_false hne]
    refine Ev.eq (fun k => ?_) (key a.length 0 (by omega) (fun j hj => absurd hj (Nat.not_lt_zero _)))
    rw [qr14Ints.f, if_pos (by omega)]; rfl
  · have hne : ¬ a = b := fun e => hl (by rw [e])
    refine Ev.eq (G := fun _ => some (decide (a = b))) (fun k => ?_) (Ev.some_ _)
    rw [qr14Ints.f, if_neg (by omega), decide_eq_false hne]
def inL (L : List S37) (out : List Int) : List Int := (inn L out).map (fun (k : Nat) => (k : Int))
theorem in_ok {b : Int} {L : List S37} {out : List Int} (h : outsV b L out = 0) : nIn.f b L out = some (inL L out, 0) := by
  rw [nIn.f, nStrip.f, if_pos h]; rfl
theorem in_bad {b : Int} {L : List S37} {out : List Int} (h : outsV b L out ≠ 0) : nIn.f b L out = some ([], outsV b L out) := by
  rw [nIn.f, nStrip.f, if_neg h]; rfl
theorem mem_inn {L : List S37} {out : List Int} {k : Nat} : k ∈ inn L out ↔ k < L.length ∧ (k : Int) ∉ out := by
  unfold inn; rw [List.mem_filter, List.mem_range]; simp
theorem inn_sorted (L : List S37) (out : List Int) : (inn L out).Pairwise (· < ·) := List.Pairwise.filter _ List.pairwise_lt_range
theorem cast_sorted {l : List Nat} (h : l.Pairwise (· < ·)) : (l.map (fun (k : Nat) => (k : Int))).Pairwise (· < ·) := by
  rw [List.pairwise_map]; exact h.imp (fun h => by omega)
theorem cast_rises {l : List Nat} (h : l.Pairwise (· < ·)) : risesFrom (-1) (l.map (fun (k : Nat) => (k : Int))) = true := by
  rw [rises_iff]
  refine ⟨fun x hx => ?_, cast_sorted h⟩
  obtain ⟨k, _, rfl⟩ := List.mem_map.1 hx
  omega
theorem inL_rises (L : List S37) (out : List Int) : risesFrom (-1) (inL L out) = true := cast_rises (inn_sorted L out)
theorem mem_inL {L : List S37} {out : List Int} {x : Int} : x ∈ inL L out ↔ 0 ≤ x ∧ x < (L.length : Int) ∧ x ∉ out := by
  unfold inL
  rw [List.mem_map]
  constructor
  · rintro ⟨k, hk, rfl⟩
    have := mem_inn.1 hk
    exact ⟨by omega, by omega, this.2⟩
  · rintro ⟨h1, h2, h3⟩
    refine ⟨x.toNat, mem_inn.2 ⟨by omega, ?_⟩, by omega⟩
    rwa [show ((x.toNat : Nat) : Int) = x by omega]
theorem inL_len (L : List S37) (out : List Int) : (inL L out).length = (inn L out).length := by simp [inL]
theorem inn_len (L : List S37) (out : List Int) : (inn L out).length ≤ L.length := by
  unfold inn
  have := List.length_filter_le (fun (k : Nat) => !out.contains (k : Int)) (List.range L.length)
  rwa [List.length_range] at this
theorem line_ok {b : Int} {L : List S37} (h : chk b L = 0) {k : Nat} (hk : k < L.length) : ∃ u v : Nat, (rd_T37 L (k : Int)).f0 = (u : Int) ∧ (rd_T37 L (k : Int)).f1 = (v : Int) ∧ (u : Int) < b ∧ (v : Int) < b ∧ u ≠ v ∧ enL L k = (u, v) := by
  have hl := (chk_ok h).2.2.2 L[k] (List.getElem_mem hk)
  have hr : rd_T37 L (k : Int) = L[k] := by simp [rd_T37, List.getD_eq_getElem?_getD, hk]
  unfold okLine at hl
  simp only [Bool.and_eq_true, decide_eq_true_eq, bne_iff_ne] at hl
  refine ⟨L[k].f0.toNat, L[k].f1.toNat, ?_, ?_, ?_, ?_, ?_, ?_⟩
  · rw [hr]; omega
  · rw [hr]; omega
  · omega
  · omega
  · omega
  · unfold enL; rw [hr]
theorem edges_en (L : List S37) (out : List Int) : edges L out = (inn L out).map (enL L) := rfl
theorem eqA37 (d : Nat) (w : World) (x0 y0 : Int) (x1 y1 : Int) (x2 y2 : Int) (x3 y3 : Int) :
  (Op.equalIn (d + 2) 37 (.agg #[.int .i64 x0, .int .i64 x1, .int .i64 x2, .int .i64 x3]) (.agg #[.int .i64 y0, .int .i64 y1, .int .i64 y2, .int .i64 y3])).run Try.prog w = .ok (x0 == y0 && (x1 == y1 && (x2 == y2 && (x3 == y3)))) w := by
 refine eqA_of Try.underlying37 (by kernel_rfl) ?_
 refine eqf_cons (by rfl) (by go_simp; rfl) (by go_simp; rfl) (by go_simp) ?_
 refine eqf_cons (by rfl) (by go_simp; rfl) (by go_simp; rfl) (by go_simp) ?_
 refine eqf_cons (by rfl) (by go_simp; rfl) (by go_simp; rfl) (by go_simp) ?_
 exact eqf_last (by rfl) (by go_simp; rfl) (by go_simp; rfl) (by go_simp)
section
attribute [local go_sem high] eqA37
def api_Line.l0 : Nat → List (S37) → List (S37) → Int → Int → Option (Bool)
 | 0, _, _, _, _ => none
 | k + 1, x0, x1, x12, x13 => if x13 < x12 then (if 0 ≤ x13 then (if x13 < (x0.length : Int) then (if x13 < (x1.length : Int) then (if (!(((rd_T37 x0 x13).f0) == ((rd_T37 x1 x13).f0)) || (!(((rd_T37 x0 x13).f1) == ((rd_T37 x1 x13).f1)) || (!(((rd_T37 x0 x13).f2) == ((rd_T37 x1 x13).f2)) || (!(((rd_T37 x0 x13).f3) == ((rd_T37 x1 x13).f3)))))) = true then (some false) else (api_Line.l0 k x0 x1 x12 (wrap64 (x13 + 1)))) else (none)) else (none)) else (none)) else (some true)
def api_Line.f (k : Nat) (l0 : List (S37)) (l1 : List (S37)) : Option (Bool) := if (l0.length : Int) = (l1.length : Int) then (api_Line.l0 k l0 l1 (l0.length : Int) 0) else (some false)
end
def nEqual.f (k : Nat) (a0_0 : Int) (l0_1 : List (S37)) (a1_0 : Int) (l1_1 : List (S37)) : Option (Bool) := if a0_0 = a1_0 then ((api_Line.f k l0_1 l1_1).bind fun t1506 => (some t1506)) else (some false)
theorem rd_T37_nat {L : List S37} {i : Nat} (h : i < L.length) : rd_T37 L (i : Int) = L[i] := by
  simp [rd_T37, List.getD_eq_getElem?_getD, h]
section
theorem Ev.upto {α : Type} {v : α} (N : Nat) (F : Nat → Nat → Option α) (hend : Ev (fun k => F k N) v) (hstep : ∀ i, i < N → Ev (fun k => F k (i + 1)) v → Ev (fun k => F k i) v) : Ev (fun k => F k 0) v := by
  have key : ∀ m i, i + m = N → Ev (fun k => F k i) v := by
    intro m
    induction m with
    | zero => intro i hi; have : i = N := by omega
              subst this; exact hend
    | succ m ih => intro i hi; exact hstep i (by omega) (ih (i + 1) (by omega))
  exact key N 0 (by omega)
theorem wrap_succ {i : Nat} (h : i < 9223372036854775807) : wrap64 ((i : Int) + 1) = ((i + 1 : Nat) : Int) := by rw [wrap_small (by omega) (by omega)]; rfl
theorem chk_line (b : Int) (l : S37) (X : Option Int) : (if l.f0 < 0 then (some 1) else (if l.f0 ≥ b then (some 1) else (if l.f1 < 0 then (some 1) else (if l.f1 ≥ b then (some 1) else (if l.f0 = l.f1 then (some 1) else (if l.f2 < 1 then (some 1) else (if l.f2 > 1000 then (some 1) else (if l.f3 < 0 then (some 1) else (if l.f3 > 1000000 then (some 1) else X))))))))) = if okLine b l = true then X else some 1 := by
  by_cases hok : okLine b l = true
  · have h := hok
    unfold okLine at h
    simp only [Bool.and_eq_true, decide_eq_true_eq, bne_iff_ne] at h
    obtain ⟨⟨⟨h1, h2⟩, h3⟩, h4⟩ := h
    rw [if_neg (by omega), if_neg (by omega), if_neg (by omega), if_neg (by omega), if_neg (by omega), if_neg (by omega), if_neg (by omega), if_neg (by omega), if_neg (by omega), if_pos hok]
  · rw [if_neg hok]
    by_cases c0 : l.f0 < 0
    · rw [if_pos c0]
    rw [if_neg c0]
    by_cases c1 : l.f0 ≥ b
    · rw [if_pos c1]
    rw [if_neg c1]
    by_cases c2 : l.f1 < 0
    · rw [if_pos c2]
    rw [if_neg c2]
    by_cases c3 : l.f1 ≥ b
    · rw [if_pos c3]
    rw [if_neg c3]
    by_cases c4 : l.f0 = l.f1
    · rw [if_pos c4]
    rw [if_neg c4]
    by_cases c5 : l.f2 < 1
    · rw [if_pos c5]
    rw [if_neg c5]
    by_cases c6 : l.f2 > 1000
    · rw [if_pos c6]
    rw [if_neg c6]
    by_cases c7 : l.f3 < 0
    · rw [if_pos c7]
    rw [if_neg c7]
    by_cases c8 : l.f3 > 1000000
    · rw [if_pos c8]
    refine absurd ?_ hok
    unfold okLine
    simp only [Bool.and_eq_true, decide_eq_true_eq, bne_iff_ne]
    exact ⟨⟨⟨by omega, c4⟩, by omega⟩, by omega⟩
theorem chkR_ev (b : Int) (L : List S37) : Ev (fun k => qr14Check.f k b L) (chk b L) := by
  by_cases hb : b < 1 ∨ 6 < b
  · refine Ev.eq (G := fun k => qr14Check.j0 k true b L) (fun k => ?_) (Ev.succ (G := fun _ => some (chk b L)) (fun k => ?_) (Ev.some_ _))
    · rw [qr14Check.f]
      by_cases h : b < 1
      · rw [if_pos h]
      · rw [if_neg h, decide_eq_true (by omega)]
    · rw [qr14Check.j0, if_pos rfl, chk, if_pos hb]
  · refine Ev.eq (G := fun k => qr14Check.j0 k false b L) (fun k => ?_) ?_
    · rw [qr14Check.f, if_neg (by omega), decide_eq_false (by omega)]
    · by_cases hl : 10 < L.length
      · refine Ev.succ (G := fun _ => some (chk b L)) (fun k => ?_) (Ev.some_ _)
        rw [qr14Check.j0, if_neg (by simp), if_pos (by omega), chk, if_neg hb, if_pos hl]
      · refine Ev.succ (G := fun k => qr14Check.l0 k 0 b L) (fun k => ?_) ?_
        · rw [qr14Check.j0, if_neg (by simp), if_neg (by omega)]
        · have hv : chk b L = if L.all (okLine b) then 0 else 1 := by rw [chk, if_neg hb, if_neg hl]
          have key : ∀ m i, i + m = L.length → Ev (fun k => qr14Check.l0 k (i : Int) b L) (if (L.drop i).all (okLine b) then 0 else 1) := by
            intro m
            induction m with
            | zero =>
              intro i hi
              rw [List.drop_eq_nil_of_le (by omega)]
              refine Ev.succ (G := fun _ => some 0) (fun k => ?_) (Ev.some_ _)
              rw [qr14Check.l0, if_neg (by omega)]
            | succ m ih =>
              intro i hi
              have hil : i < L.length := by omega
              have hnext := ih (i + 1) (by omega)
              rw [List.drop_eq_getElem_cons hil, List.all_cons, ← rd_T37_nat hil]
              refine Ev.succ (G := fun k => if okLine b (rd_T37 L (i : Int)) = true then qr14Check.l0 k ((i + 1 : Nat) : Int) b L else some 1) (fun k => ?_) ?_
              · rw [qr14Check.l0, if_pos (by omega), if_pos (by omega), wrap_succ (by omega), chk_line]
              · by_cases hok : okLine b (rd_T37 L (i : Int)) = true
                · rw [hok, Bool.true_and]
                  exact Ev.eq (fun k => if_pos rfl) hnext
                · rw [Bool.eq_false_iff.mpr hok, Bool.false_and]
                  exact Ev.eq (G := fun _ => some 1) (fun k => if_neg (by simp)) (Ev.some_ _)
          rw [hv]
          exact key L.length 0 (by omega)
def ltAll (n : Nat) (l : List Int) : Bool := decide (∀ x ∈ l, x < (n : Int))
theorem ltAll_cons (n : Nat) (x : Int) (l : List Int) : ltAll n (x :: l) = (decide (x < (n : Int)) && ltAll n l) := by
  unfold ltAll
  rw [Bool.eq_iff_iff]
  simp only [Bool.and_eq_true, decide_eq_true_eq, List.forall_mem_cons]
theorem outsR_ev (b : Int) (L : List S37) (out : List Int) (ho : out.length ≤ 1000000) : Ev (fun k => qr14Outs.f k b L out) (outsV b L out) := by
  refine Ev.bind (chkR_ev b L) ?_
  by_cases hc : chk b L = 0
  · refine Ev.eq (G := fun k => qr14Outs.l0 k out 0 b L) (fun k => if_pos hc) ?_
    have hv : outsV b L out = if (risesFrom (-1) out && ltAll L.length out) = true then 0 else 1 := by rw [outsV, if_pos hc]; rfl
    have key : ∀ m i, i + m = out.length → ∀ last : Int, -1 ≤ last → (0 < i → last = rd out ((i - 1 : Nat) : Int)) → (i = 0 → last = -1) → Ev (fun k => qr14Outs.l0 k out (i : Int) b L) (if (risesFrom last (out.drop i) && ltAll L.length (out.drop i)) = true then 0 else 1) := by
      intro m
      induction m with
      | zero =>
        intro i hi last _ _ _
        rw [List.drop_eq_nil_of_le (by omega)]
        refine Ev.succ (G := fun _ => some 0) (fun k => ?_) (Ev.some_ _)
        rw [qr14Outs.l0, if_neg (by omega)]
      | succ m ih =>
        intro i hi last hl0 hl1 hl2
        have hil : i < out.length := by omega
        have hx := rd_nat out i hil
        rw [List.drop_eq_getElem_cons hil, ← hx]
        have hval : (risesFrom last (rd out (i : Int) :: out.drop (i + 1)) && ltAll L.length (rd out (i : Int) :: out.drop (i + 1))) = (decide (last < rd out (i : Int)) && decide (rd out (i : Int) < (L.length : Int)) && (risesFrom (rd out (i : Int)) (out.drop (i + 1)) && ltAll L.length (out.drop (i + 1)))) := by
          rw [risesFrom, ltAll_cons]
          cases decide (last < rd out (i : Int)) <;> cases decide (rd out (i : Int) < (L.length : Int)) <;> cases risesFrom (rd out (i : Int)) (out.drop (i + 1)) <;> rfl
        rw [hval]
        by_cases c : last < rd out (i : Int) ∧ rd out (i : Int) < (L.length : Int)
        · rw [decide_eq_true c.1, decide_eq_true c.2, Bool.true_and, Bool.true_and]
          refine Ev.succ (fun k => ?_) (ih (i + 1) (by omega) (rd out (i : Int)) (by omega) (fun _ => rfl) (fun h => by omega))
          rw [qr14Outs.l0, if_pos (by omega), if_pos (by omega), if_neg (by omega), if_neg (by omega), wrap_succ (by omega)]
          by_cases hi0 : i = 0
          · subst hi0; rw [if_neg (by omega)]
          · have hw : wrap64 ((i : Int) - 1) = ((i - 1 : Nat) : Int) := by rw [wrap_small (by omega) (by omega)]; omega
            rw [if_pos (by omega), hw, if_pos (by omega), if_pos (by omega), if_neg (by rw [← hl1 (by omega)]; omega)]
        · have e : (decide (last < rd out (i : Int)) && decide (rd out (i : Int) < (L.length : Int))) = false := by
            rw [Bool.eq_false_iff]; intro h; simp only [Bool.and_eq_true, decide_eq_true_eq] at h; exact c h
          rw [e, Bool.false_and]
          refine Ev.succ (G := fun _ => some 1) (fun k => ?_) (Ev.some_ _)
          rw [qr14Outs.l0, if_pos (by omega), if_pos (by omega)]
          by_cases h1 : rd out (i : Int) < 0
          · rw [if_pos h1]
          rw [if_neg h1]
          by_cases h2 : rd out (i : Int) ≥ (L.length : Int)
          · rw [if_pos h2]
          rw [if_neg h2]
          by_cases hi0 : i = 0
          · have := hl2 hi0; omega
          · have hw : wrap64 ((i : Int) - 1) = ((i - 1 : Nat) : Int) := by rw [wrap_small (by omega) (by omega)]; omega
            rw [if_pos (by omega), hw, if_pos (by omega), if_pos (by omega), if_pos (by rw [← hl1 (by omega)]; omega)]
    have := key out.length 0 (by omega) (-1) (by omega) (fun h => by omega) (fun _ => rfl)
    rw [hv]; exact this
  · have hv : outsV b L out = chk b L := by rw [outsV, if_neg hc]
    rw [hv]
    exact Ev.eq (G := fun _ => some (chk b L)) (fun k => if_neg hc) (Ev.some_ _)
theorem hasR_ev (l : List Int) (x : Int) (hl : l.length ≤ 1000000) : Ev (fun k => qr14Has.f k l x) (decide (x ∈ l)) := by
  have key : ∀ m i, i + m = l.length → (∀ j (hj : j < l.length), j < i → l[j] ≠ x) → Ev (fun k => qr14Has.l0 k l x (i : Int)) (decide (x ∈ l)) := by
    intro m
    induction m with
    | zero =>
      intro i hi hno
      have hn : x ∉ l := by
        intro hm
        obtain ⟨j, hj, e⟩ := List.getElem_of_mem hm
        exact hno j hj (by omega) e
      refine Ev.succ (G := fun _ => some (decide (x ∈ l))) (fun k => ?_) (Ev.some_ _)
      rw [qr14Has.l0, if_neg (by omega), decide_eq_false hn]
    | succ m ih =>
      intro i hi hno
      have hil : i < l.length := by omega
      by_cases he : l[i] = x
      · have hm : x ∈ l := by rw [← he]; exact List.getElem_mem hil
        refine Ev.succ (G := fun _ => some (decide (x ∈ l))) (fun k => ?_) (Ev.some_ _)
        rw [qr14Has.l0, if_pos (by omega), if_pos (by omega), rd_nat l i hil, if_pos he, decide_eq_true hm]
      · refine Ev.succ (fun k => ?_) (ih (i + 1) (by omega) (fun j hj hji => ?_))
        · rw [qr14Has.l0, if_pos (by omega), if_pos (by omega), rd_nat l i hil, if_neg he, wrap_small (by omega) (by omega)]; rfl
        · by_cases h : j = i
          · subst h; exact he
          · exact hno j hj (by omega)
  exact key l.length 0 (by omega) (fun j _ h => absurd h (Nat.not_lt_zero _))
def coN (l : List Int) (n : Nat) : List Int := ((List.range n).filter (fun (k : Nat) => !l.contains (k : Int))).map (fun (k : Nat) => (k : Int))
theorem coN_succ (l : List Int) (n : Nat) : coN l (n + 1) = if (n : Int) ∈ l then coN l n else coN l n ++ [(n : Int)] := by
  unfold coN
  rw [List.range_succ, List.filter_append, List.map_append]
  by_cases h : (n : Int) ∈ l
  · rw [if_pos h]; simp [h]
  · rw [if_neg h]; simp [h]
theorem coN_len (l : List Int) (n : Nat) : (coN l n).length ≤ n := by
  unfold coN
  rw [List.length_map]
  have := List.length_filter_le (fun (k : Nat) => !l.contains (k : Int)) (List.range n)
  rwa [List.length_range] at this
theorem inR_ev (b : Int) (L : List S37) (l : List Int) (hl : l.length ≤ 1000000) (hL : L.length ≤ 1000000) : Ev (fun k => qr14In.f k b L l) (inL L l) := by
  refine Ev.upto L.length (fun k i => qr14In.l0 k l (coN l i) (i : Int) b L) ?_ fun i hi h => ?_
  · refine Ev.succ (G := fun _ => some (coN l L.length)) (fun k => ?_) (Ev.some_ _)
    rw [qr14In.l0, if_neg (by omega)]
  · have hc := coN_len l i
    have hs := coN_succ l i
    refine Ev.succ (G := fun k => (qr14Has.f k l (i : Int)).bind fun t => (if t = true then (qr14In.l0 k l (coN l i) (wrap64 ((i : Int) + 1)) b L) else (if (coN l i).length < 17592186044416 then (qr14In.l0 k l (coN l i ++ [(i : Int)]) (wrap64 ((i : Int) + 1)) b L) else (none)))) (fun k => ?_) ?_
    · rw [qr14In.l0, if_pos (by omega)]
    · refine Ev.bind (hasR_ev l (i : Int) hl) (Ev.eq (fun k => ?_) h)
      rw [wrap_succ (by omega)]
      by_cases hm : (i : Int) ∈ l
      · rw [decide_eq_true hm, if_pos rfl, hs, if_pos hm]
      · rw [decide_eq_false hm, if_neg (by simp), if_pos (by omega), hs, if_neg hm]
end
section
def rlx (f : Nat → Bool) (e : Nat × Nat) : Nat → Bool := fun x => if ((f e.1 || f e.2) && (x == e.1 || x == e.2)) = true then true else f x
def pss (E : List (Nat × Nat)) (f : Nat → Bool) : Nat → Bool := E.foldl rlx f
def itr (E : List (Nat × Nat)) (f : Nat → Bool) : Nat → (Nat → Bool)
  | 0 => f
  | r + 1 => pss E (itr E f r)
def cntF (f : Nat → Bool) : Nat → Nat
  | 0 => 0
  | n + 1 => cntF f n + (if f n = true then 1 else 0)
theorem cntF_le (f : Nat → Bool) : ∀ n, cntF f n ≤ n
  | 0 => Nat.le_refl _
  | n + 1 => by have := cntF_le f n; rw [cntF]; split <;> omega
theorem cntF_mono {f g : Nat → Bool} (h : ∀ x, f x = true → g x = true) : ∀ n, cntF f n ≤ cntF g n
  | 0 => Nat.le_refl _
  | n + 1 => by
    have := cntF_mono h n
    rw [cntF, cntF]
    by_cases hf : f n = true
    · rw [if_pos hf, if_pos (h n hf)]; omega
    · rw [if_neg hf]; split <;> omega
theorem cntF_lt {f g : Nat → Bool} (h : ∀ x, f x = true → g x = true) {x : Nat} (hf : f x = false) (hg : g x = true) : ∀ n, x < n → cntF f n < cntF g n
  | 0, hx => by omega
  | n + 1, hx => by
    rw [cntF, cntF]
    by_cases e : x = n
    · subst e
      have := cntF_mono h x
      rw [hf, hg, if_neg (by simp), if_pos rfl]; omega
    · have := cntF_lt h hf hg n (by omega)
      by_cases hfn : f n = true
      · rw [if_pos hfn, if_pos (h n hfn)]; omega
      · rw [if_neg hfn]; split <;> omega
theorem rlx_mono {f : Nat → Bool} {e : Nat × Nat} {x : Nat} (h : f x = true) : rlx f e x = true := by unfold rlx; split <;> trivial
theorem pss_mono (E : List (Nat × Nat)) : ∀ {f : Nat → Bool} {x : Nat}, f x = true → pss E f x = true := by
  induction E with
  | nil => intro f x h; exact h
  | cons e E ih => intro f x h; exact ih (f := rlx f e) (rlx_mono h)
theorem rlx_same {f : Nat → Bool} {e : Nat × Nat} (h : f e.1 = f e.2) : rlx f e = f := by
  funext x
  unfold rlx
  split
  · rename_i hc
    rw [Bool.and_eq_true, Bool.or_eq_true, Bool.or_eq_true, beq_iff_eq, beq_iff_eq] at hc
    rcases hc with ⟨h1, h2⟩
    have h3 : f e.1 = true := by
      rcases h1 with h1 | h1
      · exact h1
      · rw [h]; exact h1
    rcases h2 with rfl | rfl
    · exact h3.symm
    · rw [← h]; exact h3.symm
  · rfl
theorem pss_same {f : Nat → Bool} : ∀ {E : List (Nat × Nat)}, (∀ e ∈ E, f e.1 = f e.2) → pss E f = f := by
  intro E
  induction E with
  | nil => intro _; rfl
  | cons e E ih =>
    intro h
    show pss E (rlx f e) = f
    rw [rlx_same (h e (List.mem_cons_self ..))]
    exact ih (fun d hd => h d (List.mem_cons_of_mem _ hd))
theorem pss_edge : ∀ {E : List (Nat × Nat)} {f : Nat → Bool} {e : Nat × Nat}, e ∈ E → (f e.1 = true ∨ f e.2 = true) → pss E f e.1 = true ∧ pss E f e.2 = true := by
  intro E
  induction E with
  | nil => intro f e h; cases h
  | cons d E ih =>
    intro f e he h
    rcases List.mem_cons.1 he with rfl | he
    · have h1 : (f e.1 || f e.2) = true := by rw [Bool.or_eq_true]; exact h
      exact ⟨pss_mono E (by unfold rlx; rw [if_pos (by rw [h1]; simp)]), pss_mono E (by unfold rlx; rw [if_pos (by rw [h1]; simp)])⟩
    · exact ih (f := rlx f d) he (h.imp rlx_mono rlx_mono)
theorem itr_stable {E : List (Nat × Nat)} {f : Nat → Bool} {N : Nat} (hE : ∀ e ∈ E, e.1 < N ∧ e.2 < N) : ∀ r, (∀ e ∈ E, itr E f r e.1 = itr E f r e.2) ∨ cntF f N + r ≤ cntF (itr E f r) N
  | 0 => Or.inr (Nat.le_refl _)
  | r + 1 => by
    rcases itr_stable (f := f) hE r with h | h
    · refine Or.inl fun e he => ?_
      show pss E (itr E f r) e.1 = pss E (itr E f r) e.2
      rw [pss_same h]; exact h e he
    · by_cases hs : ∀ e ∈ E, itr E f r e.1 = itr E f r e.2
      · refine Or.inl fun e he => ?_
        show pss E (itr E f r) e.1 = pss E (itr E f r) e.2
        rw [pss_same hs]; exact hs e he
      · refine Or.inr ?_
        obtain ⟨e, he⟩ := Classical.not_forall.1 hs
        obtain ⟨hm, hne⟩ := Classical.not_imp.1 he
        obtain ⟨b1, b2⟩ := hE e hm
        have key : ∃ x, x < N ∧ itr E f r x = false ∧ pss E (itr E f r) x = true := by
          cases h1 : itr E f r e.1 with
          | true =>
            cases h2 : itr E f r e.2 with
            | true => exact absurd (h1.trans h2.symm) hne
            | false => exact ⟨e.2, b2, h2, (pss_edge hm (Or.inl h1)).2⟩
          | false =>
            cases h2 : itr E f r e.2 with
            | true => exact ⟨e.1, b1, h1, (pss_edge hm (Or.inr h2)).1⟩
            | false => exact absurd (h1.trans h2.symm) hne
        obtain ⟨x, hx, hx1, hx2⟩ := key
        have := cntF_lt (f := itr E f r) (g := pss E (itr E f r)) (fun y hy => pss_mono E hy) hx1 hx2 N hx
        show cntF f N + (r + 1) ≤ cntF (pss E (itr E f r)) N
        omega
theorem rlx_conn {E : List (Nat × Nat)} {a : Nat} {f : Nat → Bool} {e : Nat × Nat} (he : e ∈ E) (h : ∀ x, f x = true → conn E a x) : ∀ x, rlx f e x = true → conn E a x := by
  intro x hx
  unfold rlx at hx
  split at hx
  · rename_i hc
    rw [Bool.and_eq_true, Bool.or_eq_true, Bool.or_eq_true, beq_iff_eq, beq_iff_eq] at hc
    obtain ⟨h1, h2⟩ := hc
    have h3 : conn E a e.1 ∧ conn E a e.2 := by
      rcases h1 with h1 | h1
      · exact ⟨h _ h1, (h _ h1).trans (conn_edge he)⟩
      · exact ⟨(h _ h1).trans (conn_edge he).symm, h _ h1⟩
    rcases h2 with rfl | rfl
    · exact h3.1
    · exact h3.2
  · exact h x hx
theorem fold_conn {E : List (Nat × Nat)} {a : Nat} : ∀ (D : List (Nat × Nat)) (f : Nat → Bool), (∀ e ∈ D, e ∈ E) → (∀ x, f x = true → conn E a x) → ∀ x, pss D f x = true → conn E a x := by
  intro D
  induction D with
  | nil => intro f _ h; exact h
  | cons d D ih => intro f hd h; exact ih (rlx f d) (fun e he => hd e (List.mem_cons_of_mem _ he)) (rlx_conn (hd d (List.mem_cons_self ..)) h)
theorem itr_conn {E : List (Nat × Nat)} {a : Nat} {f : Nat → Bool} (h : ∀ x, f x = true → conn E a x) : ∀ r x, itr E f r x = true → conn E a x
  | 0 => h
  | r + 1 => fold_conn E _ (fun _ he => he) (itr_conn h r)
theorem itr_mono {E : List (Nat × Nat)} {f : Nat → Bool} {x : Nat} (h : f x = true) : ∀ r, itr E f r x = true
  | 0 => h
  | r + 1 => pss_mono E (itr_mono h r)
theorem reach_conn {E : List (Nat × Nat)} {N a : Nat} (hE : ∀ e ∈ E, e.1 < N ∧ e.2 < N) (ha : a < N) (x : Nat) : itr E (fun y => y == a) N x = decide (conn E a x) := by
  have h0 : 0 < cntF (fun y => y == a) N := by
    have := cntF_lt (f := fun _ => false) (g := fun y => y == a) (fun _ h => by cases h) (x := a) rfl (by simp) N ha
    omega
  have hst : ∀ e ∈ E, itr E (fun y => y == a) N e.1 = itr E (fun y => y == a) N e.2 := by
    rcases itr_stable (f := fun y => y == a) hE N with h | h
    · exact h
    · have := cntF_le (itr E (fun y => y == a) N) N; omega
  rw [Bool.eq_iff_iff, decide_eq_true_iff]
  constructor
  · exact itr_conn (fun y hy => by rw [beq_iff_eq] at hy; rw [hy]; exact conn_refl E a) N x
  · intro h
    have := lab_const (itr E (fun y => y == a) N) hst h
    rw [← this]; exact itr_mono (by simp) N
end
section
def blist (N : Nat) (f : Nat → Bool) : List Bool := (List.range N).map f
theorem blist_len (N : Nat) (f : Nat → Bool) : (blist N f).length = N := by simp [blist]
theorem rd_blist {N : Nat} {f : Nat → Bool} {x : Nat} (h : x < N) : rdOf false (blist N f) (x : Int) = f x := by
  unfold rdOf blist
  rw [Int.toNat_natCast, List.getD_eq_getElem?_getD, List.getElem?_map, List.getElem?_range h]; rfl
theorem blist_congr {N : Nat} {f g : Nat → Bool} (h : ∀ x, x < N → f x = g x) : blist N f = blist N g := by
  unfold blist
  exact List.map_congr_left fun x hx => h x (List.mem_range.1 hx)
theorem blist_set {N : Nat} {f : Nat → Bool} {u v : Nat} (h : (f u || f v) = true) : ((blist N f).set u true).set v true = blist N (rlx f (u, v)) := by
  unfold blist
  apply List.ext_getElem
  · simp
  · intro i h1 h2
    rw [List.getElem_set, List.getElem_set, List.getElem_map, List.getElem_map, List.getElem_range]
    show (if v = i then true else if u = i then true else f i) = (if ((f u || f v) && (i == u || i == v)) = true then true else f i)
    rw [h, Bool.true_and]
    by_cases hv : v = i
    · subst hv; simp
    · by_cases hu : u = i
      · subst hu; simp
      · have e1 : (i == u) = false := beq_eq_false_iff_ne.2 fun e => hu e.symm
        have e2 : (i == v) = false := beq_eq_false_iff_ne.2 fun e => hv e.symm
        rw [if_neg hv, if_neg hu, e1, e2]; simp
theorem rlx_none {f : Nat → Bool} {u v : Nat} (h : (f u || f v) = false) : rlx f (u, v) = f := by
  funext x
  unfold rlx
  rw [h, Bool.false_and, if_neg (by simp)]
theorem pss_snoc (E : List (Nat × Nat)) (e : Nat × Nat) (f : Nat → Bool) : pss (E ++ [e]) f = rlx (pss E f) e := by simp [pss]
theorem blist_start {N a : Nat} : (List.replicate N false).set a true = blist N (fun y => y == a) := by
  unfold blist
  apply List.ext_getElem
  · simp
  · intro i h1 h2
    rw [List.getElem_set, List.getElem_replicate, List.getElem_map, List.getElem_range]
    by_cases h : a = i
    · subst h; simp
    · rw [if_neg h]; exact (beq_eq_false_iff_ne.2 fun e => h e.symm).symm
theorem rd_inL {L : List S37} {out : List Int} {i : Nat} (h : i < (inn L out).length) : rd (inL L out) (i : Int) = (((inn L out)[i] : Nat) : Int) := by
  rw [rd_nat _ i (by rw [inL_len]; exact h)]; simp [inL]
theorem edges_len (L : List S37) (out : List Int) : (edges L out).length = (inn L out).length := by simp [edges]
theorem in_line {N : Nat} {L : List S37} {out : List Int} (h : outsV (N : Int) L out = 0) {i : Nat} (hi : i < (inn L out).length) : ∃ (k : Nat) (u v : Nat), rd (inL L out) (i : Int) = (k : Int) ∧ k < L.length ∧ (rd_T37 L (k : Int)).f0 = (u : Int) ∧ (rd_T37 L (k : Int)).f1 = (v : Int) ∧ u < N ∧ v < N ∧ u ≠ v ∧ (edges L out)[i]? = some (u, v) ∧ k = (inn L out)[i] ∧ enL L k = (u, v) := by
  have hm := mem_inn.1 (List.getElem_mem hi)
  obtain ⟨u, v, h0, h1, h2, h3, h4, h5⟩ := line_ok (outsV_ok h).1 hm.1
  refine ⟨(inn L out)[i], u, v, rd_inL hi, hm.1, h0, h1, by omega, by omega, h4, ?_, rfl, h5⟩
  rw [edges_en, List.getElem?_map, List.getElem?_eq_getElem hi]
  show some (enL L (inn L out)[i]) = _
  rw [h5]
theorem edges_lt' {N : Nat} {L : List S37} {out : List Int} (h : outsV (N : Int) L out = 0) {e : Nat × Nat} (he : e ∈ edges L out) : e.1 < N ∧ e.2 < N := by
  obtain ⟨i, hi, rfl⟩ := List.getElem_of_mem he
  obtain ⟨k, u, v, _, _, _, _, h1, h2, _, h3, _, _⟩ := in_line h (i := i) (by rw [← edges_len]; exact hi)
  rw [List.getElem?_eq_getElem hi] at h3
  rw [Option.some.inj h3]
  exact ⟨h1, h2⟩
theorem reachR_ev {N : Nat} {L : List S37} {out : List Int} (h : outsV (N : Int) L out = 0) {a : Nat} (ha : a < N) : Ev (fun k => qr15reach.f k (N : Int) L out (a : Int)) (blist N (fun x => decide (conn (edges L out) a x))) := by
  have hb := outs_bus h
  have hol := outsV_len h
  have hil := inL_len L out
  have hil2 := inn_len L out
  have hel := edges_len L out
  have hround : ∀ (f : Nat → Bool) (r : Int) (v : List Bool), Ev (fun k => qr15reach.l0 k (blist N (pss (edges L out) f)) (inL L out) (wrap64 (r + 1)) (N : Int) L) v → Ev (fun k => qr15reach.l1 k (blist N f) (inL L out) r 0 (N : Int) L) v := by
    intro f r v hv
    refine Ev.upto (inn L out).length (fun k i => qr15reach.l1 k (blist N (pss ((edges L out).take i) f)) (inL L out) r (i : Int) (N : Int) L) ?_ fun i hi hnext => ?_
    · refine Ev.succ (fun k => ?_) hv
      rw [qr15reach.l1, if_neg (by omega), List.take_of_length_le (by omega)]
    · obtain ⟨k, u, w, h1, h2, h3, h4, h5, h6, h7, h8, _, _⟩ := in_line h hi
      have htk : (edges L out).take (i + 1) = (edges L out).take i ++ [(u, w)] := by
        rw [List.take_add_one, h8]; rfl
      rw [htk, pss_snoc] at hnext
      generalize pss ((edges L out).take i) f = g at hnext ⊢
      have hgl := blist_len N g
      have hu : rdOf false (blist N g) (u : Int) = g u := rd_blist h5
      have hw : rdOf false (blist N g) (w : Int) = g w := rd_blist h6
      refine Ev.succ (fun k => ?_) hnext
      rw [qr15reach.l1, if_pos (by omega), if_pos (by omega), h1, if_pos (by omega), if_pos (by omega), h3, h4, if_pos (by omega), if_pos (by omega), hu, hw, wrap_succ (by omega)]
      simp only [Int.toNat_natCast]
      by_cases c : g u = true
      · rw [if_pos c, if_pos (by omega), if_pos (by omega), blist_set (by rw [c]; rfl)]
      · rw [if_neg c, if_pos (by omega), if_pos (by omega)]
        by_cases c2 : g w = true
        · rw [if_pos c2, blist_set (by rw [c2]; simp)]
        · rw [if_neg c2, rlx_none (by rw [Bool.eq_false_iff.mpr c, Bool.eq_false_iff.mpr c2]; rfl)]
  have hall : Ev (fun k => qr15reach.l0 k (blist N (fun y => y == a)) (inL L out) 0 (N : Int) L) (blist N (itr (edges L out) (fun y => y == a) N)) := by
    refine Ev.upto N (fun k r => qr15reach.l0 k (blist N (itr (edges L out) (fun y => y == a) r)) (inL L out) (r : Int) (N : Int) L) ?_ fun r hr hnext => ?_
    · refine Ev.succ (G := fun _ => some (blist N (itr (edges L out) (fun y => y == a) N))) (fun k => ?_) (Ev.some_ _)
      rw [qr15reach.l0, if_neg (by omega)]
    · refine Ev.succ (fun k => ?_) (hround (itr (edges L out) (fun y => y == a) r) (r : Int) _ (by rw [wrap_succ (by omega)]; exact hnext))
      rw [qr15reach.l0, if_pos (by omega)]
  have e : blist N (fun x => decide (conn (edges L out) a x)) = blist N (itr (edges L out) (fun y => y == a) N) := blist_congr fun x hx => (reach_conn (fun e he => edges_lt' h he) ha x).symm
  rw [e]
  refine Ev.eq (G := fun k => (qr14In.f k (N : Int) L out).bind fun t => qr15reach.l0 k (blist N (fun y => y == a)) t 0 (N : Int) L) (fun k => ?_) (Ev.bind (inR_ev _ _ _ (by omega) (by omega)) hall)
  rw [qr15reach.f, if_pos (by omega), if_pos (by omega), Option.bind_some, if_pos (by omega), if_pos (by simp; omega)]
  simp only [Int.toNat_natCast]
  rw [blist_start]
theorem refs_prefix (f : Nat → Nat) (n : Nat) : ∀ m, ∃ more, refsOf f (n + m) = refsOf f n ++ more
  | 0 => ⟨[], by simp⟩
  | m + 1 => by
    obtain ⟨more, h⟩ := refs_prefix f n m
    rw [← Nat.add_assoc, refsOf_succ, h]
    by_cases hf : f (n + m) = n + m
    · rw [if_pos hf]; exact ⟨more ++ [((n + m : Nat) : Int)], by rw [List.append_assoc]⟩
    · rw [if_neg hf]; exact ⟨more, rfl⟩
theorem refs_at {f : Nat → Nat} {N b : Nat} (hb : b < N) (h : f b = b) : (refsOf f N)[(refsOf f b).length]? = some (b : Int) := by
  obtain ⟨more, hm⟩ := refs_prefix f (b + 1) (N - (b + 1))
  rw [show b + 1 + (N - (b + 1)) = N by omega, refsOf_succ, if_pos h] at hm
  rw [hm, List.append_assoc, List.getElem?_append_right (Nat.le_refl _), Nat.sub_self]; rfl
theorem refs_mem' {f : Nat → Nat} (hf : Lb f) {N b : Nat} (hb : b < N) : ((f b : Nat) : Int) ∈ refsOf f N := by
  unfold refsOf
  refine List.mem_map.2 ⟨f b, List.mem_filter.2 ⟨List.mem_range.2 (by have := (hf b).1; omega), ?_⟩, rfl⟩
  simpa using (hf b).2
theorem refs_pair (f : Nat → Nat) (N : Nat) : (refsOf f N).Pairwise (· < ·) := by
  unfold refsOf
  rw [List.pairwise_map]
  refine (List.Pairwise.filter _ List.pairwise_lt_range).imp ?_
  intro a b h; omega
theorem isl_ref {f : Nat → Nat} (hf : Lb f) {N b : Nat} (hb : b < N) (h : f b = b) : isl f N b = (((refsOf f b).length : Nat) : Int) := by
  have hm := refs_mem' hf hb
  rw [isl, idx, if_pos hm, h]
  rw [h] at hm
  have h1 := refs_at hb h
  have h2 := List.getElem_idxOf (List.idxOf_lt_length_iff.2 hm)
  obtain ⟨h3, h4⟩ := List.getElem?_eq_some_iff.1 h1
  have hp := List.pairwise_iff_getElem.1 (refs_pair f N)
  have hlt := List.idxOf_lt_length_iff.2 hm
  rcases Nat.lt_trichotomy ((refsOf f N).idxOf (b : Int)) (refsOf f b).length with hc | hc | hc
  · have := hp _ _ hlt h3 hc; omega
  · omega
  · have := hp _ _ h3 hlt hc; omega
theorem isl_lab {f : Nat → Nat} (hf : Lb f) (N b : Nat) : isl f N (f b) = isl f N b := by
  unfold isl; rw [(hf b).2]
def ofPart (f : Nat → Nat) (N b : Nat) : List Int := (List.range N).map (fun x => if x < b then isl f N x else 0)
theorem ofPart_len (f : Nat → Nat) (N b : Nat) : (ofPart f N b).length = N := by simp [ofPart]
theorem ofPart_set (f : Nat → Nat) (N b : Nat) : (ofPart f N b).set b (isl f N b) = ofPart f N (b + 1) := by
  unfold ofPart
  apply List.ext_getElem
  · simp
  · intro i h1 h2
    rw [List.getElem_set, List.getElem_map, List.getElem_map, List.getElem_range]
    by_cases h : b = i
    · subst h; rw [if_pos rfl, if_pos (by omega)]
    · rw [if_neg h]
      by_cases h3 : i < b
      · rw [if_pos h3, if_pos (by omega)]
      · rw [if_neg h3, if_neg (by omega)]
theorem ofPart_all (f : Nat → Nat) (N : Nat) : ofPart f N N = islOf f N N := by
  unfold ofPart islOf
  exact List.map_congr_left fun x hx => if_pos (List.mem_range.1 hx)
theorem ofPart_zero (f : Nat → Nat) (N : Nat) : List.replicate N (0 : Int) = ofPart f N 0 := by
  unfold ofPart
  apply List.ext_getElem
  · simp
  · intro i h1 h2; simp
theorem rd_ofPart {f : Nat → Nat} {N b x : Nat} (hx : x < N) (hb : x < b) : rd (ofPart f N b) (x : Int) = isl f N x := by
  rw [rd_nat _ x (by rw [ofPart_len]; exact hx)]; simp [ofPart, hb]
theorem ofR_ok {b : Int} {L : List S37} {out : List Int} (h : outsV b L out = 0) : Ev (fun k => qr15Of.f k b L out) (islOf (lab (edges L out)) b.toNat b.toNat, 0) := by
  have hb := outs_bus h
  have hol := outsV_len h
  obtain ⟨N, rfl⟩ := Int.eq_ofNat_of_zero_le (show 0 ≤ b by omega)
  rw [Int.toNat_natCast]
  have hf := lab_lb (edges L out)
  have hconn : ∀ x y, conn (edges L out) x y ↔ lab (edges L out) x = lab (edges L out) y := fun x y => Iff.rfl
  have hreach := fun a (ha : a < N) => reachR_ev h ha
  obtain ⟨f, hfe⟩ : ∃ f, f = lab (edges L out) := ⟨_, rfl⟩
  have hloop : Ev (fun k => qr15Of.l0 k out (List.replicate N (0 : Int)) 0 0 (N : Int) L) (islOf f N N, 0) := by
    rw [ofPart_zero f N]
    refine Ev.upto N (fun k i => qr15Of.l0 k out (ofPart f N i) (((refsOf f i).length : Nat) : Int) (i : Int) (N : Int) L) ?_ fun i hi hnext => ?_
    · refine Ev.succ (G := fun _ => some (ofPart f N N, 0)) (fun k => ?_) (by rw [ofPart_all]; exact Ev.some_ _)
      rw [qr15Of.l0, if_neg (by omega)]
    · refine Ev.succ (G := fun k => (qr15reach.f k (N : Int) L out (i : Int)).bind fun t => qr15Of.l1 k out (ofPart f N i) (((refsOf f i).length : Nat) : Int) (i : Int) t 0 (N : Int) L) (fun k => by rw [qr15Of.l0, if_pos (by omega)]) (Ev.bind (hreach i hi) ?_)
      rw [← hfe] at hf hconn
      have hbl := blist_len N (fun x => decide (conn (edges L out) i x))
      have hrb : ∀ x, x < N → rdOf false (blist N (fun x => decide (conn (edges L out) i x))) (x : Int) = decide (f i = f x) := by
        intro x hx
        rw [rd_blist hx, decide_eq_decide, hconn, hfe]
      have hopl := ofPart_len f N i
      have hfi := (hf i).1
      have hrl := refsOf_len f i
      have hrs := refsOf_succ f i
      refine Ev.upto (f i) (fun k j => qr15Of.l1 k out (ofPart f N i) (((refsOf f i).length : Nat) : Int) (i : Int) (blist N (fun x => decide (conn (edges L out) i x))) (j : Int) (N : Int) L) ?_ fun j hj hnext2 => ?_
      · refine Ev.succ (fun k => ?_) hnext
        rw [qr15Of.l1, if_pos (by omega), if_pos (by omega), hrb _ (by omega), decide_eq_true (hf i).2.symm, if_pos rfl, wrap_succ (i := i) (by omega)]
        by_cases c : f i = i
        · rw [if_pos (by omega), if_pos (by omega), if_pos (by omega), Int.toNat_natCast, wrap_succ (by omega)]
          have e1 := isl_ref hf hi c
          rw [hrs, if_pos c, ← ofPart_set, e1, List.length_append, List.length_singleton]
        · have e1 : rd (ofPart f N i) ((f i : Nat) : Int) = isl f N i := by rw [rd_ofPart (by omega) (by omega), isl_lab hf]
          rw [if_neg (by omega), if_pos (by omega), if_pos (by omega), if_pos (by omega), Int.toNat_natCast, e1, ofPart_set, hrs, if_neg c]
      · refine Ev.succ (fun k => ?_) hnext2
        have hne : ¬ f i = f j := fun e => by have := (hf j).1; omega
        rw [qr15Of.l1, if_pos (by omega), if_pos (by omega), hrb _ (by omega), decide_eq_false hne, if_neg (by simp), wrap_succ (by omega)]
  rw [← hfe]
  refine Ev.eq (G := fun k => (qr14Outs.f k (N : Int) L out).bind fun t => (if t = 0 then (if 0 ≤ (N : Int) then (if (N : Int).toNat ≤ 35184372088832 then (qr15Of.l0 k out (List.replicate (N : Int).toNat 0) 0 0 (N : Int) L) else (none)) else (none)) else (some (([] : List Int), t)))) (fun k => rfl) (Ev.bind (outsR_ev _ _ _ (by omega)) ?_)
  rw [h]
  refine Ev.eq (fun k => ?_) hloop
  rw [if_pos rfl, if_pos (by omega), if_pos (by omega), Int.toNat_natCast]
end
section
theorem islOf_lenC (f : Nat → Nat) (N n : Nat) : (islOf f N n).length = n := by simp [islOf]
theorem rd_islOfC (f : Nat → Nat) (N n x : Nat) (hx : x < n) : rd (islOf f N n) (x : Int) = isl f N x := by
  rw [rd_nat _ x (by rw [islOf_lenC]; exact hx)]; simp [islOf]
theorem joinedR_in {N : Nat} {L : List S37} {out : List Int} (h : outsV (N : Int) L out = 0) {x y : Nat} (hx : x < N) (hy : y < N) : Ev (fun k => qr15Joined.f k (N : Int) L out (x : Int) (y : Int)) (decide (conn (edges L out) x y), 0) := by
  have hof := ofR_ok h
  rw [Int.toNat_natCast] at hof
  have hl := islOf_lenC (lab (edges L out)) N N
  refine Ev.bind hof (Ev.eq (G := fun _ => some (decide (conn (edges L out) x y), 0)) (fun k => ?_) (Ev.some_ _))
  rw [if_pos rfl, if_neg (by omega), if_neg (by omega), if_neg (by omega), if_neg (by omega), if_pos (by omega), if_pos (by simp only []; omega), if_pos (by omega), if_pos (by simp only []; omega)]
  rw [rd_islOfC _ _ _ _ hx, rd_islOfC _ _ _ _ hy]
  have e : (isl (lab (edges L out)) N x == isl (lab (edges L out)) N y) = decide (conn (edges L out) x y) := by
    rw [Bool.eq_iff_iff, beq_iff_eq, decide_eq_true_eq, isl_eq (lab_lb _) hx hy]; exact Iff.rfl
  rw [e]
end
end Go.Proofs.Ytdpgdelimffjpaa.P
