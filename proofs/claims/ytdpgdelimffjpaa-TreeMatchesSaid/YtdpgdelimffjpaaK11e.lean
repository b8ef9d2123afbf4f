/- Texts of this claim, merged: the words that print.sh and the prover's driver wrote, and hand-proved contracts and lemmas, less what this claim does not name. Lean checks them. -/
import Derived.Test.YtdpgdelimffjpaaK11a
import Derived.Test.YtdpgdelimffjpaaK11b
import Derived.Test.YtdpgdelimffjpaaK11c
import Derived.Test.YtdpgdelimffjpaaK11d
namespace Go.Proofs.Ytdpgdelimffjpaa.P
open Go.RowKit Go.Proofs.YtdpgdelimffjpaaW.PrintWords Go.Proofs.YtdpgdelimffjpaaW.PrintLast Go.Proofs.YtdpgdelimffjpaaW.PrintMore
attribute [local go_sem] max2_int min2_int max_two min_two max_three min_three max_four min_four
set_option linter.unusedVariables false
set_option linter.unusedSimpArgs false
mutual
def qr15Of.l0 : Nat → List Int → List Int → Int → Int → Int → List (S37) → Option (List Int × Int)
 | 0, _, _, _, _, _, _ => none
 | k + 1, x1, x7, x8, x9, x265000, x265001 => if x9 < x265000 then ((qr15reach.f k x265000 x265001 x1 x9).bind fun t269 => (qr15Of.l1 k x1 x7 x8 x9 t269 0 x265000 x265001)) else (some (x7, 0))
def qr15Of.l1 : Nat → List Int → List Int → Int → Int → List Bool → Int → Int → List (S37) → Option (List Int × Int)
 | 0, _, _, _, _, _, _, _, _ => none
 | k + 1, x1, x7, x8, x9, x10, x11, x265000, x265001 => if 0 ≤ x11 then (if x11 < (x10.length : Int) then (if rdOf false x10 x11 = true then (if x11 = x9 then (if 0 ≤ x9 then (if x9 < (x7.length : Int) then (qr15Of.l0 k x1 (x7.set (x9 : Int).toNat x8) (wrap64 (x8 + 1)) (wrap64 (x9 + 1)) x265000 x265001) else (none)) else (none)) else (if x11 < (x7.length : Int) then (if 0 ≤ x9 then (if x9 < (x7.length : Int) then (qr15Of.l0 k x1 (x7.set (x9 : Int).toNat (rd x7 x11)) x8 (wrap64 (x9 + 1)) x265000 x265001) else (none)) else (none)) else (none))) else (qr15Of.l1 k x1 x7 x8 x9 x10 (wrap64 (x11 + 1)) x265000 x265001)) else (none)) else (none)
end
def qr15Of.f (k : Nat) (a0_0 : Int) (l0_1 : List (S37)) (l1 : List Int) : Option (List Int × Int) := (qr14Outs.f k a0_0 l0_1 l1).bind fun t265 => (if t265 = 0 then (if 0 ≤ a0_0 then (if (a0_0 : Int).toNat ≤ 35184372088832 then (qr15Of.l0 k l1 (List.replicate (a0_0 : Int).toNat 0) 0 0 a0_0 l0_1) else (none)) else (none)) else (some (([] : List Int), t265)))
set_option maxHeartbeats 8000000 in
set_option maxRecDepth 100000 in
theorem qr15Of.calls (k : Nat) (a0_0 : Int) (A0_1 : Option Addr) (c0_1 : Nat) (l0_1 : List (S37)) (A1 : Option Addr) (c1 : Nat) (l1 : List Int) (r1 : List Int) (r2 : Int) (w : World) (hr0_1 : Kd.C k37 w A0_1 l0_1.length l0_1) (hc0_1 : l0_1.length ≤ c0_1) (hr1 : Kd.C (Kd.int .i64) w A1 l1.length l1) (hc1 : l1.length ≤ c1) (h : qr15Of.f k a0_0 l0_1 l1 = some (r1, r2)) :
  Calls Try.prog 38 #[.agg #[.int .i64 a0_0, .slice A0_1 l0_1.length c0_1], .slice A1 l1.length c1] w fun e w' => ∃ v0_ : Value, e = .returned (.tuple #[v0_, .int .i64 r2]) ∧ Kd.R (Kd.int .i64) 3 w' w.heap.size (fun _ => True) v0_ r1 ∧ Below w.heap.size w w' := by
 have hu24 := Try.underlying24
 have HR0_1 := Z0.mk hr0_1
 have HC0_1 := Z0.mk hc0_1
 clear hr0_1 hc0_1
 have HR1 := Z0.mk hr1
 have HC1 := Z0.mk hc1
 clear hr1 hc1
 have HB := Z0.mk (Below.refl w.heap.size w)
 have H : ((qr14Outs.f k a0_0 l0_1 l1).bind fun t265 => (if t265 = 0 then (if 0 ≤ a0_0 then (if (a0_0 : Int).toNat ≤ 35184372088832 then (qr15Of.l0 k l1 (List.replicate (a0_0 : Int).toNat 0) 0 0 a0_0 l0_1) else (none)) else (none)) else (some (([] : List Int), t265)))) = some (r1, r2) := h
 clear h
 replace H := Option.bind_eq_some_iff.mp H
 obtain ⟨t265, A30, H⟩ := H
 replace H : (if t265 = 0 then (if 0 ≤ a0_0 then (if (a0_0 : Int).toNat ≤ 35184372088832 then (qr15Of.l0 k l1 (List.replicate (a0_0 : Int).toNat 0) 0 0 a0_0 l0_1) else (none)) else (none)) else (some (([] : List Int), t265))) = some (r1, r2) := H
 have A3 := Z0.mk A30
 clear A30
 by_cases c4 : t265 = 0
 ·rw [if_pos c4] at H
  have c4b0 : (t265 == 0) = true := beq_iff_eq.mpr c4
  have c4b1 : (t265 != 0) = false := bne_eq_false_iff_eq.mpr c4
  clear c4
  by_cases c5 : 0 ≤ a0_0
  ·rw [if_pos c5] at H
   have c5b0 := eq_true c5
   have c5b1 : decide (0 ≤ a0_0) = true := decide_eq_true c5
   clear c5
   by_cases c6 : (a0_0 : Int).toNat ≤ 35184372088832
   ·rw [if_pos c6] at H
    have c6b0 := eq_true c6
    have c6b1 : decide ((a0_0 : Int).toNat ≤ 35184372088832) = true := decide_eq_true c6
    clear c6
    obtain ⟨y266, hy266⟩ : ∃ y_ : List Int, y_ = (List.replicate (a0_0 : Int).toNat 0) := ⟨_, rfl⟩
    replace H : (qr15Of.l0 k l1 y266 0 0 a0_0 l0_1) = some (r1, r2) := by first | (rw [hy266]; with_reducible exact H) | (have H2_ := (Option.bind_some _ _).symm.trans H; rw [hy266]; with_reducible exact H2_) | (have H2_ := (Option.bind_some _ _).symm.trans H; with_reducible exact H2_) | with_reducible exact H | (rw [hy266]; exact H) | exact H
    have Ny266 := Z0.mk hy266
    clear hy266
    have H' := Z0.mk H
    clear H
    go_enter Try.func38, Try.ntmps38
    go_wp2_with (first | ((with_reducible refine gate_dst (N := 2) rfl ?_); refine bE ?hg (N := 2) ?hd (cs := #[.int .i64 a0_0, .slice A0_1 l0_1.length c0_1]) (t := 24) ?hr ?_; (case hd => rfl); (case hg => rfl); (case hr => first | (go_simp; done) | (go_simp; rfl)); intro gb264 hg w7 hbox hb; have n0_ := Z0.mk (bT (by repeat (first | (with_reducible first | exact HB.out | apply below_alloc | apply bN | apply bD) | exact HB.out)) hb); have n1_ := Z0.mk (hbox); have n2_ := Z0.mk ((by rw [hg]; exact (bZ (by repeat (first | (with_reducible first | exact HB.out | apply below_alloc | apply bN | apply bD) | exact HB.out))) : w.heap.size ≤ gb264)); have n3_ := Z0.mk ((by rw [hg]; exact (bZ (by repeat (first | (with_reducible first | exact HB.out | apply below_alloc | apply bN | apply bD) | exact HB.out))) : w.heap.size ≤ gb264)); clear HB; have HB := n0_; have BK264 := n1_; have GW264 := n2_; have GE264 := n3_; clear n0_ n1_ n2_ n3_; clear hb hbox hg; have hcz8_0 : w7.cell? ⟨gb264, 0, none⟩ = some (.int .i64 a0_0) := (kC BK264.out 0).trans rfl; have hcz8_1 : w7.cell? ⟨gb264, 1, none⟩ = some (.slice A0_1 l0_1.length c0_1) := (kC BK264.out 1).trans rfl; have hfz8_0 := kF BK264.out 0; have hfz8_1 := kF BK264.out 1) | ((with_reducible refine gC (f := 69) rfl ?_); refine gL (some 14) rfl rfl Try.func69 (by kernel_rfl) rfl #[.agg #[.int .i64 a0_0, .slice A0_1 l0_1.length c0_1], .slice A1 l1.length c1] rfl (by (try simp only [List.map_toArray, List.map_cons, List.map_nil]); first | done | rfl | (simp only [List.length_drop, List.length_take]; rfl)) ?_; (with_reducible refine (qr14Outs.calls k a0_0 _ _ l0_1 _ _ l1 t265 _ ?side1 ?side2 ?side3 ?side4 A3.out).mono ?_); (case side1 => repeat (first | exact (Kd.C_below HR0_1.out HB.out) | (with_reducible refine Kd.C_alloc ?_ _) | (with_reducible refine Kd.C_drewN ?_ _) | (with_reducible refine Kd.C_drew ?_))); (case side2 => exact HC0_1.out); (case side3 => repeat (first | exact (Kd.C_below HR1.out HB.out) | (with_reducible refine Kd.C_alloc ?_ _) | (with_reducible refine Kd.C_drewN ?_ _) | (with_reducible refine Kd.C_drew ?_))); (case side4 => exact HC1.out); rintro e w9 ⟨rfl, hb⟩; refine ⟨_, rfl, ?_⟩; have n0_ := Z0.mk (kB (g := gb264) (o := .cells #[.int .i64 a0_0, .slice A0_1 l0_1.length c0_1] 24 (0, 0)) (by (with_reducible repeat (first | refine kN ?_ _ | refine kD ?_ | refine kA ?_ _)); exact BK264.out) hb); have n1_ := Z0.mk (bT (by repeat (first | (with_reducible first | exact HB.out | apply below_alloc | apply bN | apply bD | refine bS ?_ GE264.out) | exact HB.out)) hb); clear BK264; clear HB; have BK264 := n0_; have HB := n1_; clear n0_ n1_; (try clear hb); (try clear hb2); (try clear hk); (try clear hi); have hcz10_0 : w9.cell? ⟨gb264, 0, none⟩ = some (.int .i64 a0_0) := (kC BK264.out 0).trans rfl; have hcz10_1 : w9.cell? ⟨gb264, 1, none⟩ = some (.slice A0_1 l0_1.length c0_1) := (kC BK264.out 1).trans rfl; have hfz10_0 := kF BK264.out 0; have hfz10_1 := kF BK264.out 1) | ((with_reducible refine gate_dst (N := 20) rfl ?_); refine Kd.R_make (Kd.int .i64) _ 3 rfl (N := 20) rfl 25 _ _ rfl a0_0 rfl rfl Try.underlying25 (.int .i64 0) 8 info3 rfl (by decide) (by omega) 0 (ok := fun _ => True) (okp := fun _ => True) rfl (fun _ hk => hk) trivial (of_decide_eq_true (by first | (with_reducible assumption) | assumption)) (Nat.le_trans (Nat.mul_le_mul_right _ (of_decide_eq_true (by first | (with_reducible assumption) | assumption) : a0_0.toNat ≤ 35184372088832)) (by omega)) (Below.refl _ _) (Nat.le_refl _) ?_; intro v267 w11 ho12 hb hg_ hnew_; clear hg_ hnew_; (first | rw [← Ny266.out] at ho12 | (simp only [Int.reduceToNat] at ho12; rw [← Ny266.out] at ho12)); have n0_ := Z0.mk (Kd.R_lower ho12 (bZ (by repeat (first | (with_reducible first | exact HB.out | apply below_alloc | apply bN | apply bD | refine bS ?_ GE264.out) | exact HB.out)))); have n1_ := Z0.mk (kB (g := gb264) (o := .cells #[.int .i64 a0_0, .slice A0_1 l0_1.length c0_1] 24 (0, 0)) (by (with_reducible repeat (first | refine kN ?_ _ | refine kD ?_ | refine kA ?_ _)); exact BK264.out) hb); have n2_ := Z0.mk (bT (by repeat (first | (with_reducible first | exact HB.out | apply below_alloc | apply bN | apply bD | refine bS ?_ GE264.out) | exact HB.out)) hb); clear BK264; clear HB; have HO268 := n0_; have BK264 := n1_; have HB := n2_; clear n0_ n1_ n2_; clear hb ho12))
    go_loopg [8, 9] k (fun kq v8 v9 w' => ∃ (x7_1 : List Int) (x8_1 : Int) (x9_1 : Int), v8 = .int .i64 x8_1 ∧ v9 = .int .i64 x9_1 ∧ Z0 (qr15Of.l0 kq l1 x7_1 x8_1 x9_1 a0_0 l0_1 = some (r1, r2)) ∧ Z0 (kq ≤ k) ∧ Z0 (Kd.R (Kd.int .i64) 3 w' w.heap.size (fun _ => True) v267 x7_1) ∧ Z0 (w'.heap[gb264]? = some (.cells #[.int .i64 a0_0, (.slice A0_1 l0_1.length c0_1)] 24 (0, 0))) ∧ Z0 (Below w.heap.size w w'))
    case atStart => exact ⟨(y266), (0), (0), (by first | rfl | (simp; done) | (simp [*]; done)), (by first | rfl | (simp; done) | (simp [*]; done)), H', ⟨Nat.le_refl _⟩, ⟨by (with_reducible repeat (first | apply Kd.R_alloc | apply Kd.R_drewN | apply Kd.R_drew)); exact HO268.out⟩, ⟨by (with_reducible repeat (first | refine kN ?_ _ | refine kD ?_ | refine kA ?_ _)); exact BK264.out⟩, ⟨by repeat (first | (with_reducible first | exact HB.out | apply below_alloc | apply bN | apply bD | refine bS ?_ GE264.out) | exact HB.out)⟩⟩
    case round =>
     clear H'; (try clear c1); (try clear p2); (try clear c3); (try clear c4); (try clear c4b0); (try clear c4b1); (try clear c5); (try clear c5b0); (try clear c5b1); (try clear c6); (try clear c6b0); (try clear c6b1); (try clear hcz10_0); (try clear hcz10_1); (try clear hcz8_0); (try clear hcz8_1); (try clear hfz10_0); (try clear hfz10_1); (try clear hfz8_0); (try clear hfz8_1)
     obtain ⟨x7_1, x8_1, x9_1, rfl, rfl, HA, HK1, HO_7, BK264, HB⟩ := hrel
     cases gk with
     | zero => exact absurd HA.out (by simp [qr15Of.l0])
     | succ k1 =>
      have H := HA.out
      clear HA
      simp only [qr15Of.l0] at H
      by_cases c13 : x9_1 < a0_0
      ·rw [if_pos c13] at H
       have c13b0 : decide (x9_1 < a0_0) = true := decide_eq_true c13
       clear c13
       replace H := Option.bind_eq_some_iff.mp H
       obtain ⟨t269, A140, H⟩ := H
       replace H : (qr15Of.l1 k1 l1 x7_1 x8_1 x9_1 t269 0 a0_0 l0_1) = some (r1, r2) := H
       have A14 := Z0.mk A140
       clear A140
       have H' := Z0.mk H
       clear H
       have hcz15_0 : wr.cell? ⟨gb264, 0, none⟩ = some (.int .i64 a0_0) := (kC BK264.out 0).trans rfl
       have hcz15_1 : wr.cell? ⟨gb264, 1, none⟩ = some (.slice A0_1 l0_1.length c0_1) := (kC BK264.out 1).trans rfl
       have hfz15_0 := kF BK264.out 0
       have hfz15_1 := kF BK264.out 1
       go_wp2_with (first | ((with_reducible refine gC (f := 89) rfl ?_); refine gL (some 30) rfl rfl Try.func89 (by kernel_rfl) rfl #[.agg #[.int .i64 a0_0, .slice A0_1 l0_1.length c0_1], .slice A1 l1.length c1, .int .i64 x9_1] rfl (by (try simp only [List.map_toArray, List.map_cons, List.map_nil]); first | done | rfl | (simp only [List.length_drop, List.length_take]; rfl)) ?_; (with_reducible refine (qr15reach.calls k1 a0_0 _ _ l0_1 _ _ l1 x9_1 t269 _ ?side1 ?side2 ?side3 ?side4 A14.out).mono ?_); (case side1 => repeat (first | exact (Kd.C_below HR0_1.out HB.out) | (with_reducible refine Kd.C_alloc ?_ _) | (with_reducible refine Kd.C_drewN ?_ _) | (with_reducible refine Kd.C_drew ?_))); (case side2 => exact HC0_1.out); (case side3 => repeat (first | exact (Kd.C_below HR1.out HB.out) | (with_reducible refine Kd.C_alloc ?_ _) | (with_reducible refine Kd.C_drewN ?_ _) | (with_reducible refine Kd.C_drew ?_))); (case side4 => exact HC1.out); rintro e w16 ⟨v270, rfl, ho0, hb⟩; refine ⟨_, rfl, ?_⟩; have n0_ := Z0.mk (Kd.R_below (by (with_reducible repeat (first | apply Kd.R_alloc | apply Kd.R_drewN | apply Kd.R_drew)); exact HO_7.out) hb); have n1_ := Z0.mk (Kd.R_lower ho0 (bZ (by repeat (first | (with_reducible first | exact HB.out | apply below_alloc | apply bN | apply bD | refine bS ?_ GE264.out) | exact HB.out)))); have n2_ := Z0.mk (kB (g := gb264) (o := .cells #[.int .i64 a0_0, .slice A0_1 l0_1.length c0_1] 24 (0, 0)) (by (with_reducible repeat (first | refine kN ?_ _ | refine kD ?_ | refine kA ?_ _)); exact BK264.out) hb); have n3_ := Z0.mk (bT (by repeat (first | (with_reducible first | exact HB.out | apply below_alloc | apply bN | apply bD | refine bS ?_ GE264.out) | exact HB.out)) hb); clear HO_7; clear BK264; clear HB; have HO_7 := n0_; have HO271 := n1_; have BK264 := n2_; have HB := n3_; clear n0_ n1_ n2_ n3_; (try clear hb); (try clear hb2); (try clear hk); (try clear hi); (try clear ho0)))
       go_loopg [11] k1 (fun kq v11 w' => ∃ (x11_2 : Int), v11 = .int .i64 x11_2 ∧ Z0 (qr15Of.l1 kq l1 x7_1 x8_1 x9_1 t269 x11_2 a0_0 l0_1 = some (r1, r2)) ∧ Z0 (kq ≤ k1) ∧ Z0 (Kd.R (Kd.int .i64) 3 w' w.heap.size (fun _ => True) v267 x7_1) ∧ Z0 (Kd.R Kd.bool 4 w' w.heap.size (fun _ => True) v270 t269) ∧ Z0 (w'.heap[gb264]? = some (.cells #[.int .i64 a0_0, (.slice A0_1 l0_1.length c0_1)] 24 (0, 0))) ∧ Z0 (Below w.heap.size w w'))
       case atStart => exact ⟨(0), (by first | rfl | (simp; done) | (simp [*]; done)), H', ⟨Nat.le_refl _⟩, ⟨by (with_reducible repeat (first | apply Kd.R_alloc | apply Kd.R_drewN | apply Kd.R_drew)); exact HO_7.out⟩, ⟨by (with_reducible repeat (first | apply Kd.R_alloc | apply Kd.R_drewN | apply Kd.R_drew)); exact HO271.out⟩, ⟨by (with_reducible repeat (first | refine kN ?_ _ | refine kD ?_ | refine kA ?_ _)); exact BK264.out⟩, ⟨by repeat (first | (with_reducible first | exact HB.out | apply below_alloc | apply bN | apply bD | refine bS ?_ GE264.out) | exact HB.out)⟩⟩
       case round =>
        clear H'; (try clear c1); (try clear p2); (try clear c3); (try clear c4); (try clear c4b0); (try clear c4b1); (try clear c5); (try clear c5b0); (try clear c5b1); (try clear c6); (try clear c6b0); (try clear c6b1); (try clear c8); (try clear c13); (try clear c13b0); (try clear hcz10_0); (try clear hcz10_1); (try clear hcz15_0); (try clear hcz15_1); (try clear hcz8_0); (try clear hcz8_1); (try clear hfz10_0); (try clear hfz10_1); (try clear hfz15_0); (try clear hfz15_1); (try clear hfz8_0); (try clear hfz8_1); (try clear p2)
        obtain ⟨x11_2, rfl, HA, HK2, HO_7, HO_10, BK264, HB⟩ := hrel
        cases gk with
        | zero => exact absurd HA.out (by simp [qr15Of.l1])
        | succ k2 =>
         have H := HA.out
         clear HA
         simp only [qr15Of.l1] at H
         by_cases c17 : 0 ≤ x11_2
         ·rw [if_pos c17] at H
          have c17b0 : decide (0 ≤ x11_2) = true := decide_eq_true c17
          clear c17
          by_cases c18 : x11_2 < (t269.length : Int)
          ·rw [if_pos c18] at H
           have c18b0 : decide (x11_2 < (t269.length : Int)) = true := decide_eq_true c18
           clear c18
           obtain ⟨bq19, hbq19⟩ : ∃ b_ : Bool, b_ = (rdOf false t269 x11_2) := ⟨_, rfl⟩
           replace H : (if bq19 = true then (if x11_2 = x9_1 then (if 0 ≤ x9_1 then (if x9_1 < (x7_1.length : Int) then (qr15Of.l0 k2 l1 (x7_1.set (x9_1 : Int).toNat x8_1) (wrap64 (x8_1 + 1)) (wrap64 (x9_1 + 1)) a0_0 l0_1) else (none)) else (none)) else (if x11_2 < (x7_1.length : Int) then (if 0 ≤ x9_1 then (if x9_1 < (x7_1.length : Int) then (qr15Of.l0 k2 l1 (x7_1.set (x9_1 : Int).toNat (rd x7_1 x11_2)) x8_1 (wrap64 (x9_1 + 1)) a0_0 l0_1) else (none)) else (none)) else (none))) else (qr15Of.l1 k2 l1 x7_1 x8_1 x9_1 t269 (wrap64 (x11_2 + 1)) a0_0 l0_1)) = some (r1, r2) := by rw [← hbq19] at H; exact H
           have Nbq19 := Z0.mk hbq19
           clear hbq19
           by_cases c20 : bq19 = true
           ·subst c20
            have H1 : (if x11_2 = x9_1 then (if 0 ≤ x9_1 then (if x9_1 < (x7_1.length : Int) then (qr15Of.l0 k2 l1 (x7_1.set (x9_1 : Int).toNat x8_1) (wrap64 (x8_1 + 1)) (wrap64 (x9_1 + 1)) a0_0 l0_1) else (none)) else (none)) else (if x11_2 < (x7_1.length : Int) then (if 0 ≤ x9_1 then (if x9_1 < (x7_1.length : Int) then (qr15Of.l0 k2 l1 (x7_1.set (x9_1 : Int).toNat (rd x7_1 x11_2)) x8_1 (wrap64 (x9_1 + 1)) a0_0 l0_1) else (none)) else (none)) else (none))) = some (r1, r2) := by rw [if_pos rfl] at H; exact H
            clear H
            have H := H1
            clear H1
            by_cases c21 : x11_2 = x9_1
            ·rw [if_pos c21] at H
             have c21b0 : (x11_2 == x9_1) = true := beq_iff_eq.mpr c21
             have c21b1 : (x11_2 != x9_1) = false := bne_eq_false_iff_eq.mpr c21
             clear c21
             by_cases c22 : 0 ≤ x9_1
             ·rw [if_pos c22] at H
              have c22b0 : decide (0 ≤ x9_1) = true := decide_eq_true c22
              clear c22
              by_cases c23 : x9_1 < (x7_1.length : Int)
              ·rw [if_pos c23] at H
               have c23b0 : decide (x9_1 < (x7_1.length : Int)) = true := decide_eq_true c23
               clear c23
               obtain ⟨y273, hy273⟩ : ∃ y_ : List Int, y_ = (x7_1.set (x9_1 : Int).toNat x8_1) := ⟨_, rfl⟩
               replace H : (qr15Of.l0 k2 l1 y273 (wrap64 (x8_1 + 1)) (wrap64 (x9_1 + 1)) a0_0 l0_1) = some (r1, r2) := by first | (rw [hy273]; with_reducible exact H) | (have H2_ := (Option.bind_some _ _).symm.trans H; rw [hy273]; with_reducible exact H2_) | (have H2_ := (Option.bind_some _ _).symm.trans H; with_reducible exact H2_) | with_reducible exact H | (rw [hy273]; exact H) | exact H
               have Ny273 := Z0.mk hy273
               clear hy273
               have H' := Z0.mk H
               clear H
               obtain ⟨Ao25, co25, eo25⟩ := Kd.R_slice HO_10.out
               subst eo25
               have p272 : 0 ≤ (x11_2 : Int) := of_decide_eq_true (by first | (with_reducible assumption) | assumption)
               have q272 : x11_2 < (t269.length : Int) := of_decide_eq_true (by first | (with_reducible assumption) | assumption)
               obtain ⟨ad272, e272, hx272_0⟩ := Kd.at_bool (Kd.R_reads' HO_10.out).2.2 x11_2 p272 q272
               (try rw [← Nbq19.out] at hx272_0)
               cases e272
               replace p272 := eq_true p272
               replace q272 := eq_true q272
               have p24 : 0 ≤ (x9_1 : Int) := of_decide_eq_true (by first | (with_reducible assumption) | assumption)
               have q24 : (x9_1 : Int) < ((x7_1.length : Int) : Int) := of_decide_eq_true (by first | (with_reducible assumption) | assumption)
               obtain ⟨go24, co24, eo24, gb24, gl24, cl24, HG24⟩ := Kd.R_form HO_7.out (by omega)
               (first | cases eo24 | (injection eo24 with ea_ en_ ec_; (first | subst ea_ | (injection ea_ with ea_; subst ea_)); subst ec_; clear en_))
               have GB24 := Z0.mk gb24
               have GG24 := Z0.mk HG24
               clear gb24 gl24 HG24
               obtain ⟨hx24_0, hf24_0⟩ := Kd.R_celln 0 HO_7.out (x9_1 : Int) p24 q24
               replace p24 := eq_true p24
               replace q24 := eq_true q24
               have HP26 := Kd.R_putg HO_7.out (x9_1 : Int) x8_1
               go_wp2_with (first | ((with_reducible refine gate_store (t := 3) (p := 44) rfl ?_); refine store_event (t := 3) (p := 44) (v := ?vo_w27) (w1 := (wr.setCell ⟨go24, (x9_1 : Int).toNat, none⟩ (.int .i64 x8_1))) ?hg ?ho ?hn ?hr ?_; (case ho => rfl); (case hg => rfl); (case hn => rfl); (case hr => first | (go_simp; done) | (go_simp; rfl)); intro w27 hw; have hg : wr.grownBy w27 (some go24) := (by rw [hw]; exact HP26.2); have hp_ : Kd.R (Kd.int .i64) 3 w27 w.heap.size (fun _ => True) (.slice (some ⟨go24, 0, none⟩) x7_1.length co24) y273 := (by rw [hw, Ny273.out]; exact HP26.1); clear HP26; have n0_ := Z0.mk (hp_); have n1_ := Z0.mk (Kd.R_over' (v := (.slice (some ⟨go24, 0, none⟩) x7_1.length co24)) (by (with_reducible repeat (first | apply Kd.R_alloc | apply Kd.R_drewN | apply Kd.R_drew)); exact HO_10.out) (Kd.R_typed HO_7.out) (by decide) hg); have n2_ := Z0.mk (blk_grown (g := gb264) (o := .cells #[.int .i64 a0_0, .slice A0_1 l0_1.length c0_1] 24 (0, 0)) (by (with_reducible repeat (first | refine kN ?_ _ | refine kD ?_ | refine kA ?_ _)); exact BK264.out) hg (Kd.R_ne HO_7.out BK264.out (by decide))); have n3_ := Z0.mk ((by rw [hw]; exact bS (HB.out) GB24.out : Below w.heap.size w w27)); clear HO_7; clear HO_10; clear BK264; clear HB; have HO_7 := n0_; have HO_10 := n1_; have BK264 := n2_; have HB := n3_; clear n0_ n1_ n2_ n3_; clear hg hw hp_))
               go_roundg k2
               case measure => have := HK1.out; have := HK2.out; omega
               case rel => exact ⟨(y273), (wrap64 (x8_1 + 1)), (wrap64 (x9_1 + 1)), (by first | rfl | (simp; done) | (simp [*]; done)), (by first | rfl | (simp; done) | (simp [*]; done)), H', ⟨by have := HK1.out; have := HK2.out; omega⟩, ⟨by (with_reducible repeat (first | apply Kd.R_alloc | apply Kd.R_drewN | apply Kd.R_drew)); exact HO_7.out⟩, ⟨by (with_reducible repeat (first | refine kN ?_ _ | refine kD ?_ | refine kA ?_ _)); exact BK264.out⟩, ⟨by repeat (first | (with_reducible first | exact HB.out | apply below_alloc | apply bN | apply bD | refine bS ?_ GE264.out) | exact HB.out)⟩⟩
              ·rw [if_neg c23] at H
               exact absurd H (by simp)
             ·rw [if_neg c22] at H
              exact absurd H (by simp)
            ·rw [if_neg c21] at H
             have c21b0 : (x11_2 == x9_1) = false := beq_eq_false_iff_ne.mpr c21
             have c21b1 : (x11_2 != x9_1) = true := bne_iff_ne.mpr c21
             by_cases c28 : x11_2 < (x7_1.length : Int)
             ·rw [if_pos c28] at H
              have c28b0 : decide (x11_2 < (x7_1.length : Int)) = true := decide_eq_true c28
              clear c28
              by_cases c29 : 0 ≤ x9_1
              ·rw [if_pos c29] at H
               have c29b0 : decide (0 ≤ x9_1) = true := decide_eq_true c29
               clear c29
               by_cases c30 : x9_1 < (x7_1.length : Int)
               ·rw [if_pos c30] at H
                have c30b0 : decide (x9_1 < (x7_1.length : Int)) = true := decide_eq_true c30
                clear c30
                obtain ⟨y275, hy275⟩ : ∃ y_ : List Int, y_ = (x7_1.set (x9_1 : Int).toNat (rd x7_1 x11_2)) := ⟨_, rfl⟩
                replace H : (qr15Of.l0 k2 l1 y275 x8_1 (wrap64 (x9_1 + 1)) a0_0 l0_1) = some (r1, r2) := by first | (rw [hy275]; with_reducible exact H) | (have H2_ := (Option.bind_some _ _).symm.trans H; rw [hy275]; with_reducible exact H2_) | (have H2_ := (Option.bind_some _ _).symm.trans H; with_reducible exact H2_) | with_reducible exact H | (rw [hy275]; exact H) | exact H
                have Ny275 := Z0.mk hy275
                clear hy275
                have H' := Z0.mk H
                clear H
                obtain ⟨Ao32, co32, eo32⟩ := Kd.R_slice HO_10.out
                subst eo32
                have p272 : 0 ≤ (x11_2 : Int) := of_decide_eq_true (by first | (with_reducible assumption) | assumption)
                have q272 : x11_2 < (t269.length : Int) := of_decide_eq_true (by first | (with_reducible assumption) | assumption)
                obtain ⟨ad272, e272, hx272_0⟩ := Kd.at_bool (Kd.R_reads' HO_10.out).2.2 x11_2 p272 q272
                (try rw [← Nbq19.out] at hx272_0)
                cases e272
                replace p272 := eq_true p272
                replace q272 := eq_true q272
                obtain ⟨Ao33, co33, eo33⟩ := Kd.R_slice HO_7.out
                subst eo33
                have p274 : 0 ≤ (x11_2 : Int) := of_decide_eq_true (by first | (with_reducible assumption) | assumption)
                have q274 : x11_2 < (x7_1.length : Int) := of_decide_eq_true (by first | (with_reducible assumption) | assumption)
                obtain ⟨ad274, e274, hx274_0⟩ := Kd.at_int (Kd.R_reads' HO_7.out).2.2 x11_2 p274 q274
                cases e274
                replace p274 := eq_true p274
                replace q274 := eq_true q274
                have p31 : 0 ≤ (x9_1 : Int) := of_decide_eq_true (by first | (with_reducible assumption) | assumption)
                have q31 : (x9_1 : Int) < ((x7_1.length : Int) : Int) := of_decide_eq_true (by first | (with_reducible assumption) | assumption)
                obtain ⟨go31, co31, eo31, gb31, gl31, cl31, HG31⟩ := Kd.R_form HO_7.out (by omega)
                (first | cases eo31 | (injection eo31 with ea_ en_ ec_; (first | subst ea_ | (injection ea_ with ea_; subst ea_)); subst ec_; clear en_))
                have GB31 := Z0.mk gb31
                have GG31 := Z0.mk HG31
                clear gb31 gl31 HG31
                (first | simp only [add_plain] at hx274_0 | skip)
                obtain ⟨hx31_0, hf31_0⟩ := Kd.R_celln 0 HO_7.out (x9_1 : Int) p31 q31
                replace p31 := eq_true p31
                replace q31 := eq_true q31
                have HP34 := Kd.R_putg HO_7.out (x9_1 : Int) (rd x7_1 x11_2)
                go_wp2_with (first | ((with_reducible refine gate_store (t := 3) (p := 53) rfl ?_); refine store_event (t := 3) (p := 53) (v := ?vo_w35) (w1 := (wr.setCell ⟨go31, (x9_1 : Int).toNat, none⟩ (.int .i64 (rd x7_1 x11_2)))) ?hg ?ho ?hn ?hr ?_; (case ho => rfl); (case hg => rfl); (case hn => rfl); (case hr => first | (go_simp; done) | (go_simp; rfl)); intro w35 hw; have hg : wr.grownBy w35 (some go31) := (by rw [hw]; exact HP34.2); have hp_ : Kd.R (Kd.int .i64) 3 w35 w.heap.size (fun _ => True) (.slice (some ⟨go31, 0, none⟩) x7_1.length co33) y275 := (by rw [hw, Ny275.out]; exact HP34.1); clear HP34; have n0_ := Z0.mk (hp_); have n1_ := Z0.mk (Kd.R_over' (v := (.slice (some ⟨go31, 0, none⟩) x7_1.length co33)) (by (with_reducible repeat (first | apply Kd.R_alloc | apply Kd.R_drewN | apply Kd.R_drew)); exact HO_10.out) (Kd.R_typed HO_7.out) (by decide) hg); have n2_ := Z0.mk (blk_grown (g := gb264) (o := .cells #[.int .i64 a0_0, .slice A0_1 l0_1.length c0_1] 24 (0, 0)) (by (with_reducible repeat (first | refine kN ?_ _ | refine kD ?_ | refine kA ?_ _)); exact BK264.out) hg (Kd.R_ne HO_7.out BK264.out (by decide))); have n3_ := Z0.mk ((by rw [hw]; exact bS (HB.out) GB31.out : Below w.heap.size w w35)); clear HO_7; clear HO_10; clear BK264; clear HB; have HO_7 := n0_; have HO_10 := n1_; have BK264 := n2_; have HB := n3_; clear n0_ n1_ n2_ n3_; clear hg hw hp_))
                go_roundg k2
                case measure => have := HK1.out; have := HK2.out; omega
                case rel => exact ⟨(y275), (x8_1), (wrap64 (x9_1 + 1)), (by first | rfl | (simp; done) | (simp [*]; done)), (by first | rfl | (simp; done) | (simp [*]; done)), H', ⟨by have := HK1.out; have := HK2.out; omega⟩, ⟨by (with_reducible repeat (first | apply Kd.R_alloc | apply Kd.R_drewN | apply Kd.R_drew)); exact HO_7.out⟩, ⟨by (with_reducible repeat (first | refine kN ?_ _ | refine kD ?_ | refine kA ?_ _)); exact BK264.out⟩, ⟨by repeat (first | (with_reducible first | exact HB.out | apply below_alloc | apply bN | apply bD | refine bS ?_ GE264.out) | exact HB.out)⟩⟩
               ·rw [if_neg c30] at H
                exact absurd H (by simp)
              ·rw [if_neg c29] at H
               exact absurd H (by simp)
             ·rw [if_neg c28] at H
              exact absurd H (by simp)
           ·replace c20 := Bool.eq_false_iff.mpr c20
            subst c20
            have H1 : (qr15Of.l1 k2 l1 x7_1 x8_1 x9_1 t269 (wrap64 (x11_2 + 1)) a0_0 l0_1) = some (r1, r2) := by rw [if_neg (show ¬ (false = true) by decide)] at H; exact H
            clear H
            have H := H1
            clear H1
            have H' := Z0.mk H
            clear H
            obtain ⟨Ao36, co36, eo36⟩ := Kd.R_slice HO_10.out
            subst eo36
            have p272 : 0 ≤ (x11_2 : Int) := of_decide_eq_true (by first | (with_reducible assumption) | assumption)
            have q272 : x11_2 < (t269.length : Int) := of_decide_eq_true (by first | (with_reducible assumption) | assumption)
            obtain ⟨ad272, e272, hx272_0⟩ := Kd.at_bool (Kd.R_reads' HO_10.out).2.2 x11_2 p272 q272
            (try rw [← Nbq19.out] at hx272_0)
            cases e272
            replace p272 := eq_true p272
            replace q272 := eq_true q272
            go_wp2
            go_roundg k2
            case measure => have := HK1.out; have := HK2.out; omega
            case rel => exact ⟨(wrap64 (x11_2 + 1)), (by first | rfl | (simp; done) | (simp [*]; done)), H', ⟨by have := HK1.out; have := HK2.out; omega⟩, ⟨by (with_reducible repeat (first | apply Kd.R_alloc | apply Kd.R_drewN | apply Kd.R_drew)); exact HO_7.out⟩, ⟨by (with_reducible repeat (first | apply Kd.R_alloc | apply Kd.R_drewN | apply Kd.R_drew)); exact HO_10.out⟩, ⟨by (with_reducible repeat (first | refine kN ?_ _ | refine kD ?_ | refine kA ?_ _)); exact BK264.out⟩, ⟨by repeat (first | (with_reducible first | exact HB.out | apply below_alloc | apply bN | apply bD | refine bS ?_ GE264.out) | exact HB.out)⟩⟩
          ·rw [if_neg c18] at H
           exact absurd H (by simp)
         ·rw [if_neg c17] at H
          exact absurd H (by simp)
      ·rw [if_neg c13] at H
       have c13b0 : decide (x9_1 < a0_0) = false := decide_eq_false c13
       clear c13
       simp only [Option.some.injEq, Prod.mk.injEq] at H
       obtain ⟨rfl, rfl⟩ := H
       have hcz37_0 : wr.cell? ⟨gb264, 0, none⟩ = some (.int .i64 a0_0) := (kC BK264.out 0).trans rfl
       have hcz37_1 : wr.cell? ⟨gb264, 1, none⟩ = some (.slice A0_1 l0_1.length c0_1) := (kC BK264.out 1).trans rfl
       have hfz37_0 := kF BK264.out 0
       have hfz37_1 := kF BK264.out 1
       go_wp2
       go_ret2
       exact ⟨_, by first | rfl | (simp [errW_none, errW_some] <;> rfl) | (simp [*, errW_none, errW_some] <;> rfl), by (with_reducible repeat (first | apply Kd.R_alloc | apply Kd.R_drewN | apply Kd.R_drew)); exact HO_7.out, by repeat (first | (with_reducible first | exact HB.out | apply below_alloc | apply bN | apply bD | refine bS ?_ GE264.out) | exact HB.out)⟩
   ·rw [if_neg c6] at H
    exact absurd H (by simp)
  ·rw [if_neg c5] at H
   exact absurd H (by simp)
 ·rw [if_neg c4] at H
  have c4b0 : (t265 == 0) = false := beq_eq_false_iff_ne.mpr c4
  have c4b1 : (t265 != 0) = true := bne_iff_ne.mpr c4
  simp only [Option.some.injEq, Prod.mk.injEq] at H
  obtain ⟨rfl, rfl⟩ := H
  go_enter Try.func38, Try.ntmps38
  go_wp2_with (first | ((with_reducible refine gate_dst (N := 2) rfl ?_); refine bE ?hg (N := 2) ?hd (cs := #[.int .i64 a0_0, .slice A0_1 l0_1.length c0_1]) (t := 24) ?hr ?_; (case hd => rfl); (case hg => rfl); (case hr => first | (go_simp; done) | (go_simp; rfl)); intro gb264 hg w38 hbox hb; have n0_ := Z0.mk (bT (by repeat (first | (with_reducible first | exact HB.out | apply below_alloc | apply bN | apply bD) | exact HB.out)) hb); have n1_ := Z0.mk (hbox); have n2_ := Z0.mk ((by rw [hg]; exact (bZ (by repeat (first | (with_reducible first | exact HB.out | apply below_alloc | apply bN | apply bD) | exact HB.out))) : w.heap.size ≤ gb264)); have n3_ := Z0.mk ((by rw [hg]; exact (bZ (by repeat (first | (with_reducible first | exact HB.out | apply below_alloc | apply bN | apply bD) | exact HB.out))) : w.heap.size ≤ gb264)); clear HB; have HB := n0_; have BK264 := n1_; have GW264 := n2_; have GE264 := n3_; clear n0_ n1_ n2_ n3_; clear hb hbox hg; have hcz39_0 : w38.cell? ⟨gb264, 0, none⟩ = some (.int .i64 a0_0) := (kC BK264.out 0).trans rfl; have hcz39_1 : w38.cell? ⟨gb264, 1, none⟩ = some (.slice A0_1 l0_1.length c0_1) := (kC BK264.out 1).trans rfl; have hfz39_0 := kF BK264.out 0; have hfz39_1 := kF BK264.out 1) | ((with_reducible refine gC (f := 69) rfl ?_); refine gL (some 14) rfl rfl Try.func69 (by kernel_rfl) rfl #[.agg #[.int .i64 a0_0, .slice A0_1 l0_1.length c0_1], .slice A1 l1.length c1] rfl (by (try simp only [List.map_toArray, List.map_cons, List.map_nil]); first | done | rfl | (simp only [List.length_drop, List.length_take]; rfl)) ?_; (with_reducible refine (qr14Outs.calls k a0_0 _ _ l0_1 _ _ l1 t265 _ ?side1 ?side2 ?side3 ?side4 A3.out).mono ?_); (case side1 => repeat (first | exact (Kd.C_below HR0_1.out HB.out) | (with_reducible refine Kd.C_alloc ?_ _) | (with_reducible refine Kd.C_drewN ?_ _) | (with_reducible refine Kd.C_drew ?_))); (case side2 => exact HC0_1.out); (case side3 => repeat (first | exact (Kd.C_below HR1.out HB.out) | (with_reducible refine Kd.C_alloc ?_ _) | (with_reducible refine Kd.C_drewN ?_ _) | (with_reducible refine Kd.C_drew ?_))); (case side4 => exact HC1.out); rintro e w40 ⟨rfl, hb⟩; refine ⟨_, rfl, ?_⟩; have n0_ := Z0.mk (kB (g := gb264) (o := .cells #[.int .i64 a0_0, .slice A0_1 l0_1.length c0_1] 24 (0, 0)) (by (with_reducible repeat (first | refine kN ?_ _ | refine kD ?_ | refine kA ?_ _)); exact BK264.out) hb); have n1_ := Z0.mk (bT (by repeat (first | (with_reducible first | exact HB.out | apply below_alloc | apply bN | apply bD | refine bS ?_ GE264.out) | exact HB.out)) hb); clear BK264; clear HB; have BK264 := n0_; have HB := n1_; clear n0_ n1_; (try clear hb); (try clear hb2); (try clear hk); (try clear hi)))
  go_ret2
  exact ⟨_, by first | rfl | (simp [errW_none, errW_some] <;> rfl) | (simp [*, errW_none, errW_some] <;> rfl), by first | exact Kd.R_nil _ _ _ _ _ | exact Kd.N_nil _ _ _ _ _ | exact Kd.V_nil _ _ _ _ _ | exact Kd.Q_nil _ _ _ _ _ | exact Kd.S_nil _ _ _ _ _, by repeat (first | (with_reducible first | exact HB.out | apply below_alloc | apply bN | apply bD | refine bS ?_ GE264.out) | exact HB.out)⟩
def qr15Joined.f (k : Nat) (a0_0 : Int) (l0_1 : List (S37)) (l1 : List Int) (a2 : Int) (a3 : Int) : Option (Bool × Int) := (qr15Of.f k a0_0 l0_1 l1).bind fun bt411 => (if bt411.2 = 0 then (if a2 < 0 then (some (false, 1)) else (if a2 ≥ a0_0 then (some (false, 1)) else (if a3 < 0 then (some (false, 1)) else (if a3 ≥ a0_0 then (some (false, 1)) else (if 0 ≤ a2 then (if a2 < (bt411.1.length : Int) then (if 0 ≤ a3 then (if a3 < (bt411.1.length : Int) then (some (((rd bt411.1 a2) == (rd bt411.1 a3)), 0)) else (none)) else (none)) else (none)) else (none)))))) else (some (false, bt411.2)))
set_option maxHeartbeats 8000000 in
set_option maxRecDepth 100000 in
theorem qr15Joined.calls (k : Nat) (a0_0 : Int) (A0_1 : Option Addr) (c0_1 : Nat) (l0_1 : List (S37)) (A1 : Option Addr) (c1 : Nat) (l1 : List Int) (a2 : Int) (a3 : Int) (r1 : Bool) (r2 : Int) (w : World) (hr0_1 : Kd.C k37 w A0_1 l0_1.length l0_1) (hc0_1 : l0_1.length ≤ c0_1) (hr1 : Kd.C (Kd.int .i64) w A1 l1.length l1) (hc1 : l1.length ≤ c1) (h : qr15Joined.f k a0_0 l0_1 l1 a2 a3 = some (r1, r2)) :
  Calls Try.prog 47 #[.agg #[.int .i64 a0_0, .slice A0_1 l0_1.length c0_1], .slice A1 l1.length c1, .int .i64 a2, .int .i64 a3] w fun e w' => e = .returned (.tuple #[.bool r1, .int .i64 r2]) ∧ Below w.heap.size w w' := by
 have hu24 := Try.underlying24
 have HR0_1 := Z0.mk hr0_1
 have HC0_1 := Z0.mk hc0_1
 clear hr0_1 hc0_1
 have HR1 := Z0.mk hr1
 have HC1 := Z0.mk hc1
 clear hr1 hc1
 have HB := Z0.mk (Below.refl w.heap.size w)
 have H : ((qr15Of.f k a0_0 l0_1 l1).bind fun bt411 => (if bt411.2 = 0 then (if a2 < 0 then (some (false, 1)) else (if a2 ≥ a0_0 then (some (false, 1)) else (if a3 < 0 then (some (false, 1)) else (if a3 ≥ a0_0 then (some (false, 1)) else (if 0 ≤ a2 then (if a2 < (bt411.1.length : Int) then (if 0 ≤ a3 then (if a3 < (bt411.1.length : Int) then (some (((rd bt411.1 a2) == (rd bt411.1 a3)), 0)) else (none)) else (none)) else (none)) else (none)))))) else (some (false, bt411.2)))) = some (r1, r2) := h
 clear h
 replace H := Option.bind_eq_some_iff.mp H
 obtain ⟨⟨t411, t414⟩, A50, H⟩ := H
 replace H : (if t414 = 0 then (if a2 < 0 then (some (false, 1)) else (if a2 ≥ a0_0 then (some (false, 1)) else (if a3 < 0 then (some (false, 1)) else (if a3 ≥ a0_0 then (some (false, 1)) else (if 0 ≤ a2 then (if a2 < (t411.length : Int) then (if 0 ≤ a3 then (if a3 < (t411.length : Int) then (some (((rd t411 a2) == (rd t411 a3)), 0)) else (none)) else (none)) else (none)) else (none)))))) else (some (false, t414))) = some (r1, r2) := H
 have A5 := Z0.mk A50
 clear A50
 by_cases c6 : t414 = 0
 ·rw [if_pos c6] at H
  have c6b0 : (t414 == 0) = true := beq_iff_eq.mpr c6
  have c6b1 : (t414 != 0) = false := bne_eq_false_iff_eq.mpr c6
  clear c6
  by_cases c7 : a2 < 0
  ·rw [if_pos c7] at H
   have c7b0 : decide (a2 < 0) = true := decide_eq_true c7
   clear c7
   simp only [Option.some.injEq, Prod.mk.injEq] at H
   obtain ⟨rfl, rfl⟩ := H
   go_enter Try.func47, Try.ntmps47
   go_wp2_with (first | ((with_reducible refine gate_dst (N := 4) rfl ?_); refine bE ?hg (N := 4) ?hd (cs := #[.int .i64 a0_0, .slice A0_1 l0_1.length c0_1]) (t := 24) ?hr ?_; (case hd => rfl); (case hg => rfl); (case hr => first | (go_simp; done) | (go_simp; rfl)); intro gb410 hg w8 hbox hb; have n0_ := Z0.mk (bT (by repeat (first | (with_reducible first | exact HB.out | apply below_alloc | apply bN | apply bD) | exact HB.out)) hb); have n1_ := Z0.mk (hbox); have n2_ := Z0.mk ((by rw [hg]; exact (bZ (by repeat (first | (with_reducible first | exact HB.out | apply below_alloc | apply bN | apply bD) | exact HB.out))) : w.heap.size ≤ gb410)); have n3_ := Z0.mk ((by rw [hg]; exact (bZ (by repeat (first | (with_reducible first | exact HB.out | apply below_alloc | apply bN | apply bD) | exact HB.out))) : w.heap.size ≤ gb410)); clear HB; have HB := n0_; have BK410 := n1_; have GW410 := n2_; have GE410 := n3_; clear n0_ n1_ n2_ n3_; clear hb hbox hg; have hcz9_0 : w8.cell? ⟨gb410, 0, none⟩ = some (.int .i64 a0_0) := (kC BK410.out 0).trans rfl; have hcz9_1 : w8.cell? ⟨gb410, 1, none⟩ = some (.slice A0_1 l0_1.length c0_1) := (kC BK410.out 1).trans rfl; have hfz9_0 := kF BK410.out 0; have hfz9_1 := kF BK410.out 1) | (go_at_call 38; (with_reducible refine (qr15Of.calls k a0_0 _ _ l0_1 _ _ l1 t411 t414 _ ?side1 ?side2 ?side3 ?side4 A5.out).mono ?_); (case side1 => repeat (first | exact (Kd.C_below HR0_1.out HB.out) | (with_reducible refine Kd.C_alloc ?_ _) | (with_reducible refine Kd.C_drewN ?_ _) | (with_reducible refine Kd.C_drew ?_))); (case side2 => exact HC0_1.out); (case side3 => repeat (first | exact (Kd.C_below HR1.out HB.out) | (with_reducible refine Kd.C_alloc ?_ _) | (with_reducible refine Kd.C_drewN ?_ _) | (with_reducible refine Kd.C_drew ?_))); (case side4 => exact HC1.out); rintro e w10 ⟨v412, rfl, ho0, hb⟩; have n0_ := Z0.mk (Kd.R_lower ho0 (bZ (by repeat (first | (with_reducible first | exact HB.out | apply below_alloc | apply bN | apply bD | refine bS ?_ GE410.out) | exact HB.out)))); have n1_ := Z0.mk (kB (g := gb410) (o := .cells #[.int .i64 a0_0, .slice A0_1 l0_1.length c0_1] 24 (0, 0)) (by (with_reducible repeat (first | refine kN ?_ _ | refine kD ?_ | refine kA ?_ _)); exact BK410.out) hb); have n2_ := Z0.mk (bT (by repeat (first | (with_reducible first | exact HB.out | apply below_alloc | apply bN | apply bD | refine bS ?_ GE410.out) | exact HB.out)) hb); clear BK410; clear HB; have HO413 := n0_; have BK410 := n1_; have HB := n2_; clear n0_ n1_ n2_; (try clear hb); (try clear hb2); (try clear hk); (try clear hi); (try clear ho0)) | (go_quiet (fail)))
   go_ret2
   exact ⟨by first | rfl | (simp [errW_none, errW_some] <;> rfl) | (simp [*, errW_none, errW_some] <;> rfl), by repeat (first | (with_reducible first | exact HB.out | apply below_alloc | apply bN | apply bD | refine bS ?_ GE410.out) | exact HB.out)⟩
  ·rw [if_neg c7] at H
   have c7b0 : decide (a2 < 0) = false := decide_eq_false c7
   clear c7
   by_cases c11 : a2 ≥ a0_0
   ·rw [if_pos c11] at H
    have c11b0 : decide (a0_0 ≤ a2) = true := decide_eq_true c11
    clear c11
    simp only [Option.some.injEq, Prod.mk.injEq] at H
    obtain ⟨rfl, rfl⟩ := H
    go_enter Try.func47, Try.ntmps47
    go_wp2_with (first | ((with_reducible refine gate_dst (N := 4) rfl ?_); refine bE ?hg (N := 4) ?hd (cs := #[.int .i64 a0_0, .slice A0_1 l0_1.length c0_1]) (t := 24) ?hr ?_; (case hd => rfl); (case hg => rfl); (case hr => first | (go_simp; done) | (go_simp; rfl)); intro gb410 hg w12 hbox hb; have n0_ := Z0.mk (bT (by repeat (first | (with_reducible first | exact HB.out | apply below_alloc | apply bN | apply bD) | exact HB.out)) hb); have n1_ := Z0.mk (hbox); have n2_ := Z0.mk ((by rw [hg]; exact (bZ (by repeat (first | (with_reducible first | exact HB.out | apply below_alloc | apply bN | apply bD) | exact HB.out))) : w.heap.size ≤ gb410)); have n3_ := Z0.mk ((by rw [hg]; exact (bZ (by repeat (first | (with_reducible first | exact HB.out | apply below_alloc | apply bN | apply bD) | exact HB.out))) : w.heap.size ≤ gb410)); clear HB; have HB := n0_; have BK410 := n1_; have GW410 := n2_; have GE410 := n3_; clear n0_ n1_ n2_ n3_; clear hb hbox hg; have hcz13_0 : w12.cell? ⟨gb410, 0, none⟩ = some (.int .i64 a0_0) := (kC BK410.out 0).trans rfl; have hcz13_1 : w12.cell? ⟨gb410, 1, none⟩ = some (.slice A0_1 l0_1.length c0_1) := (kC BK410.out 1).trans rfl; have hfz13_0 := kF BK410.out 0; have hfz13_1 := kF BK410.out 1) | (go_at_call 38; (with_reducible refine (qr15Of.calls k a0_0 _ _ l0_1 _ _ l1 t411 t414 _ ?side1 ?side2 ?side3 ?side4 A5.out).mono ?_); (case side1 => repeat (first | exact (Kd.C_below HR0_1.out HB.out) | (with_reducible refine Kd.C_alloc ?_ _) | (with_reducible refine Kd.C_drewN ?_ _) | (with_reducible refine Kd.C_drew ?_))); (case side2 => exact HC0_1.out); (case side3 => repeat (first | exact (Kd.C_below HR1.out HB.out) | (with_reducible refine Kd.C_alloc ?_ _) | (with_reducible refine Kd.C_drewN ?_ _) | (with_reducible refine Kd.C_drew ?_))); (case side4 => exact HC1.out); rintro e w14 ⟨v412, rfl, ho0, hb⟩; have n0_ := Z0.mk (Kd.R_lower ho0 (bZ (by repeat (first | (with_reducible first | exact HB.out | apply below_alloc | apply bN | apply bD | refine bS ?_ GE410.out) | exact HB.out)))); have n1_ := Z0.mk (kB (g := gb410) (o := .cells #[.int .i64 a0_0, .slice A0_1 l0_1.length c0_1] 24 (0, 0)) (by (with_reducible repeat (first | refine kN ?_ _ | refine kD ?_ | refine kA ?_ _)); exact BK410.out) hb); have n2_ := Z0.mk (bT (by repeat (first | (with_reducible first | exact HB.out | apply below_alloc | apply bN | apply bD | refine bS ?_ GE410.out) | exact HB.out)) hb); clear BK410; clear HB; have HO413 := n0_; have BK410 := n1_; have HB := n2_; clear n0_ n1_ n2_; (try clear hb); (try clear hb2); (try clear hk); (try clear hi); (try clear ho0); have hcz15_0 : w14.cell? ⟨gb410, 0, none⟩ = some (.int .i64 a0_0) := (kC BK410.out 0).trans rfl; have hcz15_1 : w14.cell? ⟨gb410, 1, none⟩ = some (.slice A0_1 l0_1.length c0_1) := (kC BK410.out 1).trans rfl; have hfz15_0 := kF BK410.out 0; have hfz15_1 := kF BK410.out 1) | (go_quiet (fail)))
    go_ret2
    exact ⟨by first | rfl | (simp [errW_none, errW_some] <;> rfl) | (simp [*, errW_none, errW_some] <;> rfl), by repeat (first | (with_reducible first | exact HB.out | apply below_alloc | apply bN | apply bD | refine bS ?_ GE410.out) | exact HB.out)⟩
   ·rw [if_neg c11] at H
    have c11b0 : decide (a0_0 ≤ a2) = false := decide_eq_false c11
    clear c11
    by_cases c16 : a3 < 0
    ·rw [if_pos c16] at H
     have c16b0 : decide (a3 < 0) = true := decide_eq_true c16
     clear c16
     simp only [Option.some.injEq, Prod.mk.injEq] at H
     obtain ⟨rfl, rfl⟩ := H
     go_enter Try.func47, Try.ntmps47
     go_wp2_with (first | ((with_reducible refine gate_dst (N := 4) rfl ?_); refine bE ?hg (N := 4) ?hd (cs := #[.int .i64 a0_0, .slice A0_1 l0_1.length c0_1]) (t := 24) ?hr ?_; (case hd => rfl); (case hg => rfl); (case hr => first | (go_simp; done) | (go_simp; rfl)); intro gb410 hg w17 hbox hb; have n0_ := Z0.mk (bT (by repeat (first | (with_reducible first | exact HB.out | apply below_alloc | apply bN | apply bD) | exact HB.out)) hb); have n1_ := Z0.mk (hbox); have n2_ := Z0.mk ((by rw [hg]; exact (bZ (by repeat (first | (with_reducible first | exact HB.out | apply below_alloc | apply bN | apply bD) | exact HB.out))) : w.heap.size ≤ gb410)); have n3_ := Z0.mk ((by rw [hg]; exact (bZ (by repeat (first | (with_reducible first | exact HB.out | apply below_alloc | apply bN | apply bD) | exact HB.out))) : w.heap.size ≤ gb410)); clear HB; have HB := n0_; have BK410 := n1_; have GW410 := n2_; have GE410 := n3_; clear n0_ n1_ n2_ n3_; clear hb hbox hg; have hcz18_0 : w17.cell? ⟨gb410, 0, none⟩ = some (.int .i64 a0_0) := (kC BK410.out 0).trans rfl; have hcz18_1 : w17.cell? ⟨gb410, 1, none⟩ = some (.slice A0_1 l0_1.length c0_1) := (kC BK410.out 1).trans rfl; have hfz18_0 := kF BK410.out 0; have hfz18_1 := kF BK410.out 1) | (go_at_call 38; (with_reducible refine (qr15Of.calls k a0_0 _ _ l0_1 _ _ l1 t411 t414 _ ?side1 ?side2 ?side3 ?side4 A5.out).mono ?_); (case side1 => repeat (first | exact (Kd.C_below HR0_1.out HB.out) | (with_reducible refine Kd.C_alloc ?_ _) | (with_reducible refine Kd.C_drewN ?_ _) | (with_reducible refine Kd.C_drew ?_))); (case side2 => exact HC0_1.out); (case side3 => repeat (first | exact (Kd.C_below HR1.out HB.out) | (with_reducible refine Kd.C_alloc ?_ _) | (with_reducible refine Kd.C_drewN ?_ _) | (with_reducible refine Kd.C_drew ?_))); (case side4 => exact HC1.out); rintro e w19 ⟨v412, rfl, ho0, hb⟩; have n0_ := Z0.mk (Kd.R_lower ho0 (bZ (by repeat (first | (with_reducible first | exact HB.out | apply below_alloc | apply bN | apply bD | refine bS ?_ GE410.out) | exact HB.out)))); have n1_ := Z0.mk (kB (g := gb410) (o := .cells #[.int .i64 a0_0, .slice A0_1 l0_1.length c0_1] 24 (0, 0)) (by (with_reducible repeat (first | refine kN ?_ _ | refine kD ?_ | refine kA ?_ _)); exact BK410.out) hb); have n2_ := Z0.mk (bT (by repeat (first | (with_reducible first | exact HB.out | apply below_alloc | apply bN | apply bD | refine bS ?_ GE410.out) | exact HB.out)) hb); clear BK410; clear HB; have HO413 := n0_; have BK410 := n1_; have HB := n2_; clear n0_ n1_ n2_; (try clear hb); (try clear hb2); (try clear hk); (try clear hi); (try clear ho0); have hcz20_0 : w19.cell? ⟨gb410, 0, none⟩ = some (.int .i64 a0_0) := (kC BK410.out 0).trans rfl; have hcz20_1 : w19.cell? ⟨gb410, 1, none⟩ = some (.slice A0_1 l0_1.length c0_1) := (kC BK410.out 1).trans rfl; have hfz20_0 := kF BK410.out 0; have hfz20_1 := kF BK410.out 1) | (go_quiet (fail)))
     go_ret2
     exact ⟨by first | rfl | (simp [errW_none, errW_some] <;> rfl) | (simp [*, errW_none, errW_some] <;> rfl), by repeat (first | (with_reducible first | exact HB.out | apply below_alloc | apply bN | apply bD | refine bS ?_ GE410.out) | exact HB.out)⟩
    ·rw [if_neg c16] at H
     have c16b0 : decide (a3 < 0) = false := decide_eq_false c16
     clear c16
     by_cases c21 : a3 ≥ a0_0
     ·rw [if_pos c21] at H
      have c21b0 : decide (a0_0 ≤ a3) = true := decide_eq_true c21
      clear c21
      simp only [Option.some.injEq, Prod.mk.injEq] at H
      obtain ⟨rfl, rfl⟩ := H
      go_enter Try.func47, Try.ntmps47
      go_wp2_with (first | ((with_reducible refine gate_dst (N := 4) rfl ?_); refine bE ?hg (N := 4) ?hd (cs := #[.int .i64 a0_0, .slice A0_1 l0_1.length c0_1]) (t := 24) ?hr ?_; (case hd => rfl); (case hg => rfl); (case hr => first | (go_simp; done) | (go_simp; rfl)); intro gb410 hg w22 hbox hb; have n0_ := Z0.mk (bT (by repeat (first | (with_reducible first | exact HB.out | apply below_alloc | apply bN | apply bD) | exact HB.out)) hb); have n1_ := Z0.mk (hbox); have n2_ := Z0.mk ((by rw [hg]; exact (bZ (by repeat (first | (with_reducible first | exact HB.out | apply below_alloc | apply bN | apply bD) | exact HB.out))) : w.heap.size ≤ gb410)); have n3_ := Z0.mk ((by rw [hg]; exact (bZ (by repeat (first | (with_reducible first | exact HB.out | apply below_alloc | apply bN | apply bD) | exact HB.out))) : w.heap.size ≤ gb410)); clear HB; have HB := n0_; have BK410 := n1_; have GW410 := n2_; have GE410 := n3_; clear n0_ n1_ n2_ n3_; clear hb hbox hg; have hcz23_0 : w22.cell? ⟨gb410, 0, none⟩ = some (.int .i64 a0_0) := (kC BK410.out 0).trans rfl; have hcz23_1 : w22.cell? ⟨gb410, 1, none⟩ = some (.slice A0_1 l0_1.length c0_1) := (kC BK410.out 1).trans rfl; have hfz23_0 := kF BK410.out 0; have hfz23_1 := kF BK410.out 1) | (go_at_call 38; (with_reducible refine (qr15Of.calls k a0_0 _ _ l0_1 _ _ l1 t411 t414 _ ?side1 ?side2 ?side3 ?side4 A5.out).mono ?_); (case side1 => repeat (first | exact (Kd.C_below HR0_1.out HB.out) | (with_reducible refine Kd.C_alloc ?_ _) | (with_reducible refine Kd.C_drewN ?_ _) | (with_reducible refine Kd.C_drew ?_))); (case side2 => exact HC0_1.out); (case side3 => repeat (first | exact (Kd.C_below HR1.out HB.out) | (with_reducible refine Kd.C_alloc ?_ _) | (with_reducible refine Kd.C_drewN ?_ _) | (with_reducible refine Kd.C_drew ?_))); (case side4 => exact HC1.out); rintro e w24 ⟨v412, rfl, ho0, hb⟩; have n0_ := Z0.mk (Kd.R_lower ho0 (bZ (by repeat (first | (with_reducible first | exact HB.out | apply below_alloc | apply bN | apply bD | refine bS ?_ GE410.out) | exact HB.out)))); have n1_ := Z0.mk (kB (g := gb410) (o := .cells #[.int .i64 a0_0, .slice A0_1 l0_1.length c0_1] 24 (0, 0)) (by (with_reducible repeat (first | refine kN ?_ _ | refine kD ?_ | refine kA ?_ _)); exact BK410.out) hb); have n2_ := Z0.mk (bT (by repeat (first | (with_reducible first | exact HB.out | apply below_alloc | apply bN | apply bD | refine bS ?_ GE410.out) | exact HB.out)) hb); clear BK410; clear HB; have HO413 := n0_; have BK410 := n1_; have HB := n2_; clear n0_ n1_ n2_; (try clear hb); (try clear hb2); (try clear hk); (try clear hi); (try clear ho0); have hcz25_0 : w24.cell? ⟨gb410, 0, none⟩ = some (.int .i64 a0_0) := (kC BK410.out 0).trans rfl; have hcz25_1 : w24.cell? ⟨gb410, 1, none⟩ = some (.slice A0_1 l0_1.length c0_1) := (kC BK410.out 1).trans rfl; have hfz25_0 := kF BK410.out 0; have hfz25_1 := kF BK410.out 1) | (go_quiet (fail)))
      go_ret2
      exact ⟨by first | rfl | (simp [errW_none, errW_some] <;> rfl) | (simp [*, errW_none, errW_some] <;> rfl), by repeat (first | (with_reducible first | exact HB.out | apply below_alloc | apply bN | apply bD | refine bS ?_ GE410.out) | exact HB.out)⟩
     ·rw [if_neg c21] at H
      have c21b0 : decide (a0_0 ≤ a3) = false := decide_eq_false c21
      clear c21
      by_cases c26 : 0 ≤ a2
      ·rw [if_pos c26] at H
       have c26b0 : decide (0 ≤ a2) = true := decide_eq_true c26
       clear c26
       by_cases c27 : a2 < (t411.length : Int)
       ·rw [if_pos c27] at H
        have c27b0 : decide (a2 < (t411.length : Int)) = true := decide_eq_true c27
        clear c27
        by_cases c28 : 0 ≤ a3
        ·rw [if_pos c28] at H
         have c28b0 : decide (0 ≤ a3) = true := decide_eq_true c28
         clear c28
         by_cases c29 : a3 < (t411.length : Int)
         ·rw [if_pos c29] at H
          have c29b0 : decide (a3 < (t411.length : Int)) = true := decide_eq_true c29
          clear c29
          simp only [Option.some.injEq, Prod.mk.injEq] at H
          obtain ⟨rfl, rfl⟩ := H
          go_enter Try.func47, Try.ntmps47
          go_wp2_with (first | ((with_reducible refine gate_dst (N := 4) rfl ?_); refine bE ?hg (N := 4) ?hd (cs := #[.int .i64 a0_0, .slice A0_1 l0_1.length c0_1]) (t := 24) ?hr ?_; (case hd => rfl); (case hg => rfl); (case hr => first | (go_simp; done) | (go_simp; rfl)); intro gb410 hg w30 hbox hb; have n0_ := Z0.mk (bT (by repeat (first | (with_reducible first | exact HB.out | apply below_alloc | apply bN | apply bD) | exact HB.out)) hb); have n1_ := Z0.mk (hbox); have n2_ := Z0.mk ((by rw [hg]; exact (bZ (by repeat (first | (with_reducible first | exact HB.out | apply below_alloc | apply bN | apply bD) | exact HB.out))) : w.heap.size ≤ gb410)); have n3_ := Z0.mk ((by rw [hg]; exact (bZ (by repeat (first | (with_reducible first | exact HB.out | apply below_alloc | apply bN | apply bD) | exact HB.out))) : w.heap.size ≤ gb410)); clear HB; have HB := n0_; have BK410 := n1_; have GW410 := n2_; have GE410 := n3_; clear n0_ n1_ n2_ n3_; clear hb hbox hg; have hcz31_0 : w30.cell? ⟨gb410, 0, none⟩ = some (.int .i64 a0_0) := (kC BK410.out 0).trans rfl; have hcz31_1 : w30.cell? ⟨gb410, 1, none⟩ = some (.slice A0_1 l0_1.length c0_1) := (kC BK410.out 1).trans rfl; have hfz31_0 := kF BK410.out 0; have hfz31_1 := kF BK410.out 1) | (go_at_call 38; (with_reducible refine (qr15Of.calls k a0_0 _ _ l0_1 _ _ l1 t411 t414 _ ?side1 ?side2 ?side3 ?side4 A5.out).mono ?_); (case side1 => repeat (first | exact (Kd.C_below HR0_1.out HB.out) | (with_reducible refine Kd.C_alloc ?_ _) | (with_reducible refine Kd.C_drewN ?_ _) | (with_reducible refine Kd.C_drew ?_))); (case side2 => exact HC0_1.out); (case side3 => repeat (first | exact (Kd.C_below HR1.out HB.out) | (with_reducible refine Kd.C_alloc ?_ _) | (with_reducible refine Kd.C_drewN ?_ _) | (with_reducible refine Kd.C_drew ?_))); (case side4 => exact HC1.out); rintro e w32 ⟨v412, rfl, ho0, hb⟩; have n0_ := Z0.mk (Kd.R_lower ho0 (bZ (by repeat (first | (with_reducible first | exact HB.out | apply below_alloc | apply bN | apply bD | refine bS ?_ GE410.out) | exact HB.out)))); have n1_ := Z0.mk (kB (g := gb410) (o := .cells #[.int .i64 a0_0, .slice A0_1 l0_1.length c0_1] 24 (0, 0)) (by (with_reducible repeat (first | refine kN ?_ _ | refine kD ?_ | refine kA ?_ _)); exact BK410.out) hb); have n2_ := Z0.mk (bT (by repeat (first | (with_reducible first | exact HB.out | apply below_alloc | apply bN | apply bD | refine bS ?_ GE410.out) | exact HB.out)) hb); clear BK410; clear HB; have HO413 := n0_; have BK410 := n1_; have HB := n2_; clear n0_ n1_ n2_; (try clear hb); (try clear hb2); (try clear hk); (try clear hi); (try clear ho0); have hcz33_0 : w32.cell? ⟨gb410, 0, none⟩ = some (.int .i64 a0_0) := (kC BK410.out 0).trans rfl; have hcz33_1 : w32.cell? ⟨gb410, 1, none⟩ = some (.slice A0_1 l0_1.length c0_1) := (kC BK410.out 1).trans rfl; have hfz33_0 := kF BK410.out 0; have hfz33_1 := kF BK410.out 1; obtain ⟨Ao34, co34, eo34⟩ := Kd.R_slice HO413.out; subst eo34; have p415 : 0 ≤ (a2 : Int) := of_decide_eq_true (by first | (with_reducible assumption) | assumption); have q415 : a2 < (t411.length : Int) := of_decide_eq_true (by first | (with_reducible assumption) | assumption); obtain ⟨ad415, e415, hx415_0⟩ := Kd.at_int (Kd.R_reads' HO413.out).2.2 a2 p415 q415; cases e415; replace p415 := eq_true p415; replace q415 := eq_true q415; have p416 : 0 ≤ (a3 : Int) := of_decide_eq_true (by first | (with_reducible assumption) | assumption); have q416 : a3 < (t411.length : Int) := of_decide_eq_true (by first | (with_reducible assumption) | assumption); obtain ⟨ad416, e416, hx416_0⟩ := Kd.at_int (Kd.R_reads' HO413.out).2.2 a3 p416 q416; obtain rfl : ad415 = ad416 := (by injection e416); replace p416 := eq_true p416; replace q416 := eq_true q416) | (go_quiet (fail)))
          go_ret2
          exact ⟨by first | rfl | (simp [errW_none, errW_some] <;> rfl) | (simp [*, errW_none, errW_some] <;> rfl), by repeat (first | (with_reducible first | exact HB.out | apply below_alloc | apply bN | apply bD | refine bS ?_ GE410.out) | exact HB.out)⟩
         ·rw [if_neg c29] at H
          exact absurd H (by simp)
        ·rw [if_neg c28] at H
         exact absurd H (by simp)
       ·rw [if_neg c27] at H
        exact absurd H (by simp)
      ·rw [if_neg c26] at H
       exact absurd H (by simp)
 ·rw [if_neg c6] at H
  have c6b0 : (t414 == 0) = false := beq_eq_false_iff_ne.mpr c6
  have c6b1 : (t414 != 0) = true := bne_iff_ne.mpr c6
  simp only [Option.some.injEq, Prod.mk.injEq] at H
  obtain ⟨rfl, rfl⟩ := H
  go_enter Try.func47, Try.ntmps47
  go_wp2_with (first | ((with_reducible refine gate_dst (N := 4) rfl ?_); refine bE ?hg (N := 4) ?hd (cs := #[.int .i64 a0_0, .slice A0_1 l0_1.length c0_1]) (t := 24) ?hr ?_; (case hd => rfl); (case hg => rfl); (case hr => first | (go_simp; done) | (go_simp; rfl)); intro gb410 hg w35 hbox hb; have n0_ := Z0.mk (bT (by repeat (first | (with_reducible first | exact HB.out | apply below_alloc | apply bN | apply bD) | exact HB.out)) hb); have n1_ := Z0.mk (hbox); have n2_ := Z0.mk ((by rw [hg]; exact (bZ (by repeat (first | (with_reducible first | exact HB.out | apply below_alloc | apply bN | apply bD) | exact HB.out))) : w.heap.size ≤ gb410)); have n3_ := Z0.mk ((by rw [hg]; exact (bZ (by repeat (first | (with_reducible first | exact HB.out | apply below_alloc | apply bN | apply bD) | exact HB.out))) : w.heap.size ≤ gb410)); clear HB; have HB := n0_; have BK410 := n1_; have GW410 := n2_; have GE410 := n3_; clear n0_ n1_ n2_ n3_; clear hb hbox hg; have hcz36_0 : w35.cell? ⟨gb410, 0, none⟩ = some (.int .i64 a0_0) := (kC BK410.out 0).trans rfl; have hcz36_1 : w35.cell? ⟨gb410, 1, none⟩ = some (.slice A0_1 l0_1.length c0_1) := (kC BK410.out 1).trans rfl; have hfz36_0 := kF BK410.out 0; have hfz36_1 := kF BK410.out 1) | (go_at_call 38; (with_reducible refine (qr15Of.calls k a0_0 _ _ l0_1 _ _ l1 t411 t414 _ ?side1 ?side2 ?side3 ?side4 A5.out).mono ?_); (case side1 => repeat (first | exact (Kd.C_below HR0_1.out HB.out) | (with_reducible refine Kd.C_alloc ?_ _) | (with_reducible refine Kd.C_drewN ?_ _) | (with_reducible refine Kd.C_drew ?_))); (case side2 => exact HC0_1.out); (case side3 => repeat (first | exact (Kd.C_below HR1.out HB.out) | (with_reducible refine Kd.C_alloc ?_ _) | (with_reducible refine Kd.C_drewN ?_ _) | (with_reducible refine Kd.C_drew ?_))); (case side4 => exact HC1.out); rintro e w37 ⟨v412, rfl, ho0, hb⟩; have n0_ := Z0.mk (Kd.R_lower ho0 (bZ (by repeat (first | (with_reducible first | exact HB.out | apply below_alloc | apply bN | apply bD | refine bS ?_ GE410.out) | exact HB.out)))); have n1_ := Z0.mk (kB (g := gb410) (o := .cells #[.int .i64 a0_0, .slice A0_1 l0_1.length c0_1] 24 (0, 0)) (by (with_reducible repeat (first | refine kN ?_ _ | refine kD ?_ | refine kA ?_ _)); exact BK410.out) hb); have n2_ := Z0.mk (bT (by repeat (first | (with_reducible first | exact HB.out | apply below_alloc | apply bN | apply bD | refine bS ?_ GE410.out) | exact HB.out)) hb); clear BK410; clear HB; have HO413 := n0_; have BK410 := n1_; have HB := n2_; clear n0_ n1_ n2_; (try clear hb); (try clear hb2); (try clear hk); (try clear hi); (try clear ho0)) | (go_quiet (fail)))
  go_ret2
  exact ⟨by first | rfl | (simp [errW_none, errW_some] <;> rfl) | (simp [*, errW_none, errW_some] <;> rfl), by repeat (first | (with_reducible first | exact HB.out | apply below_alloc | apply bN | apply bD | refine bS ?_ GE410.out) | exact HB.out)⟩
def qr16joined.f (k : Nat) (a0_0 : Int) (l0_1 : List (S37)) (l1 : List Int) (a2 : Int) (a3 : Int) : Option (Bool) := (qr16others.f k a0_0 l0_1 l1).bind fun t639 => ((qr15Joined.f k a0_0 l0_1 t639 a2 a3).bind fun bt642 => (some bt642.1))
def qr16joined.T1 : Bool × List (List Nat × List Nat) := (true, [([], []), ([], []), ([], []), ([1, 2], [1, 2]), ([], []), ([], []), ([0, 3, 4, 5, 3], [0, 3, 4, 5]), ([6], [6]), ([7], [7]), ([7], [7]), ([8, 6, 0, 1, 2, 3, 4, 5, 6, 7, 8], [8]), ([9, 10, 0, 1, 2, 3, 4, 5, 6, 7, 8, 9, 10], [9])])
def qr16joined.B1 : List Nat := [0, 0, 0, 6, 0, 0, 63, 127, 255, 255, 511, 2047]
theorem qr16joined.tab1 : rtab .any (opsOf Try.f95 1) = qr16joined.T1 := by kernel_rfl
theorem qr16joined.bits1 : waitsOk qr16joined.T1.2 qr16joined.B1 = true := by kernel_rfl
set_option maxHeartbeats 8000000 in
set_option maxRecDepth 100000 in
theorem qr16joined.calls (k : Nat) (a0_0 : Int) (A0_1 : Option Addr) (c0_1 : Nat) (l0_1 : List (S37)) (A1 : Option Addr) (c1 : Nat) (l1 : List Int) (a2 : Int) (a3 : Int) (r : Bool) (w : World) (hr0_1 : Kd.C k37 w A0_1 l0_1.length l0_1) (hc0_1 : l0_1.length ≤ c0_1) (hr1 : Kd.C (Kd.int .i64) w A1 l1.length l1) (hc1 : l1.length ≤ c1) (h : qr16joined.f k a0_0 l0_1 l1 a2 a3 = some r) :
  Calls Try.prog 95 #[.agg #[.int .i64 a0_0, .slice A0_1 l0_1.length c0_1], .slice A1 l1.length c1, .int .i64 a2, .int .i64 a3] w fun e w' => e = .returned (.bool r) ∧ Below w.heap.size w w' := by
 have hu24 := Try.underlying24
 have HR0_1 := Z0.mk hr0_1
 have HC0_1 := Z0.mk hc0_1
 clear hr0_1 hc0_1
 have HR1 := Z0.mk hr1
 have HC1 := Z0.mk hc1
 clear hr1 hc1
 have HB := Z0.mk (Below.refl w.heap.size w)
 have H : ((qr16others.f k a0_0 l0_1 l1).bind fun t639 => ((qr15Joined.f k a0_0 l0_1 t639 a2 a3).bind fun bt642 => (some bt642.1))) = some r := h
 clear h
 replace H := Option.bind_eq_some_iff.mp H
 obtain ⟨t639, A50, H⟩ := H
 replace H : ((qr15Joined.f k a0_0 l0_1 t639 a2 a3).bind fun bt642 => (some bt642.1)) = some r := H
 have A5 := Z0.mk A50
 clear A50
 replace H := Option.bind_eq_some_iff.mp H
 obtain ⟨⟨t642, t643⟩, A60, H⟩ := H
 replace H : (some t642) = some r := H
 have A6 := Z0.mk A60
 clear A60
 obtain rfl := Option.some.inj H
 go_enter Try.func95, Try.ntmps95
 try go_wp2_with (first | ((with_reducible refine gate_dst (N := 4) rfl ?_); refine bE ?hg (N := 4) ?hd (cs := #[.int .i64 a0_0, .slice A0_1 l0_1.length c0_1]) (t := 24) ?hr ?_; (case hd => rfl); (case hg => rfl); (case hr => first | (go_simp; done) | (go_simp; rfl)); intro gb638 hg w7 hbox hb; have n0_ := Z0.mk (bT (by repeat (first | (with_reducible first | exact HB.out | apply below_alloc | apply bN | apply bD) | exact HB.out)) hb); have n1_ := Z0.mk (hbox); have n2_ := Z0.mk ((by rw [hg]; exact (bZ (by repeat (first | (with_reducible first | exact HB.out | apply below_alloc | apply bN | apply bD) | exact HB.out))) : w.heap.size ≤ gb638)); have n3_ := Z0.mk ((by rw [hg]; exact (bZ (by repeat (first | (with_reducible first | exact HB.out | apply below_alloc | apply bN | apply bD) | exact HB.out))) : w.heap.size ≤ gb638)); clear HB; have HB := n0_; have BK638 := n1_; have GW638 := n2_; have GE638 := n3_; clear n0_ n1_ n2_ n3_; clear hb hbox hg))
 have n0_ := Z0.mk (kD BK638.out)
 have n1_ := Z0.mk (bD HB.out)
 clear BK638; clear HB
 have BK638 := n0_
 have HB := n1_
 clear n0_ n1_
 refine start_ (n := 12) (S := fun w' => w'.cell? ⟨gb638, 0, none⟩ = some (.int .i64 a0_0) ∧ w'.cell? ⟨gb638, 1, none⟩ = some (.slice A0_1 l0_1.length c0_1)) (ds := []) #[false,false,false,false,false,false,false,false,false,false,false,false] (by kernel_rfl) rfl rfl ⟨(kC BK638.out 0).trans rfl, (kC BK638.out 1).trans rfl⟩ (fun hHeld => ?_); refine with_tabW qr16joined.tab1 qr16joined.bits1 (fun HT_ HW_ => ?_)
 generalize w7.drew = w8 at BK638 HB hHeld ⊢
 refine pure_ (i := 2) (N := some 14) (v := ?_) (a' := ?_) #[false,false,true,false,false,false,false,false,false,false,false,false] rfl rfl (any_of HT_.out (by kernel_rfl)) (fun _ _ _ h => h) (Or.inl ⟨by rfl, ?_⟩) ?_ ?_
 rotate_left; (intro w'; go_simp; with_reducible rfl); rotate_left; (simp only [Act.put, List.setIfInBounds_toArray, List.set_cons_zero, List.set_cons_succ, i64_w, i32_w]; rfl)
 refine pure_ (i := 4) (N := some 16) (v := ?_) (a' := ?_) #[false,false,true,false,true,false,false,false,false,false,false,false] rfl rfl (any_of HT_.out (by kernel_rfl)) (fun _ _ _ h => h) (Or.inl ⟨by rfl, ?_⟩) ?_ ?_
 rotate_left; (intro w'; go_simp; with_reducible rfl); rotate_left; (simp only [Act.put, List.setIfInBounds_toArray, List.set_cons_zero, List.set_cons_succ, i64_w, i32_w]; rfl)
 refine pure_ (i := 5) (N := some 17) (v := ?_) (a' := ?_) #[false,false,true,false,true,true,false,false,false,false,false,false] rfl rfl (any_of HT_.out (by kernel_rfl)) (fun _ _ _ h => h) (Or.inl ⟨by rfl, ?_⟩) ?_ ?_
 rotate_left; (intro w'; go_simp; with_reducible rfl); rotate_left; (simp only [Act.put, List.setIfInBounds_toArray, List.set_cons_zero, List.set_cons_succ, i64_w, i32_w]; rfl)
 refine take_ (i := 0) (N := some 12) (v := ?_) (a' := ?_) #[true,false,true,false,true,true,false,false,false,false,false,false] rfl rfl (take_ofW HT_.out HW_.out (by kernel_rfl)) (fun _ _ _ h => h) (Or.inl ⟨by rfl, ?_⟩) hHeld ?_ ?_
 rotate_left; (rintro w' ⟨s0, s1⟩; go_simp; with_reducible rfl); rotate_left; (simp only [Act.put, List.setIfInBounds_toArray, List.set_cons_zero, List.set_cons_succ, i64_w, i32_w]; rfl)
 refine take_ (i := 1) (N := some 13) (v := ?_) (a' := ?_) #[true,true,true,false,true,true,false,false,false,false,false,false] rfl rfl (take_ofW HT_.out HW_.out (by kernel_rfl)) (fun _ _ _ h => h) (Or.inl ⟨by rfl, ?_⟩) hHeld ?_ ?_
 rotate_left; (rintro w' ⟨s0, s1⟩; go_simp; with_reducible rfl); rotate_left; (simp only [Act.put, List.setIfInBounds_toArray, List.set_cons_zero, List.set_cons_succ, i64_w, i32_w]; rfl)
 refine one_ (i := 3) (N := some 15) #[true,true,true,true,true,true,false,false,false,false,false,false] rfl rfl (one_of HT_.out (by kernel_rfl)) (by decide) (fun K hK => ?_)
 refine goes_ Try.func116 (by kernel_rfl) rfl #[.agg #[.int .i64 a0_0, .slice A0_1 l0_1.length c0_1], .slice A1 l1.length c1] (by rfl) rfl rfl (by (try simp only [List.map_toArray, List.map_cons, List.map_nil]); first | done | rfl | (simp only [List.length_drop, List.length_take]; rfl)) ?_
 with_reducible refine (qr16others.calls k a0_0 _ _ l0_1 _ _ l1 t639 _ ?side1 ?side2 ?side3 ?side4 A5.out).mono ?_
 (case side1 => repeat (first | exact (Kd.C_below HR0_1.out HB.out) | (with_reducible refine Kd.C_alloc ?_ _) | (with_reducible refine Kd.C_drewN ?_ _) | (with_reducible refine Kd.C_drew ?_)))
 (case side2 => exact HC0_1.out)
 (case side3 => repeat (first | exact (Kd.C_below HR1.out HB.out) | (with_reducible refine Kd.C_alloc ?_ _) | (with_reducible refine Kd.C_drewN ?_ _) | (with_reducible refine Kd.C_drew ?_)))
 (case side4 => exact HC1.out)
 rintro e w9 ⟨v640, rfl, ho0, hb⟩
 refine ⟨_, rfl, ?_⟩
 have n0_ := Z0.mk (Kd.R_lower ho0 (bZ (by repeat (first | (with_reducible first | exact HB.out | apply below_alloc | apply bN | apply bD | refine bS ?_ GE638.out) | exact HB.out))))
 have n1_ := Z0.mk (kB (g := gb638) (o := .cells #[.int .i64 a0_0, .slice A0_1 l0_1.length c0_1] 24 (0, 0)) (by (with_reducible repeat (first | refine kN ?_ _ | refine kD ?_ | refine kA ?_ _)); exact BK638.out) hb)
 have n2_ := Z0.mk (bT (by repeat (first | (with_reducible first | exact HB.out | apply below_alloc | apply bN | apply bD | refine bS ?_ GE638.out) | exact HB.out)) hb)
 clear BK638; clear HB
 have HO641 := n0_
 have BK638 := n1_
 have HB := n2_
 clear n0_ n1_ n2_
 (try clear hb)
 (try clear hb2)
 (try clear hk)
 (try clear hi)
 (try clear ho0)
 obtain ⟨Ao10, co10, eo10⟩ := Kd.R_slice HO641.out
 (first | subst eo10 | (injection eo10 with f1_ f2_ f3_; have f4_ := f1_.symm; have f5_ := f3_.symm; clear f1_ f2_ f3_; subst f4_; subst f5_))
 refine hK.out _ _ ⟨(kC BK638.out 0).trans rfl, (kC BK638.out 1).trans rfl⟩ (fun hHeld => ?_)
 clear hK K
 refine norm_ (a' := ?_) ?_ ?_
 rotate_left
 ·show Act.put _ (some 15) _ = _
  simp only [Act.put, List.setIfInBounds_toArray, List.set_cons_zero, List.set_cons_succ, i64_w, i32_w]
  rfl
 refine one_ (i := 6) (N := some 18) #[true,true,true,true,true,true,true,false,false,false,false,false] rfl rfl (one_of HT_.out (by kernel_rfl)) (by decide) (fun K hK => ?_)
 refine goes_ Try.func47 (by kernel_rfl) rfl #[.agg #[.int .i64 a0_0, .slice A0_1 l0_1.length c0_1], .slice Ao10 t639.length co10, .int .i64 a2, .int .i64 a3] (by rfl) rfl rfl (by (try simp only [List.map_toArray, List.map_cons, List.map_nil]); first | done | rfl | (simp only [List.length_drop, List.length_take]; rfl)) ?_
 with_reducible refine (qr15Joined.calls k a0_0 _ _ l0_1 _ _ t639 a2 a3 t642 t643 _ ?side1 ?side2 ?side3 ?side4 A6.out).mono ?_
 (case side1 => repeat (first | exact (Kd.C_below HR0_1.out HB.out) | (with_reducible refine Kd.C_alloc ?_ _) | (with_reducible refine Kd.C_drewN ?_ _) | (with_reducible refine Kd.C_drew ?_)))
 (case side2 => exact HC0_1.out)
 (case side3 => repeat (first | exact (Kd.R_reads' HO641.out).2.2 | (with_reducible refine Kd.C_alloc ?_ _) | (with_reducible refine Kd.C_drewN ?_ _) | (with_reducible refine Kd.C_drew ?_)))
 (case side4 => exact (Kd.R_reads' HO641.out).2.1)
 rintro e w11 ⟨rfl, hb⟩
 refine ⟨_, rfl, ?_⟩
 have n0_ := Z0.mk (Kd.R_below (by (with_reducible repeat (first | apply Kd.R_alloc | apply Kd.R_drewN | apply Kd.R_drew)); exact HO641.out) hb)
 have n1_ := Z0.mk (kB (g := gb638) (o := .cells #[.int .i64 a0_0, .slice A0_1 l0_1.length c0_1] 24 (0, 0)) (by (with_reducible repeat (first | refine kN ?_ _ | refine kD ?_ | refine kA ?_ _)); exact BK638.out) hb)
 have n2_ := Z0.mk (bT (by repeat (first | (with_reducible first | exact HB.out | apply below_alloc | apply bN | apply bD | refine bS ?_ GE638.out) | exact HB.out)) hb)
 clear HO641; clear BK638; clear HB
 have HO641 := n0_
 have BK638 := n1_
 have HB := n2_
 clear n0_ n1_ n2_
 (try clear hb)
 (try clear hb2)
 (try clear hk)
 (try clear hi)
 refine hK.out _ _ ⟨(kC BK638.out 0).trans rfl, (kC BK638.out 1).trans rfl⟩ (fun hHeld => ?_)
 clear hK K
 refine norm_ (a' := ?_) ?_ ?_
 rotate_left
 ·show Act.put _ (some 18) _ = _
  simp only [Act.put, List.setIfInBounds_toArray, List.set_cons_zero, List.set_cons_succ, i64_w, i32_w]
  rfl
 refine pure_ (i := 7) (N := some 11) (v := ?_) (a' := ?_) #[true,true,true,true,true,true,true,true,false,false,false,false] rfl rfl (any_of HT_.out (by kernel_rfl)) (fun _ _ _ h => h) (Or.inl ⟨by rfl, ?_⟩) ?_ ?_
 rotate_left; (intro w'; go_simp; with_reducible rfl); rotate_left; (simp only [Act.put, List.setIfInBounds_toArray, List.set_cons_zero, List.set_cons_succ, i64_w, i32_w]; rfl)
 refine pure_ (i := 8) (N := some 19) (v := ?_) (a' := ?_) #[true,true,true,true,true,true,true,true,true,false,false,false] rfl rfl (any_of HT_.out (by kernel_rfl)) (fun _ _ _ h => h) (Or.inl ⟨by rfl, ?_⟩) ?_ ?_
 rotate_left; (intro w'; go_simp; with_reducible rfl); rotate_left; (simp only [Act.put, List.setIfInBounds_toArray, List.set_cons_zero, List.set_cons_succ, i64_w, i32_w]; rfl)
 refine pure_ (i := 9) (N := some 20) (v := ?_) (a' := ?_) #[true,true,true,true,true,true,true,true,true,true,false,false] rfl rfl (any_of HT_.out (by kernel_rfl)) (fun _ _ _ h => h) (Or.inl ⟨by rfl, ?_⟩) ?_ ?_
 rotate_left; (intro w'; go_simp; with_reducible rfl); rotate_left; (simp only [Act.put, List.setIfInBounds_toArray, List.set_cons_zero, List.set_cons_succ, i64_w, i32_w]; rfl)
 refine pure_ (i := 10) (N := some 9) (v := ?_) (a' := ?_) #[true,true,true,true,true,true,true,true,true,true,true,false] rfl rfl (any_of HT_.out (by kernel_rfl)) (fun _ _ _ h => h) (Or.inl ⟨by rfl, ?_⟩) ?_ ?_
 rotate_left; (intro w'; go_simp; with_reducible rfl); rotate_left; (simp only [Act.put, List.setIfInBounds_toArray, List.set_cons_zero, List.set_cons_succ, i64_w, i32_w]; rfl)
 refine pure_ (i := 11) (N := some 10) (v := ?_) (a' := ?_) #[true,true,true,true,true,true,true,true,true,true,true,true] rfl rfl (any_of HT_.out (by kernel_rfl)) (fun _ _ _ h => h) (Or.inl ⟨by rfl, ?_⟩) ?_ ?_
 rotate_left; (intro w'; go_simp; with_reducible rfl); rotate_left; (simp only [Act.put, List.setIfInBounds_toArray, List.set_cons_zero, List.set_cons_succ, i64_w, i32_w]; rfl)
 refine done_ (done_of HT_.out (by kernel_rfl)) ?_
 try go_wp2
 go_ret
 exact ⟨by first | rfl | (simp [errW_none, errW_some] <;> rfl) | (simp [*, errW_none, errW_some] <;> rfl), by repeat (first | (with_reducible first | exact HB.out | apply below_alloc | apply bN | apply bD | refine bS ?_ GE638.out) | exact HB.out)⟩
def qr16without.l0 : Nat → List Int → Int → List Int → Int → Option (List Int)
 | 0, _, _, _, _ => none
 | k + 1, x0, x1, x5, x6 => if x6 < (x0.length : Int) then (if 0 ≤ x6 then (if (rd x0 x6) = x1 then (qr16without.l0 k x0 x1 x5 (wrap64 (x6 + 1))) else (if x5.length < 17592186044416 then (qr16without.l0 k x0 x1 (x5 ++ [rd x0 x6]) (wrap64 (x6 + 1))) else (none))) else (none)) else (some x5)
def qr16without.f (k : Nat) (l0 : List Int) (a1 : Int) : Option (List Int) := qr16without.l0 k l0 a1 ([] : List Int) 0
set_option maxHeartbeats 8000000 in
set_option maxRecDepth 100000 in
theorem qr16without.calls (k : Nat) (A0 : Option Addr) (c0 : Nat) (l0 : List Int) (a1 : Int) (r : List Int) (w : World) (hr0 : Kd.C (Kd.int .i64) w A0 l0.length l0) (hc0 : l0.length ≤ c0) (h : qr16without.f k l0 a1 = some r) :
  Calls Try.prog 96 #[.slice A0 l0.length c0, .int .i64 a1] w fun e w' => ∃ v0_ : Value, e = .returned (v0_) ∧ Kd.R (Kd.int .i64) 3 w' w.heap.size (fun _ => True) v0_ r ∧ Below w.heap.size w w' := by
 have HR0 := Z0.mk hr0
 have HC0 := Z0.mk hc0
 clear hr0 hc0
 have HB := Z0.mk (Below.refl w.heap.size w)
 have H : (qr16without.l0 k l0 a1 ([] : List Int) 0) = some r := h
 clear h
 have H' := Z0.mk H
 clear H
 go_enter Try.func96, Try.ntmps96
 go_wp2
 go_loopg [5, 6] k (fun kq v5 v6 w' => ∃ (x5_1 : List Int) (x6_1 : Int), v6 = .int .i64 x6_1 ∧ Z0 (qr16without.l0 kq l0 a1 x5_1 x6_1 = some r) ∧ Z0 (kq ≤ k) ∧ Z0 (Kd.R (Kd.int .i64) 3 w' w.heap.size (fun _ => True) v5 x5_1) ∧ Z0 (Below w.heap.size w w'))
 case atStart => exact ⟨(([] : List Int)), (0), (by first | rfl | (simp; done) | (simp [*]; done)), H', ⟨Nat.le_refl _⟩, ⟨by first | exact Kd.R_nil _ _ _ _ _ | exact Kd.N_nil _ _ _ _ _ | exact Kd.V_nil _ _ _ _ _ | exact Kd.Q_nil _ _ _ _ _ | exact Kd.S_nil _ _ _ _ _⟩, ⟨by repeat (first | (with_reducible first | exact HB.out | apply below_alloc | apply bN | apply bD) | exact HB.out)⟩⟩
 case round =>
  clear H'; (try clear p2)
  obtain ⟨x5_1, x6_1, rfl, HA, HK1, HO_5, HB⟩ := hrel
  cases gk with
  | zero => exact absurd HA.out (by simp [qr16without.l0])
  | succ k1 =>
   have H := HA.out
   clear HA
   simp only [qr16without.l0] at H
   by_cases c3 : x6_1 < (l0.length : Int)
   ·rw [if_pos c3] at H
    have c3b0 : decide (x6_1 < (l0.length : Int)) = true := decide_eq_true c3
    clear c3
    by_cases c4 : 0 ≤ x6_1
    ·rw [if_pos c4] at H
     have c4b0 : decide (0 ≤ x6_1) = true := decide_eq_true c4
     clear c4
     by_cases c5 : (rd l0 x6_1) = a1
     ·rw [if_pos c5] at H
      have c5b0 : ((rd l0 x6_1) == a1) = true := beq_iff_eq.mpr c5
      have c5b1 : ((rd l0 x6_1) != a1) = false := bne_eq_false_iff_eq.mpr c5
      clear c5
      have H' := Z0.mk H
      clear H
      have p644 : 0 ≤ (x6_1 : Int) := of_decide_eq_true (by first | (with_reducible assumption) | assumption)
      have q644 : x6_1 < (l0.length : Int) := of_decide_eq_true (by first | (with_reducible assumption) | assumption)
      obtain ⟨ad644, e644, hx644_0⟩ := Kd.at_int HR0.out x6_1 p644 q644
      cases e644
      replace hx644_0 := (HB.out.cell (wlt0 w _ hx644_0)).trans hx644_0
      replace p644 := eq_true p644
      replace q644 := eq_true q644
      go_wp2
      go_roundg k1
      case measure => have := HK1.out; omega
      case rel => exact ⟨(x5_1), (wrap64 (x6_1 + 1)), (by first | rfl | (simp; done) | (simp [*]; done)), H', ⟨by have := HK1.out; omega⟩, ⟨by (with_reducible repeat (first | apply Kd.R_alloc | apply Kd.R_drewN | apply Kd.R_drew)); exact HO_5.out⟩, ⟨by repeat (first | (with_reducible first | exact HB.out | apply below_alloc | apply bN | apply bD) | exact HB.out)⟩⟩
     ·rw [if_neg c5] at H
      have c5b0 : ((rd l0 x6_1) == a1) = false := beq_eq_false_iff_ne.mpr c5
      have c5b1 : ((rd l0 x6_1) != a1) = true := bne_iff_ne.mpr c5
      by_cases c6 : x5_1.length < 17592186044416
      ·rw [if_pos c6] at H
       have LMc6 := Z0.mk c6
       clear c6
       obtain ⟨y646, hy646⟩ : ∃ y_ : List Int, y_ = (x5_1 ++ [rd l0 x6_1]) := ⟨_, rfl⟩
       replace H : (qr16without.l0 k1 l0 a1 y646 (wrap64 (x6_1 + 1))) = some r := by first | (rw [hy646]; with_reducible exact H) | (have H2_ := (Option.bind_some _ _).symm.trans H; rw [hy646]; with_reducible exact H2_) | (have H2_ := (Option.bind_some _ _).symm.trans H; with_reducible exact H2_) | with_reducible exact H | (rw [hy646]; exact H) | exact H
       have Ny646 := Z0.mk hy646
       clear hy646
       have H' := Z0.mk H
       clear H
       have p644 : 0 ≤ (x6_1 : Int) := of_decide_eq_true (by first | (with_reducible assumption) | assumption)
       have q644 : x6_1 < (l0.length : Int) := of_decide_eq_true (by first | (with_reducible assumption) | assumption)
       obtain ⟨ad644, e644, hx644_0⟩ := Kd.at_int HR0.out x6_1 p644 q644
       cases e644
       replace hx644_0 := (HB.out.cell (wlt0 w _ hx644_0)).trans hx644_0
       replace p644 := eq_true p644
       replace q644 := eq_true q644
       have p645 : 0 ≤ (x6_1 : Int) := of_decide_eq_true (by first | (with_reducible assumption) | assumption)
       have q645 : x6_1 < (l0.length : Int) := of_decide_eq_true (by first | (with_reducible assumption) | assumption)
       obtain ⟨ad645, e645, hx645_0⟩ := Kd.at_int HR0.out x6_1 p645 q645
       obtain rfl : ad644 = ad645 := (by injection e645)
       replace hx645_0 := (HB.out.cell (wlt0 w _ hx645_0)).trans hx645_0
       replace p645 := eq_true p645
       replace q645 := eq_true q645
       go_wp2_with (first | ((with_reducible refine gate_builtin (b := .append) (xs := #[.tmp 19, .tmp 24]) rfl ?_); at_builtin; refine Kd.R_append (Kd.int .i64) (w0 := w) w.heap.size rfl (.tmp 19) (.tmp 24) 25 3 (.int .i64 0) 8 rfl Try.underlying25 info3 rfl (by decide) (by omega) u5 x5_1 (rd l0 x6_1) [.int .i64 (rd l0 x6_1)] (fun _ => True) (fun _ => False) rfl rfl ?aP (fun _ hk => hk.elim) ?aF ?aO ?aB ?aS ?aL ?_; (case aP => exact rfl); (case aB => exact (by repeat (first | (with_reducible first | exact HB.out | apply below_alloc | apply bN | apply bD) | exact HB.out))); (case aF => exact (fun _ _ => trivial)); (case aO => exact (by (with_reducible repeat (first | apply Kd.R_alloc | apply Kd.R_drewN | apply Kd.R_drew)); exact HO_5.out)); (case aS => exact (bZ (by repeat (first | (with_reducible first | exact HB.out | apply below_alloc | apply bN | apply bD) | exact HB.out)))); (case aL => have := LMc6.out; omega); intro v647 w7 ho hb hg hat; rw [← Ny646.out] at ho; have n0_ := Z0.mk (hb); have n1_ := Z0.mk (ho); clear HB; clear HO_5; have HB := n0_; have HO648 := n1_; clear n0_ n1_; clear ho hb hg hat))
       go_roundg k1
       case measure => have := HK1.out; omega
       case rel => exact ⟨(y646), (wrap64 (x6_1 + 1)), (by first | rfl | (simp; done) | (simp [*]; done)), H', ⟨by have := HK1.out; omega⟩, ⟨by (with_reducible repeat (first | apply Kd.R_alloc | apply Kd.R_drewN | apply Kd.R_drew)); exact HO648.out⟩, ⟨by repeat (first | (with_reducible first | exact HB.out | apply below_alloc | apply bN | apply bD) | exact HB.out)⟩⟩
      ·rw [if_neg c6] at H
       exact absurd H (by simp)
    ·rw [if_neg c4] at H
     exact absurd H (by simp)
   ·rw [if_neg c3] at H
    have c3b0 : decide (x6_1 < (l0.length : Int)) = false := decide_eq_false c3
    clear c3
    obtain rfl := Option.some.inj H
    go_wp2
    go_ret
    exact ⟨_, by first | rfl | (simp [errW_none, errW_some] <;> rfl) | (simp [*, errW_none, errW_some] <;> rfl), by (with_reducible repeat (first | apply Kd.R_alloc | apply Kd.R_drewN | apply Kd.R_drew)); exact HO_5.out, by repeat (first | (with_reducible first | exact HB.out | apply below_alloc | apply bN | apply bD) | exact HB.out)⟩
def qr16Bridges.l0 : Nat → List Int → List Int → Int → Int → List (S37) → Option (List Int × Int)
 | 0, _, _, _, _, _ => none
 | k + 1, x7, x8, x9, x650000, x650001 => if x9 < (x8.length : Int) then (if 0 ≤ x9 then ((qr16without.f k x8 (rd x8 x9)).bind fun t655 => (if 0 ≤ (rd x8 x9) then (if (rd x8 x9) < (x650001.length : Int) then ((qr16joined.f k x650000 x650001 t655 ((rd_T37 x650001 (rd x8 x9)).f0) ((rd_T37 x650001 (rd x8 x9)).f1)).bind fun t662 => (if t662 = true then (qr16Bridges.l0 k x7 x8 (wrap64 (x9 + 1)) x650000 x650001) else (if x7.length < 17592186044416 then (qr16Bridges.l0 k (x7 ++ [rd x8 x9]) x8 (wrap64 (x9 + 1)) x650000 x650001) else (none)))) else (none)) else (none))) else (none)) else (some (x7, 0))
def qr16Bridges.f (k : Nat) (a0_0 : Int) (l0_1 : List (S37)) (l1 : List Int) : Option (List Int × Int) := (qr14Outs.f k a0_0 l0_1 l1).bind fun t650 => (if t650 = 0 then ((qr14In.f k a0_0 l0_1 l1).bind fun t651 => (qr16Bridges.l0 k ([] : List Int) t651 0 a0_0 l0_1)) else (some (([] : List Int), t650)))
def qr16Bridges.T9 : Bool × List (List Nat × List Nat) := (true, [([], []), ([], []), ([], []), ([], []), ([2, 3], [2, 3]), ([4], [4]), ([1, 5], [1, 5]), ([], []), ([7], [7]), ([], []), ([], []), ([9, 10], [9, 10]), ([11], [11]), ([8, 12], [8, 12]), ([13], [13]), ([14], [14]), ([], []), ([16], [16]), ([], []), ([], []), ([18, 19], [18, 19]), ([20], [20]), ([17, 21], [17, 21]), ([22], [22]), ([23], [23]), ([0, 6, 15, 24, 6], [0, 6, 15, 24]), ([25], [25])])
def qr16Bridges.B9 : List Nat := [0, 0, 0, 0, 12, 28, 62, 0, 128, 0, 0, 1536, 3584, 8064, 16256, 32640, 0, 65536, 0, 0, 786432, 1835008, 4128768, 8323072, 16711680, 33554431, 67108863]
theorem qr16Bridges.tab9 : rtab .any (opsOf Try.f52 9) = qr16Bridges.T9 := by kernel_rfl
theorem qr16Bridges.bits9 : waitsOk qr16Bridges.T9.2 qr16Bridges.B9 = true := by kernel_rfl
set_option maxHeartbeats 8000000 in
set_option maxRecDepth 100000 in
theorem qr16Bridges.calls (k : Nat) (a0_0 : Int) (A0_1 : Option Addr) (c0_1 : Nat) (l0_1 : List (S37)) (A1 : Option Addr) (c1 : Nat) (l1 : List Int) (r1 : List Int) (r2 : Int) (w : World) (hr0_1 : Kd.C k37 w A0_1 l0_1.length l0_1) (hc0_1 : l0_1.length ≤ c0_1) (hr1 : Kd.C (Kd.int .i64) w A1 l1.length l1) (hc1 : l1.length ≤ c1) (h : qr16Bridges.f k a0_0 l0_1 l1 = some (r1, r2)) :
  Calls Try.prog 52 #[.agg #[.int .i64 a0_0, .slice A0_1 l0_1.length c0_1], .slice A1 l1.length c1] w fun e w' => ∃ v0_ : Value, e = .returned (.tuple #[v0_, .int .i64 r2]) ∧ Kd.R (Kd.int .i64) 3 w' w.heap.size (fun _ => True) v0_ r1 ∧ Below w.heap.size w w' := by
 have hu24 := Try.underlying24
 have HR0_1 := Z0.mk hr0_1
 have HC0_1 := Z0.mk hc0_1
 clear hr0_1 hc0_1
 have HR1 := Z0.mk hr1
 have HC1 := Z0.mk hc1
 clear hr1 hc1
 have HB := Z0.mk (Below.refl w.heap.size w)
 have H : ((qr14Outs.f k a0_0 l0_1 l1).bind fun t650 => (if t650 = 0 then ((qr14In.f k a0_0 l0_1 l1).bind fun t651 => (qr16Bridges.l0 k ([] : List Int) t651 0 a0_0 l0_1)) else (some (([] : List Int), t650)))) = some (r1, r2) := h
 clear h
 replace H := Option.bind_eq_some_iff.mp H
 obtain ⟨t650, A30, H⟩ := H
 replace H : (if t650 = 0 then ((qr14In.f k a0_0 l0_1 l1).bind fun t651 => (qr16Bridges.l0 k ([] : List Int) t651 0 a0_0 l0_1)) else (some (([] : List Int), t650))) = some (r1, r2) := H
 have A3 := Z0.mk A30
 clear A30
 by_cases c4 : t650 = 0
 ·rw [if_pos c4] at H
  have c4b0 : (t650 == 0) = true := beq_iff_eq.mpr c4
  have c4b1 : (t650 != 0) = false := bne_eq_false_iff_eq.mpr c4
  clear c4
  replace H := Option.bind_eq_some_iff.mp H
  obtain ⟨t651, A50, H⟩ := H
  replace H : (qr16Bridges.l0 k ([] : List Int) t651 0 a0_0 l0_1) = some (r1, r2) := H
  have A5 := Z0.mk A50
  clear A50
  have H' := Z0.mk H
  clear H
  go_enter Try.func52, Try.ntmps52
  go_wp2_with (first | ((with_reducible refine gate_dst (N := 2) rfl ?_); refine bE ?hg (N := 2) ?hd (cs := #[.int .i64 a0_0, .slice A0_1 l0_1.length c0_1]) (t := 24) ?hr ?_; (case hd => rfl); (case hg => rfl); (case hr => first | (go_simp; done) | (go_simp; rfl)); intro gb649 hg w6 hbox hb; have n0_ := Z0.mk (bT (by repeat (first | (with_reducible first | exact HB.out | apply below_alloc | apply bN | apply bD) | exact HB.out)) hb); have n1_ := Z0.mk (hbox); have n2_ := Z0.mk ((by rw [hg]; exact (bZ (by repeat (first | (with_reducible first | exact HB.out | apply below_alloc | apply bN | apply bD) | exact HB.out))) : w.heap.size ≤ gb649)); have n3_ := Z0.mk ((by rw [hg]; exact (bZ (by repeat (first | (with_reducible first | exact HB.out | apply below_alloc | apply bN | apply bD) | exact HB.out))) : w.heap.size ≤ gb649)); clear HB; have HB := n0_; have BK649 := n1_; have GW649 := n2_; have GE649 := n3_; clear n0_ n1_ n2_ n3_; clear hb hbox hg; have hcz7_0 : w6.cell? ⟨gb649, 0, none⟩ = some (.int .i64 a0_0) := (kC BK649.out 0).trans rfl; have hcz7_1 : w6.cell? ⟨gb649, 1, none⟩ = some (.slice A0_1 l0_1.length c0_1) := (kC BK649.out 1).trans rfl; have hfz7_0 := kF BK649.out 0; have hfz7_1 := kF BK649.out 1) | ((with_reducible refine gC (f := 69) rfl ?_); refine gL (some 12) rfl rfl Try.func69 (by kernel_rfl) rfl #[.agg #[.int .i64 a0_0, .slice A0_1 l0_1.length c0_1], .slice A1 l1.length c1] rfl (by (try simp only [List.map_toArray, List.map_cons, List.map_nil]); first | done | rfl | (simp only [List.length_drop, List.length_take]; rfl)) ?_; (with_reducible refine (qr14Outs.calls k a0_0 _ _ l0_1 _ _ l1 t650 _ ?side1 ?side2 ?side3 ?side4 A3.out).mono ?_); (case side1 => repeat (first | exact (Kd.C_below HR0_1.out HB.out) | (with_reducible refine Kd.C_alloc ?_ _) | (with_reducible refine Kd.C_drewN ?_ _) | (with_reducible refine Kd.C_drew ?_))); (case side2 => exact HC0_1.out); (case side3 => repeat (first | exact (Kd.C_below HR1.out HB.out) | (with_reducible refine Kd.C_alloc ?_ _) | (with_reducible refine Kd.C_drewN ?_ _) | (with_reducible refine Kd.C_drew ?_))); (case side4 => exact HC1.out); rintro e w8 ⟨rfl, hb⟩; refine ⟨_, rfl, ?_⟩; have n0_ := Z0.mk (kB (g := gb649) (o := .cells #[.int .i64 a0_0, .slice A0_1 l0_1.length c0_1] 24 (0, 0)) (by (with_reducible repeat (first | refine kN ?_ _ | refine kD ?_ | refine kA ?_ _)); exact BK649.out) hb); have n1_ := Z0.mk (bT (by repeat (first | (with_reducible first | exact HB.out | apply below_alloc | apply bN | apply bD | refine bS ?_ GE649.out) | exact HB.out)) hb); clear BK649; clear HB; have BK649 := n0_; have HB := n1_; clear n0_ n1_; (try clear hb); (try clear hb2); (try clear hk); (try clear hi); have hcz9_0 : w8.cell? ⟨gb649, 0, none⟩ = some (.int .i64 a0_0) := (kC BK649.out 0).trans rfl; have hcz9_1 : w8.cell? ⟨gb649, 1, none⟩ = some (.slice A0_1 l0_1.length c0_1) := (kC BK649.out 1).trans rfl; have hfz9_0 := kF BK649.out 0; have hfz9_1 := kF BK649.out 1) | ((with_reducible refine gC (f := 72) rfl ?_); refine gL (some 18) rfl rfl Try.func72 (by kernel_rfl) rfl #[.agg #[.int .i64 a0_0, .slice A0_1 l0_1.length c0_1], .slice A1 l1.length c1] rfl (by (try simp only [List.map_toArray, List.map_cons, List.map_nil]); first | done | rfl | (simp only [List.length_drop, List.length_take]; rfl)) ?_; (with_reducible refine (qr14In.calls k a0_0 _ _ l0_1 _ _ l1 t651 _ ?side1 ?side2 ?side3 ?side4 A5.out).mono ?_); (case side1 => repeat (first | exact (Kd.C_below HR0_1.out HB.out) | (with_reducible refine Kd.C_alloc ?_ _) | (with_reducible refine Kd.C_drewN ?_ _) | (with_reducible refine Kd.C_drew ?_))); (case side2 => exact HC0_1.out); (case side3 => repeat (first | exact (Kd.C_below HR1.out HB.out) | (with_reducible refine Kd.C_alloc ?_ _) | (with_reducible refine Kd.C_drewN ?_ _) | (with_reducible refine Kd.C_drew ?_))); (case side4 => exact HC1.out); rintro e w10 ⟨v652, rfl, ho0, hb⟩; refine ⟨_, rfl, ?_⟩; have n0_ := Z0.mk (Kd.R_lower ho0 (bZ (by repeat (first | (with_reducible first | exact HB.out | apply below_alloc | apply bN | apply bD | refine bS ?_ GE649.out) | exact HB.out)))); have n1_ := Z0.mk (kB (g := gb649) (o := .cells #[.int .i64 a0_0, .slice A0_1 l0_1.length c0_1] 24 (0, 0)) (by (with_reducible repeat (first | refine kN ?_ _ | refine kD ?_ | refine kA ?_ _)); exact BK649.out) hb); have n2_ := Z0.mk (bT (by repeat (first | (with_reducible first | exact HB.out | apply below_alloc | apply bN | apply bD | refine bS ?_ GE649.out) | exact HB.out)) hb); clear BK649; clear HB; have HO653 := n0_; have BK649 := n1_; have HB := n2_; clear n0_ n1_ n2_; (try clear hb); (try clear hb2); (try clear hk); (try clear hi); (try clear ho0)))
  go_loopg [7, 9] k (fun kq v7 v9 w' => ∃ (x7_1 : List Int) (x9_1 : Int), v9 = .int .i64 x9_1 ∧ Z0 (qr16Bridges.l0 kq x7_1 t651 x9_1 a0_0 l0_1 = some (r1, r2)) ∧ Z0 (kq ≤ k) ∧ Z0 (Kd.R (Kd.int .i64) 3 w' w.heap.size (fun k_ => some k_ ≠ (v652 : Value).ownBlock) v7 x7_1) ∧ Z0 (Kd.R (Kd.int .i64) 3 w' w.heap.size (fun k_ => some k_ ≠ (v7 : Value).ownBlock) v652 t651) ∧ Z0 (w'.heap[gb649]? = some (.cells #[.int .i64 a0_0, (.slice A0_1 l0_1.length c0_1)] 24 (0, 0))) ∧ Z0 (Below w.heap.size w w'))
  case atStart => exact ⟨(([] : List Int)), (0), (by first | rfl | (simp; done) | (simp [*]; done)), H', ⟨Nat.le_refl _⟩, ⟨by first | exact Kd.R_nil _ _ _ _ _ | exact Kd.N_nil _ _ _ _ _ | exact Kd.V_nil _ _ _ _ _ | exact Kd.Q_nil _ _ _ _ _ | exact Kd.S_nil _ _ _ _ _⟩, ⟨by (with_reducible repeat (first | apply Kd.R_alloc | apply Kd.R_drewN | apply Kd.R_drew)); exact Kd.R_mono HO653.out (fun _ hk => (by simp [Value.ownBlock]))⟩, ⟨by (with_reducible repeat (first | refine kN ?_ _ | refine kD ?_ | refine kA ?_ _)); exact BK649.out⟩, ⟨by repeat (first | (with_reducible first | exact HB.out | apply below_alloc | apply bN | apply bD | refine bS ?_ GE649.out) | exact HB.out)⟩⟩
  case round =>
   clear H'; (try clear c1); (try clear p2); (try clear c4); (try clear c4b0); (try clear c4b1); (try clear c5); (try clear c6); (try clear c7); (try clear hcz7_0); (try clear hcz7_1); (try clear hcz9_0); (try clear hcz9_1); (try clear hfz7_0); (try clear hfz7_1); (try clear hfz9_0); (try clear hfz9_1)
   obtain ⟨x7_1, x9_1, rfl, HA, HK1, HO_7, HO_8, BK649, HB⟩ := hrel
   cases gk with
   | zero => exact absurd HA.out (by simp [qr16Bridges.l0])
   | succ k1 =>
    have H := HA.out
    clear HA
    simp only [qr16Bridges.l0] at H
    by_cases c11 : x9_1 < (t651.length : Int)
    ·rw [if_pos c11] at H
     have c11b0 : decide (x9_1 < (t651.length : Int)) = true := decide_eq_true c11
     clear c11
     by_cases c12 : 0 ≤ x9_1
     ·rw [if_pos c12] at H
      have c12b0 : decide (0 ≤ x9_1) = true := decide_eq_true c12
      clear c12
      replace H := Option.bind_eq_some_iff.mp H
      obtain ⟨t655, A130, H⟩ := H
      replace H : (if 0 ≤ (rd t651 x9_1) then (if (rd t651 x9_1) < (l0_1.length : Int) then ((qr16joined.f k1 a0_0 l0_1 t655 ((rd_T37 l0_1 (rd t651 x9_1)).f0) ((rd_T37 l0_1 (rd t651 x9_1)).f1)).bind fun t662 => (if t662 = true then (qr16Bridges.l0 k1 x7_1 t651 (wrap64 (x9_1 + 1)) a0_0 l0_1) else (if x7_1.length < 17592186044416 then (qr16Bridges.l0 k1 (x7_1 ++ [rd t651 x9_1]) t651 (wrap64 (x9_1 + 1)) a0_0 l0_1) else (none)))) else (none)) else (none)) = some (r1, r2) := H
      have A13 := Z0.mk A130
      clear A130
      by_cases c14 : 0 ≤ (rd t651 x9_1)
      ·rw [if_pos c14] at H
       have c14b0 : decide (0 ≤ (rd t651 x9_1)) = true := decide_eq_true c14
       clear c14
       by_cases c15 : (rd t651 x9_1) < (l0_1.length : Int)
       ·rw [if_pos c15] at H
        have c15b0 : decide ((rd t651 x9_1) < (l0_1.length : Int)) = true := decide_eq_true c15
        clear c15
        replace H := Option.bind_eq_some_iff.mp H
        obtain ⟨t662, A160, H⟩ := H
        replace H : (if t662 = true then (qr16Bridges.l0 k1 x7_1 t651 (wrap64 (x9_1 + 1)) a0_0 l0_1) else (if x7_1.length < 17592186044416 then (qr16Bridges.l0 k1 (x7_1 ++ [rd t651 x9_1]) t651 (wrap64 (x9_1 + 1)) a0_0 l0_1) else (none))) = some (r1, r2) := H
        have A16 := Z0.mk A160
        clear A160
        by_cases c17 : t662 = true
        ·subst c17
         have H1 : (qr16Bridges.l0 k1 x7_1 t651 (wrap64 (x9_1 + 1)) a0_0 l0_1) = some (r1, r2) := by rw [if_pos rfl] at H; exact H
         clear H
         have H := H1
         clear H1
         have H' := Z0.mk H
         clear H
         obtain ⟨Ao18, co18, eo18⟩ := Kd.R_slice HO_8.out
         subst eo18
         try go_wp2
         have n0_ := Z0.mk (Kd.R_drew HO_7.out)
         have n1_ := Z0.mk (Kd.R_drew HO_8.out)
         have n2_ := Z0.mk (kD BK649.out)
         have n3_ := Z0.mk (bD HB.out)
         clear HO_7; clear HO_8; clear BK649; clear HB
         have HO_7 := n0_
         have HO_8 := n1_
         have BK649 := n2_
         have HB := n3_
         clear n0_ n1_ n2_ n3_
         have p654 : 0 ≤ (x9_1 : Int) := of_decide_eq_true (by first | (with_reducible assumption) | assumption)
         have q654 : x9_1 < (t651.length : Int) := of_decide_eq_true (by first | (with_reducible assumption) | assumption)
         obtain ⟨ad654, e654, hx654_0⟩ := Kd.at_int (Kd.R_reads' HO_8.out).2.2 x9_1 p654 q654
         cases e654
         replace p654 := eq_true p654
         replace q654 := eq_true q654
         have p658 : 0 ≤ (x9_1 : Int) := of_decide_eq_true (by first | (with_reducible assumption) | assumption)
         have q658 : x9_1 < (t651.length : Int) := of_decide_eq_true (by first | (with_reducible assumption) | assumption)
         obtain ⟨ad658, e658, hx658_0⟩ := Kd.at_int (Kd.R_reads' HO_8.out).2.2 x9_1 p658 q658
         obtain rfl : ad654 = ad658 := (by injection e658)
         replace p658 := eq_true p658
         replace q658 := eq_true q658
         have p659 : 0 ≤ ((rd t651 x9_1) : Int) := of_decide_eq_true (by first | (with_reducible assumption) | assumption)
         have q659 : (rd t651 x9_1) < (l0_1.length : Int) := of_decide_eq_true (by first | (with_reducible assumption) | assumption)
         obtain ⟨ad659, e659, hx659_0, hx659_1, hx659_2, hx659_3⟩ := at_T37 HR0_1.out (rd t651 x9_1) p659 q659
         have hw659_3 := hx659_3
         have hw659_2 := hx659_2
         have hw659_1 := hx659_1
         have hw659_0 := hx659_0
         cases e659
         replace hx659_0 := (HB.out.cell (wlt0 w _ hx659_0)).trans hx659_0
         replace hx659_1 := (HB.out.cell (wlt0 w _ hx659_1)).trans hx659_1
         replace hx659_2 := (HB.out.cell (wlt0 w _ hx659_2)).trans hx659_2
         replace hx659_3 := (HB.out.cell (wlt0 w _ hx659_3)).trans hx659_3
         replace p659 := eq_true p659
         replace q659 := eq_true q659
         have p660 : 0 ≤ (x9_1 : Int) := of_decide_eq_true (by first | (with_reducible assumption) | assumption)
         have q660 : x9_1 < (t651.length : Int) := of_decide_eq_true (by first | (with_reducible assumption) | assumption)
         obtain ⟨ad660, e660, hx660_0⟩ := Kd.at_int (Kd.R_reads' HO_8.out).2.2 x9_1 p660 q660
         obtain rfl : ad654 = ad660 := (by injection e660)
         replace p660 := eq_true p660
         replace q660 := eq_true q660
         have p661 : 0 ≤ ((rd t651 x9_1) : Int) := of_decide_eq_true (by first | (with_reducible assumption) | assumption)
         have q661 : (rd t651 x9_1) < (l0_1.length : Int) := of_decide_eq_true (by first | (with_reducible assumption) | assumption)
         obtain ⟨ad661, e661, hx661_0, hx661_1, hx661_2, hx661_3⟩ := at_T37 HR0_1.out (rd t651 x9_1) p661 q661
         have hw661_3 := hx661_3
         have hw661_2 := hx661_2
         have hw661_1 := hx661_1
         have hw661_0 := hx661_0
         obtain rfl : ad659 = ad661 := (by injection e661)
         replace hx661_0 := (HB.out.cell (wlt0 w _ hx661_0)).trans hx661_0
         replace hx661_1 := (HB.out.cell (wlt0 w _ hx661_1)).trans hx661_1
         replace hx661_2 := (HB.out.cell (wlt0 w _ hx661_2)).trans hx661_2
         replace hx661_3 := (HB.out.cell (wlt0 w _ hx661_3)).trans hx661_3
         replace p661 := eq_true p661
         replace q661 := eq_true q661
         refine start_ (n := 27) (S := fun w' => w'.cell? ⟨gb649, 0, none⟩ = some (.int .i64 a0_0) ∧ w'.cell? ⟨gb649, 1, none⟩ = some (.slice (some ad659) l0_1.length c0_1) ∧ w'.cell? (ad654.add (x9_1).toNat) = some (.int .i64 (rd t651 x9_1)) ∧ w'.cell? (ad654.add (x9_1).toNat) = some (.int .i64 (rd t651 x9_1)) ∧ w'.cell? (ad659.add (((rd t651 x9_1)).toNat * 4)) = some (.int .i64 ((rd_T37 l0_1 (rd t651 x9_1)).f0)) ∧ w'.cell? ⟨(ad659.add (((rd t651 x9_1)).toNat * 4)).block, (ad659.add (((rd t651 x9_1)).toNat * 4)).off + 1, none⟩ = some (.int .i64 ((rd_T37 l0_1 (rd t651 x9_1)).f1)) ∧ w'.cell? ⟨(ad659.add (((rd t651 x9_1)).toNat * 4)).block, (ad659.add (((rd t651 x9_1)).toNat * 4)).off + 2, none⟩ = some (.int .i64 ((rd_T37 l0_1 (rd t651 x9_1)).f2)) ∧ w'.cell? ⟨(ad659.add (((rd t651 x9_1)).toNat * 4)).block, (ad659.add (((rd t651 x9_1)).toNat * 4)).off + 3, none⟩ = some (.int .i64 ((rd_T37 l0_1 (rd t651 x9_1)).f3)) ∧ w'.cell? (ad654.add (x9_1).toNat) = some (.int .i64 (rd t651 x9_1)) ∧ w'.cell? (ad659.add (((rd t651 x9_1)).toNat * 4)) = some (.int .i64 ((rd_T37 l0_1 (rd t651 x9_1)).f0)) ∧ w'.cell? ⟨(ad659.add (((rd t651 x9_1)).toNat * 4)).block, (ad659.add (((rd t651 x9_1)).toNat * 4)).off + 1, none⟩ = some (.int .i64 ((rd_T37 l0_1 (rd t651 x9_1)).f1)) ∧ w'.cell? ⟨(ad659.add (((rd t651 x9_1)).toNat * 4)).block, (ad659.add (((rd t651 x9_1)).toNat * 4)).off + 2, none⟩ = some (.int .i64 ((rd_T37 l0_1 (rd t651 x9_1)).f2)) ∧ w'.cell? ⟨(ad659.add (((rd t651 x9_1)).toNat * 4)).block, (ad659.add (((rd t651 x9_1)).toNat * 4)).off + 3, none⟩ = some (.int .i64 ((rd_T37 l0_1 (rd t651 x9_1)).f3))) (ds := []) #[false,false,false,false,false,false,false,false,false,false,false,false,false,false,false,false,false,false,false,false,false,false,false,false,false,false,false] (by kernel_rfl) rfl rfl ⟨(kC BK649.out 0).trans rfl, (kC BK649.out 1).trans rfl, hx654_0, hx658_0, ((HB.out.cell (wlt0 w _ hw659_0)).trans hw659_0), ((HB.out.cell (wlt0 w _ hw659_1)).trans hw659_1), ((HB.out.cell (wlt0 w _ hw659_2)).trans hw659_2), ((HB.out.cell (wlt0 w _ hw659_3)).trans hw659_3), hx660_0, ((HB.out.cell (wlt0 w _ hw661_0)).trans hw661_0), ((HB.out.cell (wlt0 w _ hw661_1)).trans hw661_1), ((HB.out.cell (wlt0 w _ hw661_2)).trans hw661_2), ((HB.out.cell (wlt0 w _ hw661_3)).trans hw661_3)⟩ (fun hHeld => ?_); refine with_tabW qr16Bridges.tab9 qr16Bridges.bits9 (fun HT_ HW_ => ?_)
         generalize wr.drew = w19 at HO_7 HO_8 BK649 HB hx654_0 hx658_0 hx659_0 hx659_1 hx659_2 hx659_3 hx660_0 hx661_0 hx661_1 hx661_2 hx661_3 hHeld ⊢
         refine pure_ (i := 1) (N := some 26) (v := ?_) (a' := ?_) #[false,true,false,false,false,false,false,false,false,false,false,false,false,false,false,false,false,false,false,false,false,false,false,false,false,false,false] rfl rfl (any_of HT_.out (by kernel_rfl)) (fun _ _ _ h => h) (Or.inl ⟨by rfl, ?_⟩) ?_ ?_
         rotate_left; (intro w'; go_simp; with_reducible rfl); rotate_left; (simp only [Act.put, List.setIfInBounds_toArray, List.set_cons_zero, List.set_cons_succ, i64_w, i32_w]; rfl)
         refine pure_ (i := 2) (N := some 27) (v := ?_) (a' := ?_) #[false,true,true,false,false,false,false,false,false,false,false,false,false,false,false,false,false,false,false,false,false,false,false,false,false,false,false] rfl rfl (any_of HT_.out (by kernel_rfl)) (fun _ _ _ h => h) (Or.inl ⟨by rfl, ?_⟩) ?_ ?_
         rotate_left; (intro w'; go_simp; with_reducible rfl); rotate_left; (simp only [Act.put, List.setIfInBounds_toArray, List.set_cons_zero, List.set_cons_succ, i64_w, i32_w]; rfl)
         refine pure_ (i := 3) (N := some 28) (v := ?_) (a' := ?_) #[false,true,true,true,false,false,false,false,false,false,false,false,false,false,false,false,false,false,false,false,false,false,false,false,false,false,false] rfl rfl (any_of HT_.out (by kernel_rfl)) (fun _ _ _ h => h) (Or.inl ⟨by rfl, ?_⟩) ?_ ?_
         rotate_left; (intro w'; go_simp; with_reducible rfl); rotate_left; (simp only [Act.put, List.setIfInBounds_toArray, List.set_cons_zero, List.set_cons_succ, i64_w, i32_w]; rfl)
         refine pure_ (i := 4) (N := some 29) (v := ?_) (a' := ?_) #[false,true,true,true,true,false,false,false,false,false,false,false,false,false,false,false,false,false,false,false,false,false,false,false,false,false,false] rfl rfl (any_of HT_.out (by kernel_rfl)) (fun _ _ _ h => h) (Or.inl ⟨by rfl, ?_⟩) ?_ ?_
         rotate_left; (intro w'; go_simp; with_reducible rfl); rotate_left; (simp only [Act.put, List.setIfInBounds_toArray, List.set_cons_zero, List.set_cons_succ, i64_w, i32_w]; rfl)
         refine pure_ (i := 7) (N := some 32) (v := ?_) (a' := ?_) #[false,true,true,true,true,false,false,true,false,false,false,false,false,false,false,false,false,false,false,false,false,false,false,false,false,false,false] rfl rfl (any_of HT_.out (by kernel_rfl)) (fun _ _ _ h => h) (Or.inl ⟨by rfl, ?_⟩) ?_ ?_
         rotate_left; (intro w'; go_simp; with_reducible rfl); rotate_left; (simp only [Act.put, List.setIfInBounds_toArray, List.set_cons_zero, List.set_cons_succ, i64_w, i32_w]; rfl)
         refine pure_ (i := 9) (N := some 34) (v := ?_) (a' := ?_) #[false,true,true,true,true,false,false,true,false,true,false,false,false,false,false,false,false,false,false,false,false,false,false,false,false,false,false] rfl rfl (any_of HT_.out (by kernel_rfl)) (fun _ _ _ h => h) (Or.inl ⟨by rfl, ?_⟩) ?_ ?_
         rotate_left; (intro w'; go_simp; with_reducible rfl); rotate_left; (simp only [Act.put, List.setIfInBounds_toArray, List.set_cons_zero, List.set_cons_succ, i64_w, i32_w]; rfl)
         refine pure_ (i := 10) (N := some 35) (v := ?_) (a' := ?_) #[false,true,true,true,true,false,false,true,false,true,true,false,false,false,false,false,false,false,false,false,false,false,false,false,false,false,false] rfl rfl (any_of HT_.out (by kernel_rfl)) (fun _ _ _ h => h) (Or.inl ⟨by rfl, ?_⟩) ?_ ?_
         rotate_left; (intro w'; go_simp; with_reducible rfl); rotate_left; (simp only [Act.put, List.setIfInBounds_toArray, List.set_cons_zero, List.set_cons_succ, i64_w, i32_w]; rfl)
         refine pure_ (i := 11) (N := some 36) (v := ?_) (a' := ?_) #[false,true,true,true,true,false,false,true,false,true,true,true,false,false,false,false,false,false,false,false,false,false,false,false,false,false,false] rfl rfl (any_of HT_.out (by kernel_rfl)) (fun _ _ _ h => h) (Or.inl ⟨by rfl, ?_⟩) ?_ ?_
         rotate_left; (intro w'; go_simp; with_reducible rfl); rotate_left; (simp only [Act.put, List.setIfInBounds_toArray, List.set_cons_zero, List.set_cons_succ, i64_w, i32_w]; rfl)
         refine pure_ (i := 16) (N := some 41) (v := ?_) (a' := ?_) #[false,true,true,true,true,false,false,true,false,true,true,true,false,false,false,false,true,false,false,false,false,false,false,false,false,false,false] rfl rfl (any_of HT_.out (by kernel_rfl)) (fun _ _ _ h => h) (Or.inl ⟨by rfl, ?_⟩) ?_ ?_
         rotate_left; (intro w'; go_simp; with_reducible rfl); rotate_left; (simp only [Act.put, List.setIfInBounds_toArray, List.set_cons_zero, List.set_cons_succ, i64_w, i32_w]; rfl)
         refine pure_ (i := 18) (N := some 43) (v := ?_) (a' := ?_) #[false,true,true,true,true,false,false,true,false,true,true,true,false,false,false,false,true,false,true,false,false,false,false,false,false,false,false] rfl rfl (any_of HT_.out (by kernel_rfl)) (fun _ _ _ h => h) (Or.inl ⟨by rfl, ?_⟩) ?_ ?_
         rotate_left; (intro w'; go_simp; with_reducible rfl); rotate_left; (simp only [Act.put, List.setIfInBounds_toArray, List.set_cons_zero, List.set_cons_succ, i64_w, i32_w]; rfl)
         refine pure_ (i := 19) (N := some 44) (v := ?_) (a' := ?_) #[false,true,true,true,true,false,false,true,false,true,true,true,false,false,false,false,true,false,true,true,false,false,false,false,false,false,false] rfl rfl (any_of HT_.out (by kernel_rfl)) (fun _ _ _ h => h) (Or.inl ⟨by rfl, ?_⟩) ?_ ?_
         rotate_left; (intro w'; go_simp; with_reducible rfl); rotate_left; (simp only [Act.put, List.setIfInBounds_toArray, List.set_cons_zero, List.set_cons_succ, i64_w, i32_w]; rfl)
         refine pure_ (i := 20) (N := some 45) (v := ?_) (a' := ?_) #[false,true,true,true,true,false,false,true,false,true,true,true,false,false,false,false,true,false,true,true,true,false,false,false,false,false,false] rfl rfl (any_of HT_.out (by kernel_rfl)) (fun _ _ _ h => h) (Or.inl ⟨by rfl, ?_⟩) ?_ ?_
         rotate_left; (intro w'; go_simp; with_reducible rfl); rotate_left; (simp only [Act.put, List.setIfInBounds_toArray, List.set_cons_zero, List.set_cons_succ, i64_w, i32_w]; rfl)
         refine take_ (i := 0) (N := some 25) (v := ?_) (a' := ?_) #[true,true,true,true,true,false,false,true,false,true,true,true,false,false,false,false,true,false,true,true,true,false,false,false,false,false,false] rfl rfl (take_ofW HT_.out HW_.out (by kernel_rfl)) (fun _ _ _ h => h) (Or.inl ⟨by rfl, ?_⟩) hHeld ?_ ?_
         rotate_left; (rintro w' ⟨s0, s1, s2, s3, s4, s5, s6, s7, s8, s9, s10, s11, s12⟩; go_simp; with_reducible rfl); rotate_left; (simp only [Act.put, List.setIfInBounds_toArray, List.set_cons_zero, List.set_cons_succ, i64_w, i32_w]; rfl)
         refine take_ (i := 5) (N := some 30) (v := ?_) (a' := ?_) #[true,true,true,true,true,true,false,true,false,true,true,true,false,false,false,false,true,false,true,true,true,false,false,false,false,false,false] rfl rfl (take_ofW HT_.out HW_.out (by kernel_rfl)) (fun _ _ _ h => h) (Or.inl ⟨by rfl, ?_⟩) hHeld ?_ ?_
         rotate_left; (rintro w' ⟨s0, s1, s2, s3, s4, s5, s6, s7, s8, s9, s10, s11, s12⟩; go_simp; with_reducible rfl); rotate_left; (simp only [Act.put, List.setIfInBounds_toArray, List.set_cons_zero, List.set_cons_succ, i64_w, i32_w]; rfl)
         refine take_ (i := 8) (N := some 33) (v := ?_) (a' := ?_) #[true,true,true,true,true,true,false,true,true,true,true,true,false,false,false,false,true,false,true,true,true,false,false,false,false,false,false] rfl rfl (take_ofW HT_.out HW_.out (by kernel_rfl)) (fun _ _ _ h => h) (Or.inl ⟨by rfl, ?_⟩) hHeld ?_ ?_
         rotate_left; (rintro w' ⟨s0, s1, s2, s3, s4, s5, s6, s7, s8, s9, s10, s11, s12⟩; go_simp; with_reducible rfl); rotate_left; (simp only [Act.put, List.setIfInBounds_toArray, List.set_cons_zero, List.set_cons_succ, i64_w, i32_w]; rfl)
         refine take_ (i := 12) (N := some 37) (v := ?_) (a' := ?_) #[true,true,true,true,true,true,false,true,true,true,true,true,true,false,false,false,true,false,true,true,true,false,false,false,false,false,false] rfl rfl (take_ofW HT_.out HW_.out (by kernel_rfl)) (fun _ _ _ h => h) (Or.inl ⟨by rfl, ?_⟩) hHeld ?_ ?_
         rotate_left; (rintro w' ⟨s0, s1, s2, s3, s4, s5, s6, s7, s8, s9, s10, s11, s12⟩; go_simp; with_reducible rfl); rotate_left; (simp only [Act.put, List.setIfInBounds_toArray, List.set_cons_zero, List.set_cons_succ, i64_w, i32_w]; rfl)
         refine pure_ (i := 13) (N := some 38) (v := ?_) (a' := ?_) #[true,true,true,true,true,true,false,true,true,true,true,true,true,true,false,false,true,false,true,true,true,false,false,false,false,false,false] rfl rfl (any_of HT_.out (by kernel_rfl)) (fun _ _ _ h => h) (Or.inl ⟨by rfl, ?_⟩) ?_ ?_
         rotate_left; (intro w'; go_simp; with_reducible rfl); rotate_left; (simp only [Act.put, List.setIfInBounds_toArray, List.set_cons_zero, List.set_cons_succ, i64_w, i32_w]; rfl)
         refine pure_ (i := 14) (N := some 39) (v := ?_) (a' := ?_) #[true,true,true,true,true,true,false,true,true,true,true,true,true,true,true,false,true,false,true,true,true,false,false,false,false,false,false] rfl rfl (any_of HT_.out (by kernel_rfl)) (fun _ _ _ h => h) (Or.inl ⟨by rfl, ?_⟩) ?_ ?_
         rotate_left; (intro w'; go_simp; with_reducible rfl); rotate_left; (simp only [Act.put, List.setIfInBounds_toArray, List.set_cons_zero, List.set_cons_succ, i64_w, i32_w]; rfl)
         refine take_ (i := 15) (N := some 40) (v := ?_) (a' := ?_) #[true,true,true,true,true,true,false,true,true,true,true,true,true,true,true,true,true,false,true,true,true,false,false,false,false,false,false] rfl rfl (take_ofW HT_.out HW_.out (by kernel_rfl)) (fun _ _ _ h => h) (Or.inl ⟨by rfl, ?_⟩) hHeld ?_ ?_
         rotate_left; (rintro w' ⟨s0, s1, s2, s3, s4, s5, s6, s7, s8, s9, s10, s11, s12⟩; go_simp; with_reducible rfl); rotate_left; (simp only [Act.put, List.setIfInBounds_toArray, List.set_cons_zero, List.set_cons_succ, i64_w, i32_w]; rfl)
         refine take_ (i := 17) (N := some 42) (v := ?_) (a' := ?_) #[true,true,true,true,true,true,false,true,true,true,true,true,true,true,true,true,true,true,true,true,true,false,false,false,false,false,false] rfl rfl (take_ofW HT_.out HW_.out (by kernel_rfl)) (fun _ _ _ h => h) (Or.inl ⟨by rfl, ?_⟩) hHeld ?_ ?_
         rotate_left; (rintro w' ⟨s0, s1, s2, s3, s4, s5, s6, s7, s8, s9, s10, s11, s12⟩; go_simp; with_reducible rfl); rotate_left; (simp only [Act.put, List.setIfInBounds_toArray, List.set_cons_zero, List.set_cons_succ, i64_w, i32_w]; rfl)
         refine take_ (i := 21) (N := some 46) (v := ?_) (a' := ?_) #[true,true,true,true,true,true,false,true,true,true,true,true,true,true,true,true,true,true,true,true,true,true,false,false,false,false,false] rfl rfl (take_ofW HT_.out HW_.out (by kernel_rfl)) (fun _ _ _ h => h) (Or.inl ⟨by rfl, ?_⟩) hHeld ?_ ?_
         rotate_left; (rintro w' ⟨s0, s1, s2, s3, s4, s5, s6, s7, s8, s9, s10, s11, s12⟩; go_simp; with_reducible rfl); rotate_left; (simp only [Act.put, List.setIfInBounds_toArray, List.set_cons_zero, List.set_cons_succ, i64_w, i32_w]; rfl)
         refine pure_ (i := 22) (N := some 47) (v := ?_) (a' := ?_) #[true,true,true,true,true,true,false,true,true,true,true,true,true,true,true,true,true,true,true,true,true,true,true,false,false,false,false] rfl rfl (any_of HT_.out (by kernel_rfl)) (fun _ _ _ h => h) (Or.inl ⟨by rfl, ?_⟩) ?_ ?_
         rotate_left; (intro w'; go_simp; with_reducible rfl); rotate_left; (simp only [Act.put, List.setIfInBounds_toArray, List.set_cons_zero, List.set_cons_succ, i64_w, i32_w]; rfl)
         refine pure_ (i := 23) (N := some 48) (v := ?_) (a' := ?_) #[true,true,true,true,true,true,false,true,true,true,true,true,true,true,true,true,true,true,true,true,true,true,true,true,false,false,false] rfl rfl (any_of HT_.out (by kernel_rfl)) (fun _ _ _ h => h) (Or.inl ⟨by rfl, ?_⟩) ?_ ?_
         rotate_left; (intro w'; go_simp; with_reducible rfl); rotate_left; (simp only [Act.put, List.setIfInBounds_toArray, List.set_cons_zero, List.set_cons_succ, i64_w, i32_w]; rfl)
         refine take_ (i := 24) (N := some 49) (v := ?_) (a' := ?_) #[true,true,true,true,true,true,false,true,true,true,true,true,true,true,true,true,true,true,true,true,true,true,true,true,true,false,false] rfl rfl (take_ofW HT_.out HW_.out (by kernel_rfl)) (fun _ _ _ h => h) (Or.inl ⟨by rfl, ?_⟩) hHeld ?_ ?_
         rotate_left; (rintro w' ⟨s0, s1, s2, s3, s4, s5, s6, s7, s8, s9, s10, s11, s12⟩; go_simp; with_reducible rfl); rotate_left; (simp only [Act.put, List.setIfInBounds_toArray, List.set_cons_zero, List.set_cons_succ, i64_w, i32_w]; rfl)
         refine one_ (i := 6) (N := some 31) #[true,true,true,true,true,true,true,true,true,true,true,true,true,true,true,true,true,true,true,true,true,true,true,true,true,false,false] rfl rfl (one_of HT_.out (by kernel_rfl)) (by decide) (fun K hK => ?_)
         refine goes_ Try.func96 (by kernel_rfl) rfl #[.slice (some ad654) t651.length co18, .int .i64 (rd t651 x9_1)] (by rfl) rfl rfl (by (try simp only [List.map_toArray, List.map_cons, List.map_nil]); first | done | rfl | (simp only [List.length_drop, List.length_take]; rfl)) ?_
         with_reducible refine (qr16without.calls k1 _ _ t651 (rd t651 x9_1) t655 _ ?side1 ?side2 A13.out).mono ?_
         (case side1 => repeat (first | exact (Kd.R_reads' HO_8.out).2.2 | (with_reducible refine Kd.C_alloc ?_ _) | (with_reducible refine Kd.C_drewN ?_ _) | (with_reducible refine Kd.C_drew ?_)))
         (case side2 => exact (Kd.R_reads' HO_8.out).2.1)
         rintro e w20 ⟨v656, rfl, ho0, hb⟩
         have HS2_ := (hb.cell (wlt0 _ _ (hHeld.2.2.1))).trans (hHeld.2.2.1)
         have HS3_ := (hb.cell (wlt0 _ _ (hHeld.2.2.2.1))).trans (hHeld.2.2.2.1)
         have HS8_ := (hb.cell (wlt0 _ _ (hHeld.2.2.2.2.2.2.2.2.1))).trans (hHeld.2.2.2.2.2.2.2.2.1)
         refine ⟨_, rfl, ?_⟩
         have n0_ := Z0.mk (Kd.R_elder' (by (with_reducible repeat (first | apply Kd.R_alloc | apply Kd.R_drewN | apply Kd.R_drew)); exact HO_7.out) (Kd.R_base ho0) hb)
         have n1_ := Z0.mk (Kd.R_elder' (by (with_reducible repeat (first | apply Kd.R_alloc | apply Kd.R_drewN | apply Kd.R_drew)); exact HO_8.out) (Kd.R_base ho0) hb)
         have n2_ := Z0.mk (Kd.R_lower (Kd.R_new' (Kd.R_new' ho0 (Kd.R_lt (by (with_reducible repeat (first | apply Kd.R_alloc | apply Kd.R_drewN | apply Kd.R_drew)); exact HO_7.out))) (Kd.R_lt (by (with_reducible repeat (first | apply Kd.R_alloc | apply Kd.R_drewN | apply Kd.R_drew)); exact HO_8.out))) (bZ (by repeat (first | (with_reducible first | exact HB.out | apply below_alloc | apply bN | apply bD | refine bS ?_ GE649.out) | exact HB.out))))
         have n3_ := Z0.mk (kB (g := gb649) (o := .cells #[.int .i64 a0_0, .slice (some ad659) l0_1.length c0_1] 24 (0, 0)) (by (with_reducible repeat (first | refine kN ?_ _ | refine kD ?_ | refine kA ?_ _)); exact BK649.out) hb)
         have n4_ := Z0.mk (bT (by repeat (first | (with_reducible first | exact HB.out | apply below_alloc | apply bN | apply bD | refine bS ?_ GE649.out) | exact HB.out)) hb)
         clear HO_7; clear HO_8; clear BK649; clear HB
         have HO_7 := n0_
         have HO_8 := n1_
         have HO657 := n2_
         have BK649 := n3_
         have HB := n4_
         clear n0_ n1_ n2_ n3_ n4_
         (try clear hb)
         (try clear hb2)
         (try clear hk)
         (try clear hi)
         (try clear ho0)
         obtain ⟨Ao21, co21, eo21⟩ := Kd.R_slice HO657.out
         (first | subst eo21 | (injection eo21 with f1_ f2_ f3_; have f4_ := f1_.symm; have f5_ := f3_.symm; clear f1_ f2_ f3_; subst f4_; subst f5_))
         refine hK.out _ _ ⟨(kC BK649.out 0).trans rfl, (kC BK649.out 1).trans rfl, HS2_, HS3_, ((HB.out.cell (wlt0 w _ hw659_0)).trans hw659_0), ((HB.out.cell (wlt0 w _ hw659_1)).trans hw659_1), ((HB.out.cell (wlt0 w _ hw659_2)).trans hw659_2), ((HB.out.cell (wlt0 w _ hw659_3)).trans hw659_3), HS8_, ((HB.out.cell (wlt0 w _ hw661_0)).trans hw661_0), ((HB.out.cell (wlt0 w _ hw661_1)).trans hw661_1), ((HB.out.cell (wlt0 w _ hw661_2)).trans hw661_2), ((HB.out.cell (wlt0 w _ hw661_3)).trans hw661_3)⟩ (fun hHeld => ?_)
         clear hK K
         refine norm_ (a' := ?_) ?_ ?_
         rotate_left
         ·show Act.put _ (some 31) _ = _
          simp only [Act.put, List.setIfInBounds_toArray, List.set_cons_zero, List.set_cons_succ, i64_w, i32_w]
          rfl
         refine one_ (i := 25) (N := some 50) #[true,true,true,true,true,true,true,true,true,true,true,true,true,true,true,true,true,true,true,true,true,true,true,true,true,true,false] rfl rfl (one_of HT_.out (by kernel_rfl)) (by decide) (fun K hK => ?_)
         refine goes_ Try.func95 (by kernel_rfl) rfl #[.agg #[.int .i64 a0_0, .slice (some ad659) l0_1.length c0_1], .slice Ao21 t655.length co21, .int .i64 ((rd_T37 l0_1 (rd t651 x9_1)).f0), .int .i64 ((rd_T37 l0_1 (rd t651 x9_1)).f1)] (by rfl) rfl rfl (by (try simp only [List.map_toArray, List.map_cons, List.map_nil]); first | done | rfl | (simp only [List.length_drop, List.length_take]; rfl)) ?_
         with_reducible refine (qr16joined.calls k1 a0_0 _ _ l0_1 _ _ t655 ((rd_T37 l0_1 (rd t651 x9_1)).f0) ((rd_T37 l0_1 (rd t651 x9_1)).f1) true _ ?side1 ?side2 ?side3 ?side4 A16.out).mono ?_
         (case side1 => repeat (first | exact (Kd.C_below HR0_1.out HB.out) | (with_reducible refine Kd.C_alloc ?_ _) | (with_reducible refine Kd.C_drewN ?_ _) | (with_reducible refine Kd.C_drew ?_)))
         (case side2 => exact HC0_1.out)
         (case side3 => repeat (first | exact (Kd.R_reads' HO657.out).2.2 | (with_reducible refine Kd.C_alloc ?_ _) | (with_reducible refine Kd.C_drewN ?_ _) | (with_reducible refine Kd.C_drew ?_)))
         (case side4 => exact (Kd.R_reads' HO657.out).2.1)
         rintro e w22 ⟨rfl, hb⟩
         have HS2_ := (hb.cell (wlt0 _ _ (hHeld.2.2.1))).trans (hHeld.2.2.1)
         have HS3_ := (hb.cell (wlt0 _ _ (hHeld.2.2.2.1))).trans (hHeld.2.2.2.1)
         have HS8_ := (hb.cell (wlt0 _ _ (hHeld.2.2.2.2.2.2.2.2.1))).trans (hHeld.2.2.2.2.2.2.2.2.1)
         refine ⟨_, rfl, ?_⟩
         have n0_ := Z0.mk (Kd.R_below (by (with_reducible repeat (first | apply Kd.R_alloc | apply Kd.R_drewN | apply Kd.R_drew)); exact HO_7.out) hb)
         have n1_ := Z0.mk (Kd.R_below (by (with_reducible repeat (first | apply Kd.R_alloc | apply Kd.R_drewN | apply Kd.R_drew)); exact HO_8.out) hb)
         have n2_ := Z0.mk (Kd.R_below (by (with_reducible repeat (first | apply Kd.R_alloc | apply Kd.R_drewN | apply Kd.R_drew)); exact HO657.out) hb)
         have n3_ := Z0.mk (kB (g := gb649) (o := .cells #[.int .i64 a0_0, .slice (some ad659) l0_1.length c0_1] 24 (0, 0)) (by (with_reducible repeat (first | refine kN ?_ _ | refine kD ?_ | refine kA ?_ _)); exact BK649.out) hb)
         have n4_ := Z0.mk (bT (by repeat (first | (with_reducible first | exact HB.out | apply below_alloc | apply bN | apply bD | refine bS ?_ GE649.out) | exact HB.out)) hb)
         clear HO_7; clear HO_8; clear HO657; clear BK649; clear HB
         have HO_7 := n0_
         have HO_8 := n1_
         have HO657 := n2_
         have BK649 := n3_
         have HB := n4_
         clear n0_ n1_ n2_ n3_ n4_
         (try clear hb)
         (try clear hb2)
         (try clear hk)
         (try clear hi)
         refine hK.out _ _ ⟨(kC BK649.out 0).trans rfl, (kC BK649.out 1).trans rfl, HS2_, HS3_, ((HB.out.cell (wlt0 w _ hw659_0)).trans hw659_0), ((HB.out.cell (wlt0 w _ hw659_1)).trans hw659_1), ((HB.out.cell (wlt0 w _ hw659_2)).trans hw659_2), ((HB.out.cell (wlt0 w _ hw659_3)).trans hw659_3), HS8_, ((HB.out.cell (wlt0 w _ hw661_0)).trans hw661_0), ((HB.out.cell (wlt0 w _ hw661_1)).trans hw661_1), ((HB.out.cell (wlt0 w _ hw661_2)).trans hw661_2), ((HB.out.cell (wlt0 w _ hw661_3)).trans hw661_3)⟩ (fun hHeld => ?_)
         clear hK K
         refine norm_ (a' := ?_) ?_ ?_
         rotate_left
         ·show Act.put _ (some 50) _ = _
          simp only [Act.put, List.setIfInBounds_toArray, List.set_cons_zero, List.set_cons_succ, i64_w, i32_w]
          rfl
         refine pure_ (i := 26) (N := some 51) (v := ?_) (a' := ?_) #[true,true,true,true,true,true,true,true,true,true,true,true,true,true,true,true,true,true,true,true,true,true,true,true,true,true,true] rfl rfl (any_of HT_.out (by kernel_rfl)) (fun _ _ _ h => h) (Or.inl ⟨by rfl, ?_⟩) ?_ ?_
         rotate_left; (intro w'; go_simp; with_reducible rfl); rotate_left; (simp only [Act.put, List.setIfInBounds_toArray, List.set_cons_zero, List.set_cons_succ, i64_w, i32_w]; rfl)
         refine done_ (done_of HT_.out (by kernel_rfl)) ?_
         try go_wp2
         go_roundg k1
         case measure => have := HK1.out; omega
         case rel => exact ⟨(x7_1), (wrap64 (x9_1 + 1)), (by first | rfl | (simp; done) | (simp [*]; done)), H', ⟨by have := HK1.out; omega⟩, ⟨by (with_reducible repeat (first | apply Kd.R_alloc | apply Kd.R_drewN | apply Kd.R_drew)); exact Kd.R_mono HO_7.out (fun _ hk => hk.1)⟩, ⟨by (with_reducible repeat (first | apply Kd.R_alloc | apply Kd.R_drewN | apply Kd.R_drew)); exact Kd.R_mono HO_8.out (fun _ hk => hk.1)⟩, ⟨by (with_reducible repeat (first | refine kN ?_ _ | refine kD ?_ | refine kA ?_ _)); exact BK649.out⟩, ⟨by repeat (first | (with_reducible first | exact HB.out | apply below_alloc | apply bN | apply bD | refine bS ?_ GE649.out) | exact HB.out)⟩⟩
        ·replace c17 := Bool.eq_false_iff.mpr c17
         subst c17
         have H1 : (if x7_1.length < 17592186044416 then (qr16Bridges.l0 k1 (x7_1 ++ [rd t651 x9_1]) t651 (wrap64 (x9_1 + 1)) a0_0 l0_1) else (none)) = some (r1, r2) := by rw [if_neg (show ¬ (false = true) by decide)] at H; exact H
         clear H
         have H := H1
         clear H1
         by_cases c23 : x7_1.length < 17592186044416
         ·rw [if_pos c23] at H
          have LMc23 := Z0.mk c23
          clear c23
          obtain ⟨y664, hy664⟩ : ∃ y_ : List Int, y_ = (x7_1 ++ [rd t651 x9_1]) := ⟨_, rfl⟩
          replace H : (qr16Bridges.l0 k1 y664 t651 (wrap64 (x9_1 + 1)) a0_0 l0_1) = some (r1, r2) := by first | (rw [hy664]; with_reducible exact H) | (have H2_ := (Option.bind_some _ _).symm.trans H; rw [hy664]; with_reducible exact H2_) | (have H2_ := (Option.bind_some _ _).symm.trans H; with_reducible exact H2_) | with_reducible exact H | (rw [hy664]; exact H) | exact H
          have Ny664 := Z0.mk hy664
          clear hy664
          have H' := Z0.mk H
          clear H
          obtain ⟨Ao24, co24, eo24⟩ := Kd.R_slice HO_8.out
          subst eo24
          try go_wp2
          have n0_ := Z0.mk (Kd.R_drew HO_7.out)
          have n1_ := Z0.mk (Kd.R_drew HO_8.out)
          have n2_ := Z0.mk (kD BK649.out)
          have n3_ := Z0.mk (bD HB.out)
          clear HO_7; clear HO_8; clear BK649; clear HB
          have HO_7 := n0_
          have HO_8 := n1_
          have BK649 := n2_
          have HB := n3_
          clear n0_ n1_ n2_ n3_
          have p654 : 0 ≤ (x9_1 : Int) := of_decide_eq_true (by first | (with_reducible assumption) | assumption)
          have q654 : x9_1 < (t651.length : Int) := of_decide_eq_true (by first | (with_reducible assumption) | assumption)
          obtain ⟨ad654, e654, hx654_0⟩ := Kd.at_int (Kd.R_reads' HO_8.out).2.2 x9_1 p654 q654
          cases e654
          replace p654 := eq_true p654
          replace q654 := eq_true q654
          have p658 : 0 ≤ (x9_1 : Int) := of_decide_eq_true (by first | (with_reducible assumption) | assumption)
          have q658 : x9_1 < (t651.length : Int) := of_decide_eq_true (by first | (with_reducible assumption) | assumption)
          obtain ⟨ad658, e658, hx658_0⟩ := Kd.at_int (Kd.R_reads' HO_8.out).2.2 x9_1 p658 q658
          obtain rfl : ad654 = ad658 := (by injection e658)
          replace p658 := eq_true p658
          replace q658 := eq_true q658
          have p659 : 0 ≤ ((rd t651 x9_1) : Int) := of_decide_eq_true (by first | (with_reducible assumption) | assumption)
          have q659 : (rd t651 x9_1) < (l0_1.length : Int) := of_decide_eq_true (by first | (with_reducible assumption) | assumption)
          obtain ⟨ad659, e659, hx659_0, hx659_1, hx659_2, hx659_3⟩ := at_T37 HR0_1.out (rd t651 x9_1) p659 q659
          have hw659_3 := hx659_3
          have hw659_2 := hx659_2
          have hw659_1 := hx659_1
          have hw659_0 := hx659_0
          cases e659
          replace hx659_0 := (HB.out.cell (wlt0 w _ hx659_0)).trans hx659_0
          replace hx659_1 := (HB.out.cell (wlt0 w _ hx659_1)).trans hx659_1
          replace hx659_2 := (HB.out.cell (wlt0 w _ hx659_2)).trans hx659_2
          replace hx659_3 := (HB.out.cell (wlt0 w _ hx659_3)).trans hx659_3
          replace p659 := eq_true p659
          replace q659 := eq_true q659
          have p660 : 0 ≤ (x9_1 : Int) := of_decide_eq_true (by first | (with_reducible assumption) | assumption)
          have q660 : x9_1 < (t651.length : Int) := of_decide_eq_true (by first | (with_reducible assumption) | assumption)
          obtain ⟨ad660, e660, hx660_0⟩ := Kd.at_int (Kd.R_reads' HO_8.out).2.2 x9_1 p660 q660
          obtain rfl : ad654 = ad660 := (by injection e660)
          replace p660 := eq_true p660
          replace q660 := eq_true q660
          have p661 : 0 ≤ ((rd t651 x9_1) : Int) := of_decide_eq_true (by first | (with_reducible assumption) | assumption)
          have q661 : (rd t651 x9_1) < (l0_1.length : Int) := of_decide_eq_true (by first | (with_reducible assumption) | assumption)
          obtain ⟨ad661, e661, hx661_0, hx661_1, hx661_2, hx661_3⟩ := at_T37 HR0_1.out (rd t651 x9_1) p661 q661
          have hw661_3 := hx661_3
          have hw661_2 := hx661_2
          have hw661_1 := hx661_1
          have hw661_0 := hx661_0
          obtain rfl : ad659 = ad661 := (by injection e661)
          replace hx661_0 := (HB.out.cell (wlt0 w _ hx661_0)).trans hx661_0
          replace hx661_1 := (HB.out.cell (wlt0 w _ hx661_1)).trans hx661_1
          replace hx661_2 := (HB.out.cell (wlt0 w _ hx661_2)).trans hx661_2
          replace hx661_3 := (HB.out.cell (wlt0 w _ hx661_3)).trans hx661_3
          replace p661 := eq_true p661
          replace q661 := eq_true q661
          refine start_ (n := 27) (S := fun w' => w'.cell? ⟨gb649, 0, none⟩ = some (.int .i64 a0_0) ∧ w'.cell? ⟨gb649, 1, none⟩ = some (.slice (some ad659) l0_1.length c0_1) ∧ w'.cell? (ad654.add (x9_1).toNat) = some (.int .i64 (rd t651 x9_1)) ∧ w'.cell? (ad654.add (x9_1).toNat) = some (.int .i64 (rd t651 x9_1)) ∧ w'.cell? (ad659.add (((rd t651 x9_1)).toNat * 4)) = some (.int .i64 ((rd_T37 l0_1 (rd t651 x9_1)).f0)) ∧ w'.cell? ⟨(ad659.add (((rd t651 x9_1)).toNat * 4)).block, (ad659.add (((rd t651 x9_1)).toNat * 4)).off + 1, none⟩ = some (.int .i64 ((rd_T37 l0_1 (rd t651 x9_1)).f1)) ∧ w'.cell? ⟨(ad659.add (((rd t651 x9_1)).toNat * 4)).block, (ad659.add (((rd t651 x9_1)).toNat * 4)).off + 2, none⟩ = some (.int .i64 ((rd_T37 l0_1 (rd t651 x9_1)).f2)) ∧ w'.cell? ⟨(ad659.add (((rd t651 x9_1)).toNat * 4)).block, (ad659.add (((rd t651 x9_1)).toNat * 4)).off + 3, none⟩ = some (.int .i64 ((rd_T37 l0_1 (rd t651 x9_1)).f3)) ∧ w'.cell? (ad654.add (x9_1).toNat) = some (.int .i64 (rd t651 x9_1)) ∧ w'.cell? (ad659.add (((rd t651 x9_1)).toNat * 4)) = some (.int .i64 ((rd_T37 l0_1 (rd t651 x9_1)).f0)) ∧ w'.cell? ⟨(ad659.add (((rd t651 x9_1)).toNat * 4)).block, (ad659.add (((rd t651 x9_1)).toNat * 4)).off + 1, none⟩ = some (.int .i64 ((rd_T37 l0_1 (rd t651 x9_1)).f1)) ∧ w'.cell? ⟨(ad659.add (((rd t651 x9_1)).toNat * 4)).block, (ad659.add (((rd t651 x9_1)).toNat * 4)).off + 2, none⟩ = some (.int .i64 ((rd_T37 l0_1 (rd t651 x9_1)).f2)) ∧ w'.cell? ⟨(ad659.add (((rd t651 x9_1)).toNat * 4)).block, (ad659.add (((rd t651 x9_1)).toNat * 4)).off + 3, none⟩ = some (.int .i64 ((rd_T37 l0_1 (rd t651 x9_1)).f3))) (ds := []) #[false,false,false,false,false,false,false,false,false,false,false,false,false,false,false,false,false,false,false,false,false,false,false,false,false,false,false] (by kernel_rfl) rfl rfl ⟨(kC BK649.out 0).trans rfl, (kC BK649.out 1).trans rfl, hx654_0, hx658_0, ((HB.out.cell (wlt0 w _ hw659_0)).trans hw659_0), ((HB.out.cell (wlt0 w _ hw659_1)).trans hw659_1), ((HB.out.cell (wlt0 w _ hw659_2)).trans hw659_2), ((HB.out.cell (wlt0 w _ hw659_3)).trans hw659_3), hx660_0, ((HB.out.cell (wlt0 w _ hw661_0)).trans hw661_0), ((HB.out.cell (wlt0 w _ hw661_1)).trans hw661_1), ((HB.out.cell (wlt0 w _ hw661_2)).trans hw661_2), ((HB.out.cell (wlt0 w _ hw661_3)).trans hw661_3)⟩ (fun hHeld => ?_); refine with_tabW qr16Bridges.tab9 qr16Bridges.bits9 (fun HT_ HW_ => ?_)
          generalize wr.drew = w25 at HO_7 HO_8 BK649 HB hx654_0 hx658_0 hx659_0 hx659_1 hx659_2 hx659_3 hx660_0 hx661_0 hx661_1 hx661_2 hx661_3 hHeld ⊢
          refine pure_ (i := 1) (N := some 26) (v := ?_) (a' := ?_) #[false,true,false,false,false,false,false,false,false,false,false,false,false,false,false,false,false,false,false,false,false,false,false,false,false,false,false] rfl rfl (any_of HT_.out (by kernel_rfl)) (fun _ _ _ h => h) (Or.inl ⟨by rfl, ?_⟩) ?_ ?_
          rotate_left; (intro w'; go_simp; with_reducible rfl); rotate_left; (simp only [Act.put, List.setIfInBounds_toArray, List.set_cons_zero, List.set_cons_succ, i64_w, i32_w]; rfl)
          refine pure_ (i := 2) (N := some 27) (v := ?_) (a' := ?_) #[false,true,true,false,false,false,false,false,false,false,false,false,false,false,false,false,false,false,false,false,false,false,false,false,false,false,false] rfl rfl (any_of HT_.out (by kernel_rfl)) (fun _ _ _ h => h) (Or.inl ⟨by rfl, ?_⟩) ?_ ?_
          rotate_left; (intro w'; go_simp; with_reducible rfl); rotate_left; (simp only [Act.put, List.setIfInBounds_toArray, List.set_cons_zero, List.set_cons_succ, i64_w, i32_w]; rfl)
          refine pure_ (i := 3) (N := some 28) (v := ?_) (a' := ?_) #[false,true,true,true,false,false,false,false,false,false,false,false,false,false,false,false,false,false,false,false,false,false,false,false,false,false,false] rfl rfl (any_of HT_.out (by kernel_rfl)) (fun _ _ _ h => h) (Or.inl ⟨by rfl, ?_⟩) ?_ ?_
          rotate_left; (intro w'; go_simp; with_reducible rfl); rotate_left; (simp only [Act.put, List.setIfInBounds_toArray, List.set_cons_zero, List.set_cons_succ, i64_w, i32_w]; rfl)
          refine pure_ (i := 4) (N := some 29) (v := ?_) (a' := ?_) #[false,true,true,true,true,false,false,false,false,false,false,false,false,false,false,false,false,false,false,false,false,false,false,false,false,false,false] rfl rfl (any_of HT_.out (by kernel_rfl)) (fun _ _ _ h => h) (Or.inl ⟨by rfl, ?_⟩) ?_ ?_
          rotate_left; (intro w'; go_simp; with_reducible rfl); rotate_left; (simp only [Act.put, List.setIfInBounds_toArray, List.set_cons_zero, List.set_cons_succ, i64_w, i32_w]; rfl)
          refine pure_ (i := 7) (N := some 32) (v := ?_) (a' := ?_) #[false,true,true,true,true,false,false,true,false,false,false,false,false,false,false,false,false,false,false,false,false,false,false,false,false,false,false] rfl rfl (any_of HT_.out (by kernel_rfl)) (fun _ _ _ h => h) (Or.inl ⟨by rfl, ?_⟩) ?_ ?_
          rotate_left; (intro w'; go_simp; with_reducible rfl); rotate_left; (simp only [Act.put, List.setIfInBounds_toArray, List.set_cons_zero, List.set_cons_succ, i64_w, i32_w]; rfl)
          refine pure_ (i := 9) (N := some 34) (v := ?_) (a' := ?_) #[false,true,true,true,true,false,false,true,false,true,false,false,false,false,false,false,false,false,false,false,false,false,false,false,false,false,false] rfl rfl (any_of HT_.out (by kernel_rfl)) (fun _ _ _ h => h) (Or.inl ⟨by rfl, ?_⟩) ?_ ?_
          rotate_left; (intro w'; go_simp; with_reducible rfl); rotate_left; (simp only [Act.put, List.setIfInBounds_toArray, List.set_cons_zero, List.set_cons_succ, i64_w, i32_w]; rfl)
          refine pure_ (i := 10) (N := some 35) (v := ?_) (a' := ?_) #[false,true,true,true,true,false,false,true,false,true,true,false,false,false,false,false,false,false,false,false,false,false,false,false,false,false,false] rfl rfl (any_of HT_.out (by kernel_rfl)) (fun _ _ _ h => h) (Or.inl ⟨by rfl, ?_⟩) ?_ ?_
          rotate_left; (intro w'; go_simp; with_reducible rfl); rotate_left; (simp only [Act.put, List.setIfInBounds_toArray, List.set_cons_zero, List.set_cons_succ, i64_w, i32_w]; rfl)
          refine pure_ (i := 11) (N := some 36) (v := ?_) (a' := ?_) #[false,true,true,true,true,false,false,true,false,true,true,true,false,false,false,false,false,false,false,false,false,false,false,false,false,false,false] rfl rfl (any_of HT_.out (by kernel_rfl)) (fun _ _ _ h => h) (Or.inl ⟨by rfl, ?_⟩) ?_ ?_
          rotate_left; (intro w'; go_simp; with_reducible rfl); rotate_left; (simp only [Act.put, List.setIfInBounds_toArray, List.set_cons_zero, List.set_cons_succ, i64_w, i32_w]; rfl)
          refine pure_ (i := 16) (N := some 41) (v := ?_) (a' := ?_) #[false,true,true,true,true,false,false,true,false,true,true,true,false,false,false,false,true,false,false,false,false,false,false,false,false,false,false] rfl rfl (any_of HT_.out (by kernel_rfl)) (fun _ _ _ h => h) (Or.inl ⟨by rfl, ?_⟩) ?_ ?_
          rotate_left; (intro w'; go_simp; with_reducible rfl); rotate_left; (simp only [Act.put, List.setIfInBounds_toArray, List.set_cons_zero, List.set_cons_succ, i64_w, i32_w]; rfl)
          refine pure_ (i := 18) (N := some 43) (v := ?_) (a' := ?_) #[false,true,true,true,true,false,false,true,false,true,true,true,false,false,false,false,true,false,true,false,false,false,false,false,false,false,false] rfl rfl (any_of HT_.out (by kernel_rfl)) (fun _ _ _ h => h) (Or.inl ⟨by rfl, ?_⟩) ?_ ?_
          rotate_left; (intro w'; go_simp; with_reducible rfl); rotate_left; (simp only [Act.put, List.setIfInBounds_toArray, List.set_cons_zero, List.set_cons_succ, i64_w, i32_w]; rfl)
          refine pure_ (i := 19) (N := some 44) (v := ?_) (a' := ?_) #[false,true,true,true,true,false,false,true,false,true,true,true,false,false,false,false,true,false,true,true,false,false,false,false,false,false,false] rfl rfl (any_of HT_.out (by kernel_rfl)) (fun _ _ _ h => h) (Or.inl ⟨by rfl, ?_⟩) ?_ ?_
          rotate_left; (intro w'; go_simp; with_reducible rfl); rotate_left; (simp only [Act.put, List.setIfInBounds_toArray, List.set_cons_zero, List.set_cons_succ, i64_w, i32_w]; rfl)
          refine pure_ (i := 20) (N := some 45) (v := ?_) (a' := ?_) #[false,true,true,true,true,false,false,true,false,true,true,true,false,false,false,false,true,false,true,true,true,false,false,false,false,false,false] rfl rfl (any_of HT_.out (by kernel_rfl)) (fun _ _ _ h => h) (Or.inl ⟨by rfl, ?_⟩) ?_ ?_
          rotate_left; (intro w'; go_simp; with_reducible rfl); rotate_left; (simp only [Act.put, List.setIfInBounds_toArray, List.set_cons_zero, List.set_cons_succ, i64_w, i32_w]; rfl)
          refine take_ (i := 0) (N := some 25) (v := ?_) (a' := ?_) #[true,true,true,true,true,false,false,true,false,true,true,true,false,false,false,false,true,false,true,true,true,false,false,false,false,false,false] rfl rfl (take_ofW HT_.out HW_.out (by kernel_rfl)) (fun _ _ _ h => h) (Or.inl ⟨by rfl, ?_⟩) hHeld ?_ ?_
          rotate_left; (rintro w' ⟨s0, s1, s2, s3, s4, s5, s6, s7, s8, s9, s10, s11, s12⟩; go_simp; with_reducible rfl); rotate_left; (simp only [Act.put, List.setIfInBounds_toArray, List.set_cons_zero, List.set_cons_succ, i64_w, i32_w]; rfl)
          refine take_ (i := 5) (N := some 30) (v := ?_) (a' := ?_) #[true,true,true,true,true,true,false,true,false,true,true,true,false,false,false,false,true,false,true,true,true,false,false,false,false,false,false] rfl rfl (take_ofW HT_.out HW_.out (by kernel_rfl)) (fun _ _ _ h => h) (Or.inl ⟨by rfl, ?_⟩) hHeld ?_ ?_
          rotate_left; (rintro w' ⟨s0, s1, s2, s3, s4, s5, s6, s7, s8, s9, s10, s11, s12⟩; go_simp; with_reducible rfl); rotate_left; (simp only [Act.put, List.setIfInBounds_toArray, List.set_cons_zero, List.set_cons_succ, i64_w, i32_w]; rfl)
          refine take_ (i := 8) (N := some 33) (v := ?_) (a' := ?_) #[true,true,true,true,true,true,false,true,true,true,true,true,false,false,false,false,true,false,true,true,true,false,false,false,false,false,false] rfl rfl (take_ofW HT_.out HW_.out (by kernel_rfl)) (fun _ _ _ h => h) (Or.inl ⟨by rfl, ?_⟩) hHeld ?_ ?_
          rotate_left; (rintro w' ⟨s0, s1, s2, s3, s4, s5, s6, s7, s8, s9, s10, s11, s12⟩; go_simp; with_reducible rfl); rotate_left; (simp only [Act.put, List.setIfInBounds_toArray, List.set_cons_zero, List.set_cons_succ, i64_w, i32_w]; rfl)
          refine take_ (i := 12) (N := some 37) (v := ?_) (a' := ?_) #[true,true,true,true,true,true,false,true,true,true,true,true,true,false,false,false,true,false,true,true,true,false,false,false,false,false,false] rfl rfl (take_ofW HT_.out HW_.out (by kernel_rfl)) (fun _ _ _ h => h) (Or.inl ⟨by rfl, ?_⟩) hHeld ?_ ?_
          rotate_left; (rintro w' ⟨s0, s1, s2, s3, s4, s5, s6, s7, s8, s9, s10, s11, s12⟩; go_simp; with_reducible rfl); rotate_left; (simp only [Act.put, List.setIfInBounds_toArray, List.set_cons_zero, List.set_cons_succ, i64_w, i32_w]; rfl)
          refine pure_ (i := 13) (N := some 38) (v := ?_) (a' := ?_) #[true,true,true,true,true,true,false,true,true,true,true,true,true,true,false,false,true,false,true,true,true,false,false,false,false,false,false] rfl rfl (any_of HT_.out (by kernel_rfl)) (fun _ _ _ h => h) (Or.inl ⟨by rfl, ?_⟩) ?_ ?_
          rotate_left; (intro w'; go_simp; with_reducible rfl); rotate_left; (simp only [Act.put, List.setIfInBounds_toArray, List.set_cons_zero, List.set_cons_succ, i64_w, i32_w]; rfl)
          refine pure_ (i := 14) (N := some 39) (v := ?_) (a' := ?_) #[true,true,true,true,true,true,false,true,true,true,true,true,true,true,true,false,true,false,true,true,true,false,false,false,false,false,false] rfl rfl (any_of HT_.out (by kernel_rfl)) (fun _ _ _ h => h) (Or.inl ⟨by rfl, ?_⟩) ?_ ?_
          rotate_left; (intro w'; go_simp; with_reducible rfl); rotate_left; (simp only [Act.put, List.setIfInBounds_toArray, List.set_cons_zero, List.set_cons_succ, i64_w, i32_w]; rfl)
          refine take_ (i := 15) (N := some 40) (v := ?_) (a' := ?_) #[true,true,true,true,true,true,false,true,true,true,true,true,true,true,true,true,true,false,true,true,true,false,false,false,false,false,false] rfl rfl (take_ofW HT_.out HW_.out (by kernel_rfl)) (fun _ _ _ h => h) (Or.inl ⟨by rfl, ?_⟩) hHeld ?_ ?_
          rotate_left; (rintro w' ⟨s0, s1, s2, s3, s4, s5, s6, s7, s8, s9, s10, s11, s12⟩; go_simp; with_reducible rfl); rotate_left; (simp only [Act.put, List.setIfInBounds_toArray, List.set_cons_zero, List.set_cons_succ, i64_w, i32_w]; rfl)
          refine take_ (i := 17) (N := some 42) (v := ?_) (a' := ?_) #[true,true,true,true,true,true,false,true,true,true,true,true,true,true,true,true,true,true,true,true,true,false,false,false,false,false,false] rfl rfl (take_ofW HT_.out HW_.out (by kernel_rfl)) (fun _ _ _ h => h) (Or.inl ⟨by rfl, ?_⟩) hHeld ?_ ?_
          rotate_left; (rintro w' ⟨s0, s1, s2, s3, s4, s5, s6, s7, s8, s9, s10, s11, s12⟩; go_simp; with_reducible rfl); rotate_left; (simp only [Act.put, List.setIfInBounds_toArray, List.set_cons_zero, List.set_cons_succ, i64_w, i32_w]; rfl)
          refine take_ (i := 21) (N := some 46) (v := ?_) (a' := ?_) #[true,true,true,true,true,true,false,true,true,true,true,true,true,true,true,true,true,true,true,true,true,true,false,false,false,false,false] rfl rfl (take_ofW HT_.out HW_.out (by kernel_rfl)) (fun _ _ _ h => h) (Or.inl ⟨by rfl, ?_⟩) hHeld ?_ ?_
          rotate_left; (rintro w' ⟨s0, s1, s2, s3, s4, s5, s6, s7, s8, s9, s10, s11, s12⟩; go_simp; with_reducible rfl); rotate_left; (simp only [Act.put, List.setIfInBounds_toArray, List.set_cons_zero, List.set_cons_succ, i64_w, i32_w]; rfl)
          refine pure_ (i := 22) (N := some 47) (v := ?_) (a' := ?_) #[true,true,true,true,true,true,false,true,true,true,true,true,true,true,true,true,true,true,true,true,true,true,true,false,false,false,false] rfl rfl (any_of HT_.out (by kernel_rfl)) (fun _ _ _ h => h) (Or.inl ⟨by rfl, ?_⟩) ?_ ?_
          rotate_left; (intro w'; go_simp; with_reducible rfl); rotate_left; (simp only [Act.put, List.setIfInBounds_toArray, List.set_cons_zero, List.set_cons_succ, i64_w, i32_w]; rfl)
          refine pure_ (i := 23) (N := some 48) (v := ?_) (a' := ?_) #[true,true,true,true,true,true,false,true,true,true,true,true,true,true,true,true,true,true,true,true,true,true,true,true,false,false,false] rfl rfl (any_of HT_.out (by kernel_rfl)) (fun _ _ _ h => h) (Or.inl ⟨by rfl, ?_⟩) ?_ ?_
          rotate_left; (intro w'; go_simp; with_reducible rfl); rotate_left; (simp only [Act.put, List.setIfInBounds_toArray, List.set_cons_zero, List.set_cons_succ, i64_w, i32_w]; rfl)
          refine take_ (i := 24) (N := some 49) (v := ?_) (a' := ?_) #[true,true,true,true,true,true,false,true,true,true,true,true,true,true,true,true,true,true,true,true,true,true,true,true,true,false,false] rfl rfl (take_ofW HT_.out HW_.out (by kernel_rfl)) (fun _ _ _ h => h) (Or.inl ⟨by rfl, ?_⟩) hHeld ?_ ?_
          rotate_left; (rintro w' ⟨s0, s1, s2, s3, s4, s5, s6, s7, s8, s9, s10, s11, s12⟩; go_simp; with_reducible rfl); rotate_left; (simp only [Act.put, List.setIfInBounds_toArray, List.set_cons_zero, List.set_cons_succ, i64_w, i32_w]; rfl)
          refine one_ (i := 6) (N := some 31) #[true,true,true,true,true,true,true,true,true,true,true,true,true,true,true,true,true,true,true,true,true,true,true,true,true,false,false] rfl rfl (one_of HT_.out (by kernel_rfl)) (by decide) (fun K hK => ?_)
          refine goes_ Try.func96 (by kernel_rfl) rfl #[.slice (some ad654) t651.length co24, .int .i64 (rd t651 x9_1)] (by rfl) rfl rfl (by (try simp only [List.map_toArray, List.map_cons, List.map_nil]); first | done | rfl | (simp only [List.length_drop, List.length_take]; rfl)) ?_
          with_reducible refine (qr16without.calls k1 _ _ t651 (rd t651 x9_1) t655 _ ?side1 ?side2 A13.out).mono ?_
          (case side1 => repeat (first | exact (Kd.R_reads' HO_8.out).2.2 | (with_reducible refine Kd.C_alloc ?_ _) | (with_reducible refine Kd.C_drewN ?_ _) | (with_reducible refine Kd.C_drew ?_)))
          (case side2 => exact (Kd.R_reads' HO_8.out).2.1)
          rintro e w26 ⟨v656, rfl, ho0, hb⟩
          have HS2_ := (hb.cell (wlt0 _ _ (hHeld.2.2.1))).trans (hHeld.2.2.1)
          have HS3_ := (hb.cell (wlt0 _ _ (hHeld.2.2.2.1))).trans (hHeld.2.2.2.1)
          have HS8_ := (hb.cell (wlt0 _ _ (hHeld.2.2.2.2.2.2.2.2.1))).trans (hHeld.2.2.2.2.2.2.2.2.1)
          refine ⟨_, rfl, ?_⟩
          have n0_ := Z0.mk (Kd.R_elder' (by (with_reducible repeat (first | apply Kd.R_alloc | apply Kd.R_drewN | apply Kd.R_drew)); exact HO_7.out) (Kd.R_base ho0) hb)
          have n1_ := Z0.mk (Kd.R_elder' (by (with_reducible repeat (first | apply Kd.R_alloc | apply Kd.R_drewN | apply Kd.R_drew)); exact HO_8.out) (Kd.R_base ho0) hb)
          have n2_ := Z0.mk (Kd.R_lower (Kd.R_new' (Kd.R_new' ho0 (Kd.R_lt (by (with_reducible repeat (first | apply Kd.R_alloc | apply Kd.R_drewN | apply Kd.R_drew)); exact HO_7.out))) (Kd.R_lt (by (with_reducible repeat (first | apply Kd.R_alloc | apply Kd.R_drewN | apply Kd.R_drew)); exact HO_8.out))) (bZ (by repeat (first | (with_reducible first | exact HB.out | apply below_alloc | apply bN | apply bD | refine bS ?_ GE649.out) | exact HB.out))))
          have n3_ := Z0.mk (kB (g := gb649) (o := .cells #[.int .i64 a0_0, .slice (some ad659) l0_1.length c0_1] 24 (0, 0)) (by (with_reducible repeat (first | refine kN ?_ _ | refine kD ?_ | refine kA ?_ _)); exact BK649.out) hb)
          have n4_ := Z0.mk (bT (by repeat (first | (with_reducible first | exact HB.out | apply below_alloc | apply bN | apply bD | refine bS ?_ GE649.out) | exact HB.out)) hb)
          clear HO_7; clear HO_8; clear BK649; clear HB
          have HO_7 := n0_
          have HO_8 := n1_
          have HO657 := n2_
          have BK649 := n3_
          have HB := n4_
          clear n0_ n1_ n2_ n3_ n4_
          (try clear hb)
          (try clear hb2)
          (try clear hk)
          (try clear hi)
          (try clear ho0)
          obtain ⟨Ao27, co27, eo27⟩ := Kd.R_slice HO657.out
          (first | subst eo27 | (injection eo27 with f1_ f2_ f3_; have f4_ := f1_.symm; have f5_ := f3_.symm; clear f1_ f2_ f3_; subst f4_; subst f5_))
          refine hK.out _ _ ⟨(kC BK649.out 0).trans rfl, (kC BK649.out 1).trans rfl, HS2_, HS3_, ((HB.out.cell (wlt0 w _ hw659_0)).trans hw659_0), ((HB.out.cell (wlt0 w _ hw659_1)).trans hw659_1), ((HB.out.cell (wlt0 w _ hw659_2)).trans hw659_2), ((HB.out.cell (wlt0 w _ hw659_3)).trans hw659_3), HS8_, ((HB.out.cell (wlt0 w _ hw661_0)).trans hw661_0), ((HB.out.cell (wlt0 w _ hw661_1)).trans hw661_1), ((HB.out.cell (wlt0 w _ hw661_2)).trans hw661_2), ((HB.out.cell (wlt0 w _ hw661_3)).trans hw661_3)⟩ (fun hHeld => ?_)
          clear hK K
          refine norm_ (a' := ?_) ?_ ?_
          rotate_left
          ·show Act.put _ (some 31) _ = _
           simp only [Act.put, List.setIfInBounds_toArray, List.set_cons_zero, List.set_cons_succ, i64_w, i32_w]
           rfl
          refine one_ (i := 25) (N := some 50) #[true,true,true,true,true,true,true,true,true,true,true,true,true,true,true,true,true,true,true,true,true,true,true,true,true,true,false] rfl rfl (one_of HT_.out (by kernel_rfl)) (by decide) (fun K hK => ?_)
          refine goes_ Try.func95 (by kernel_rfl) rfl #[.agg #[.int .i64 a0_0, .slice (some ad659) l0_1.length c0_1], .slice Ao27 t655.length co27, .int .i64 ((rd_T37 l0_1 (rd t651 x9_1)).f0), .int .i64 ((rd_T37 l0_1 (rd t651 x9_1)).f1)] (by rfl) rfl rfl (by (try simp only [List.map_toArray, List.map_cons, List.map_nil]); first | done | rfl | (simp only [List.length_drop, List.length_take]; rfl)) ?_
          with_reducible refine (qr16joined.calls k1 a0_0 _ _ l0_1 _ _ t655 ((rd_T37 l0_1 (rd t651 x9_1)).f0) ((rd_T37 l0_1 (rd t651 x9_1)).f1) false _ ?side1 ?side2 ?side3 ?side4 A16.out).mono ?_
          (case side1 => repeat (first | exact (Kd.C_below HR0_1.out HB.out) | (with_reducible refine Kd.C_alloc ?_ _) | (with_reducible refine Kd.C_drewN ?_ _) | (with_reducible refine Kd.C_drew ?_)))
          (case side2 => exact HC0_1.out)
          (case side3 => repeat (first | exact (Kd.R_reads' HO657.out).2.2 | (with_reducible refine Kd.C_alloc ?_ _) | (with_reducible refine Kd.C_drewN ?_ _) | (with_reducible refine Kd.C_drew ?_)))
          (case side4 => exact (Kd.R_reads' HO657.out).2.1)
          rintro e w28 ⟨rfl, hb⟩
          have HS2_ := (hb.cell (wlt0 _ _ (hHeld.2.2.1))).trans (hHeld.2.2.1)
          have HS3_ := (hb.cell (wlt0 _ _ (hHeld.2.2.2.1))).trans (hHeld.2.2.2.1)
          have HS8_ := (hb.cell (wlt0 _ _ (hHeld.2.2.2.2.2.2.2.2.1))).trans (hHeld.2.2.2.2.2.2.2.2.1)
          refine ⟨_, rfl, ?_⟩
          have n0_ := Z0.mk (Kd.R_below (by (with_reducible repeat (first | apply Kd.R_alloc | apply Kd.R_drewN | apply Kd.R_drew)); exact HO_7.out) hb)
          have n1_ := Z0.mk (Kd.R_below (by (with_reducible repeat (first | apply Kd.R_alloc | apply Kd.R_drewN | apply Kd.R_drew)); exact HO_8.out) hb)
          have n2_ := Z0.mk (Kd.R_below (by (with_reducible repeat (first | apply Kd.R_alloc | apply Kd.R_drewN | apply Kd.R_drew)); exact HO657.out) hb)
          have n3_ := Z0.mk (kB (g := gb649) (o := .cells #[.int .i64 a0_0, .slice (some ad659) l0_1.length c0_1] 24 (0, 0)) (by (with_reducible repeat (first | refine kN ?_ _ | refine kD ?_ | refine kA ?_ _)); exact BK649.out) hb)
          have n4_ := Z0.mk (bT (by repeat (first | (with_reducible first | exact HB.out | apply below_alloc | apply bN | apply bD | refine bS ?_ GE649.out) | exact HB.out)) hb)
          clear HO_7; clear HO_8; clear HO657; clear BK649; clear HB
          have HO_7 := n0_
          have HO_8 := n1_
          have HO657 := n2_
          have BK649 := n3_
          have HB := n4_
          clear n0_ n1_ n2_ n3_ n4_
          (try clear hb)
          (try clear hb2)
          (try clear hk)
          (try clear hi)
          refine hK.out _ _ ⟨(kC BK649.out 0).trans rfl, (kC BK649.out 1).trans rfl, HS2_, HS3_, ((HB.out.cell (wlt0 w _ hw659_0)).trans hw659_0), ((HB.out.cell (wlt0 w _ hw659_1)).trans hw659_1), ((HB.out.cell (wlt0 w _ hw659_2)).trans hw659_2), ((HB.out.cell (wlt0 w _ hw659_3)).trans hw659_3), HS8_, ((HB.out.cell (wlt0 w _ hw661_0)).trans hw661_0), ((HB.out.cell (wlt0 w _ hw661_1)).trans hw661_1), ((HB.out.cell (wlt0 w _ hw661_2)).trans hw661_2), ((HB.out.cell (wlt0 w _ hw661_3)).trans hw661_3)⟩ (fun hHeld => ?_)
          clear hK K
          refine norm_ (a' := ?_) ?_ ?_
          rotate_left
          ·show Act.put _ (some 50) _ = _
           simp only [Act.put, List.setIfInBounds_toArray, List.set_cons_zero, List.set_cons_succ, i64_w, i32_w]
           rfl
          refine pure_ (i := 26) (N := some 51) (v := ?_) (a' := ?_) #[true,true,true,true,true,true,true,true,true,true,true,true,true,true,true,true,true,true,true,true,true,true,true,true,true,true,true] rfl rfl (any_of HT_.out (by kernel_rfl)) (fun _ _ _ h => h) (Or.inl ⟨by rfl, ?_⟩) ?_ ?_
          rotate_left; (intro w'; go_simp; with_reducible rfl); rotate_left; (simp only [Act.put, List.setIfInBounds_toArray, List.set_cons_zero, List.set_cons_succ, i64_w, i32_w]; rfl)
          refine done_ (done_of HT_.out (by kernel_rfl)) ?_
          have p663 : 0 ≤ (x9_1 : Int) := of_decide_eq_true (by first | (with_reducible assumption) | assumption)
          have q663 : x9_1 < (t651.length : Int) := of_decide_eq_true (by first | (with_reducible assumption) | assumption)
          obtain ⟨ad663, e663, hx663_0⟩ := Kd.at_int (Kd.R_reads' HO_8.out).2.2 x9_1 p663 q663
          obtain rfl : ad654 = ad663 := (by injection e663)
          replace p663 := eq_true p663
          replace q663 := eq_true q663
          try go_wp2_with (first | ((with_reducible refine gate_builtin (b := .append) (xs := #[.tmp 52, .tmp 57]) rfl ?_); at_builtin; refine Kd.R_append (Kd.int .i64) (w0 := w) w.heap.size rfl (.tmp 52) (.tmp 57) 25 3 (.int .i64 0) 8 rfl Try.underlying25 info3 rfl (by decide) (by omega) u7 x7_1 (rd t651 x9_1) [.int .i64 (rd t651 x9_1)] (fun k_ => some k_ ≠ (.slice (some ad654) t651.length co24 : Value).ownBlock ∧ some k_ ≠ (.slice Ao27 t655.length co27 : Value).ownBlock) (fun _ => False) rfl rfl ?aP (fun _ hk => hk.elim) ?aF ?aO ?aB ?aS ?aL ?_; (case aP => exact rfl); (case aB => exact (by repeat (first | (with_reducible first | exact HB.out | apply below_alloc | apply bN | apply bD | refine bS ?_ GE649.out) | exact HB.out))); (case aF => exact (fun k_ hk => ⟨Kd.fresh' (Kd.R_lt (by (with_reducible repeat (first | apply Kd.R_alloc | apply Kd.R_drewN | apply Kd.R_drew)); exact HO_8.out)) k_ hk, Kd.fresh' (Kd.R_lt (by (with_reducible repeat (first | apply Kd.R_alloc | apply Kd.R_drewN | apply Kd.R_drew)); exact HO657.out)) k_ hk⟩)); (case aO => exact (by (with_reducible repeat (first | apply Kd.R_alloc | apply Kd.R_drewN | apply Kd.R_drew)); exact HO_7.out)); (case aS => exact (bZ (by repeat (first | (with_reducible first | exact HB.out | apply below_alloc | apply bN | apply bD | refine bS ?_ GE649.out) | exact HB.out)))); (case aL => have := LMc23.out; omega); intro v665 w29 ho hb hg hat; rw [← Ny664.out] at ho; have n0_ := Z0.mk (Kd.R_after (ok := (fun k_ => some k_ ≠ (.slice Ao27 t655.length co27 : Value).ownBlock)) (by (with_reducible repeat (first | apply Kd.R_alloc | apply Kd.R_drewN | apply Kd.R_drew)); exact Kd.R_mono HO_8.out (fun _ hk => ⟨hk.2, hk.1⟩)) hg hat); have n1_ := Z0.mk (blk_grown (g := gb649) (o := .cells #[.int .i64 a0_0, .slice (some ad659) l0_1.length c0_1] 24 (0, 0)) (by (with_reducible repeat (first | refine kN ?_ _ | refine kD ?_ | refine kA ?_ _)); exact BK649.out) hg (Kd.R_ne HO_7.out BK649.out (by decide))); have n2_ := Z0.mk (Kd.R_after (ok := (fun k_ => some k_ ≠ (.slice (some ad654) t651.length co24 : Value).ownBlock)) (by (with_reducible repeat (first | apply Kd.R_alloc | apply Kd.R_drewN | apply Kd.R_drew)); exact Kd.R_mono HO657.out (fun _ hk => ⟨hk.2, hk.1.2⟩)) hg hat); have n3_ := Z0.mk (hb); have n4_ := Z0.mk (ho); clear HO_8; clear BK649; clear HO657; clear HB; clear HO_7; have HO_8 := n0_; have BK649 := n1_; have HO657 := n2_; have HB := n3_; have HO666 := n4_; clear n0_ n1_ n2_ n3_ n4_; clear ho hb hg hat))
          go_roundg k1
          case measure => have := HK1.out; omega
          case rel => exact ⟨(y664), (wrap64 (x9_1 + 1)), (by first | rfl | (simp; done) | (simp [*]; done)), H', ⟨by have := HK1.out; omega⟩, ⟨by (with_reducible repeat (first | apply Kd.R_alloc | apply Kd.R_drewN | apply Kd.R_drew)); exact Kd.R_mono HO666.out (fun _ hk => hk.1)⟩, ⟨by (with_reducible repeat (first | apply Kd.R_alloc | apply Kd.R_drewN | apply Kd.R_drew)); exact Kd.R_mono HO_8.out (fun _ hk => hk.2)⟩, ⟨by (with_reducible repeat (first | refine kN ?_ _ | refine kD ?_ | refine kA ?_ _)); exact BK649.out⟩, ⟨by repeat (first | (with_reducible first | exact HB.out | apply below_alloc | apply bN | apply bD | refine bS ?_ GE649.out) | exact HB.out)⟩⟩
         ·rw [if_neg c23] at H
          exact absurd H (by simp)
       ·rw [if_neg c15] at H
        exact absurd H (by simp)
      ·rw [if_neg c14] at H
       exact absurd H (by simp)
     ·rw [if_neg c12] at H
      exact absurd H (by simp)
    ·rw [if_neg c11] at H
     have c11b0 : decide (x9_1 < (t651.length : Int)) = false := decide_eq_false c11
     clear c11
     simp only [Option.some.injEq, Prod.mk.injEq] at H
     obtain ⟨rfl, rfl⟩ := H
     obtain ⟨Ao30, co30, eo30⟩ := Kd.R_slice HO_8.out
     subst eo30
     go_wp2
     go_ret2
     exact ⟨_, by first | rfl | (simp [errW_none, errW_some] <;> rfl) | (simp [*, errW_none, errW_some] <;> rfl), by (with_reducible repeat (first | apply Kd.R_alloc | apply Kd.R_drewN | apply Kd.R_drew)); exact Kd.R_mono HO_7.out (fun _ hk => trivial), by repeat (first | (with_reducible first | exact HB.out | apply below_alloc | apply bN | apply bD | refine bS ?_ GE649.out) | exact HB.out)⟩
 ·rw [if_neg c4] at H
  have c4b0 : (t650 == 0) = false := beq_eq_false_iff_ne.mpr c4
  have c4b1 : (t650 != 0) = true := bne_iff_ne.mpr c4
  simp only [Option.some.injEq, Prod.mk.injEq] at H
  obtain ⟨rfl, rfl⟩ := H
  go_enter Try.func52, Try.ntmps52
  go_wp2_with (first | ((with_reducible refine gate_dst (N := 2) rfl ?_); refine bE ?hg (N := 2) ?hd (cs := #[.int .i64 a0_0, .slice A0_1 l0_1.length c0_1]) (t := 24) ?hr ?_; (case hd => rfl); (case hg => rfl); (case hr => first | (go_simp; done) | (go_simp; rfl)); intro gb649 hg w31 hbox hb; have n0_ := Z0.mk (bT (by repeat (first | (with_reducible first | exact HB.out | apply below_alloc | apply bN | apply bD) | exact HB.out)) hb); have n1_ := Z0.mk (hbox); have n2_ := Z0.mk ((by rw [hg]; exact (bZ (by repeat (first | (with_reducible first | exact HB.out | apply below_alloc | apply bN | apply bD) | exact HB.out))) : w.heap.size ≤ gb649)); have n3_ := Z0.mk ((by rw [hg]; exact (bZ (by repeat (first | (with_reducible first | exact HB.out | apply below_alloc | apply bN | apply bD) | exact HB.out))) : w.heap.size ≤ gb649)); clear HB; have HB := n0_; have BK649 := n1_; have GW649 := n2_; have GE649 := n3_; clear n0_ n1_ n2_ n3_; clear hb hbox hg; have hcz32_0 : w31.cell? ⟨gb649, 0, none⟩ = some (.int .i64 a0_0) := (kC BK649.out 0).trans rfl; have hcz32_1 : w31.cell? ⟨gb649, 1, none⟩ = some (.slice A0_1 l0_1.length c0_1) := (kC BK649.out 1).trans rfl; have hfz32_0 := kF BK649.out 0; have hfz32_1 := kF BK649.out 1) | ((with_reducible refine gC (f := 69) rfl ?_); refine gL (some 12) rfl rfl Try.func69 (by kernel_rfl) rfl #[.agg #[.int .i64 a0_0, .slice A0_1 l0_1.length c0_1], .slice A1 l1.length c1] rfl (by (try simp only [List.map_toArray, List.map_cons, List.map_nil]); first | done | rfl | (simp only [List.length_drop, List.length_take]; rfl)) ?_; (with_reducible refine (qr14Outs.calls k a0_0 _ _ l0_1 _ _ l1 t650 _ ?side1 ?side2 ?side3 ?side4 A3.out).mono ?_); (case side1 => repeat (first | exact (Kd.C_below HR0_1.out HB.out) | (with_reducible refine Kd.C_alloc ?_ _) | (with_reducible refine Kd.C_drewN ?_ _) | (with_reducible refine Kd.C_drew ?_))); (case side2 => exact HC0_1.out); (case side3 => repeat (first | exact (Kd.C_below HR1.out HB.out) | (with_reducible refine Kd.C_alloc ?_ _) | (with_reducible refine Kd.C_drewN ?_ _) | (with_reducible refine Kd.C_drew ?_))); (case side4 => exact HC1.out); rintro e w33 ⟨rfl, hb⟩; refine ⟨_, rfl, ?_⟩; have n0_ := Z0.mk (kB (g := gb649) (o := .cells #[.int .i64 a0_0, .slice A0_1 l0_1.length c0_1] 24 (0, 0)) (by (with_reducible repeat (first | refine kN ?_ _ | refine kD ?_ | refine kA ?_ _)); exact BK649.out) hb); have n1_ := Z0.mk (bT (by repeat (first | (with_reducible first | exact HB.out | apply below_alloc | apply bN | apply bD | refine bS ?_ GE649.out) | exact HB.out)) hb); clear BK649; clear HB; have BK649 := n0_; have HB := n1_; clear n0_ n1_; (try clear hb); (try clear hb2); (try clear hk); (try clear hi)))
  go_ret2
  exact ⟨_, by first | rfl | (simp [errW_none, errW_some] <;> rfl) | (simp [*, errW_none, errW_some] <;> rfl), by first | exact Kd.R_nil _ _ _ _ _ | exact Kd.N_nil _ _ _ _ _ | exact Kd.V_nil _ _ _ _ _ | exact Kd.Q_nil _ _ _ _ _ | exact Kd.S_nil _ _ _ _ _, by repeat (first | (with_reducible first | exact HB.out | apply below_alloc | apply bN | apply bD | refine bS ?_ GE649.out) | exact HB.out)⟩
def qr16Tree.l0 : Nat → List Int → List Int → Int → Int → List (S37) → Option (List Int × Int)
 | 0, _, _, _, _, _ => none
 | k + 1, x7, x8, x9, x668000, x668001 => if x9 < (x8.length : Int) then (if 0 ≤ x9 then (if 0 ≤ (rd x8 x9) then (if (rd x8 x9) < (x668001.length : Int) then ((qr16joined.f k x668000 x668001 x7 ((rd_T37 x668001 (rd x8 x9)).f0) ((rd_T37 x668001 (rd x8 x9)).f1)).bind fun t676 => (if t676 = true then (qr16Tree.l0 k x7 x8 (wrap64 (x9 + 1)) x668000 x668001) else (if x7.length < 17592186044416 then (qr16Tree.l0 k (x7 ++ [rd x8 x9]) x8 (wrap64 (x9 + 1)) x668000 x668001) else (none)))) else (none)) else (none)) else (none)) else (some (x7, 0))
def qr16Tree.f (k : Nat) (a0_0 : Int) (l0_1 : List (S37)) (l1 : List Int) : Option (List Int × Int) := (qr14Outs.f k a0_0 l0_1 l1).bind fun t668 => (if t668 = 0 then ((qr14In.f k a0_0 l0_1 l1).bind fun t669 => (qr16Tree.l0 k ([] : List Int) t669 0 a0_0 l0_1)) else (some (([] : List Int), t668)))
def qr16Tree.T9 : Bool × List (List Nat × List Nat) := (true, [([], []), ([], []), ([], []), ([2], [2]), ([], []), ([], []), ([4, 5], [4, 5]), ([6], [6]), ([3, 7], [3, 7]), ([8], [8]), ([9], [9]), ([], []), ([11], [11]), ([], []), ([], []), ([13, 14], [13, 14]), ([15], [15]), ([12, 16], [12, 16]), ([17], [17]), ([18], [18]), ([0, 1, 10, 19], [0, 1, 10, 19]), ([20], [20])])
def qr16Tree.B9 : List Nat := [0, 0, 0, 4, 0, 0, 48, 112, 252, 508, 1020, 0, 2048, 0, 0, 24576, 57344, 129024, 260096, 522240, 1048575, 2097151]
theorem qr16Tree.tab9 : rtab .any (opsOf Try.f53 9) = qr16Tree.T9 := by kernel_rfl
theorem qr16Tree.bits9 : waitsOk qr16Tree.T9.2 qr16Tree.B9 = true := by kernel_rfl
set_option maxHeartbeats 8000000 in
set_option maxRecDepth 100000 in
theorem qr16Tree.calls (k : Nat) (a0_0 : Int) (A0_1 : Option Addr) (c0_1 : Nat) (l0_1 : List (S37)) (A1 : Option Addr) (c1 : Nat) (l1 : List Int) (r1 : List Int) (r2 : Int) (w : World) (hr0_1 : Kd.C k37 w A0_1 l0_1.length l0_1) (hc0_1 : l0_1.length ≤ c0_1) (hr1 : Kd.C (Kd.int .i64) w A1 l1.length l1) (hc1 : l1.length ≤ c1) (h : qr16Tree.f k a0_0 l0_1 l1 = some (r1, r2)) :
  Calls Try.prog 53 #[.agg #[.int .i64 a0_0, .slice A0_1 l0_1.length c0_1], .slice A1 l1.length c1] w fun e w' => ∃ v0_ : Value, e = .returned (.tuple #[v0_, .int .i64 r2]) ∧ Kd.R (Kd.int .i64) 3 w' w.heap.size (fun _ => True) v0_ r1 ∧ Below w.heap.size w w' := by
 have hu24 := Try.underlying24
 have HR0_1 := Z0.mk hr0_1
 have HC0_1 := Z0.mk hc0_1
 clear hr0_1 hc0_1
 have HR1 := Z0.mk hr1
 have HC1 := Z0.mk hc1
 clear hr1 hc1
 have HB := Z0.mk (Below.refl w.heap.size w)
 have H : ((qr14Outs.f k a0_0 l0_1 l1).bind fun t668 => (if t668 = 0 then ((qr14In.f k a0_0 l0_1 l1).bind fun t669 => (qr16Tree.l0 k ([] : List Int) t669 0 a0_0 l0_1)) else (some (([] : List Int), t668)))) = some (r1, r2) := h
 clear h
 replace H := Option.bind_eq_some_iff.mp H
 obtain ⟨t668, A30, H⟩ := H
 replace H : (if t668 = 0 then ((qr14In.f k a0_0 l0_1 l1).bind fun t669 => (qr16Tree.l0 k ([] : List Int) t669 0 a0_0 l0_1)) else (some (([] : List Int), t668))) = some (r1, r2) := H
 have A3 := Z0.mk A30
 clear A30
 by_cases c4 : t668 = 0
 ·rw [if_pos c4] at H
  have c4b0 : (t668 == 0) = true := beq_iff_eq.mpr c4
  have c4b1 : (t668 != 0) = false := bne_eq_false_iff_eq.mpr c4
  clear c4
  replace H := Option.bind_eq_some_iff.mp H
  obtain ⟨t669, A50, H⟩ := H
  replace H : (qr16Tree.l0 k ([] : List Int) t669 0 a0_0 l0_1) = some (r1, r2) := H
  have A5 := Z0.mk A50
  clear A50
  have H' := Z0.mk H
  clear H
  go_enter Try.func53, Try.ntmps53
  go_wp2_with (first | ((with_reducible refine gate_dst (N := 2) rfl ?_); refine bE ?hg (N := 2) ?hd (cs := #[.int .i64 a0_0, .slice A0_1 l0_1.length c0_1]) (t := 24) ?hr ?_; (case hd => rfl); (case hg => rfl); (case hr => first | (go_simp; done) | (go_simp; rfl)); intro gb667 hg w6 hbox hb; have n0_ := Z0.mk (bT (by repeat (first | (with_reducible first | exact HB.out | apply below_alloc | apply bN | apply bD) | exact HB.out)) hb); have n1_ := Z0.mk (hbox); have n2_ := Z0.mk ((by rw [hg]; exact (bZ (by repeat (first | (with_reducible first | exact HB.out | apply below_alloc | apply bN | apply bD) | exact HB.out))) : w.heap.size ≤ gb667)); have n3_ := Z0.mk ((by rw [hg]; exact (bZ (by repeat (first | (with_reducible first | exact HB.out | apply below_alloc | apply bN | apply bD) | exact HB.out))) : w.heap.size ≤ gb667)); clear HB; have HB := n0_; have BK667 := n1_; have GW667 := n2_; have GE667 := n3_; clear n0_ n1_ n2_ n3_; clear hb hbox hg; have hcz7_0 : w6.cell? ⟨gb667, 0, none⟩ = some (.int .i64 a0_0) := (kC BK667.out 0).trans rfl; have hcz7_1 : w6.cell? ⟨gb667, 1, none⟩ = some (.slice A0_1 l0_1.length c0_1) := (kC BK667.out 1).trans rfl; have hfz7_0 := kF BK667.out 0; have hfz7_1 := kF BK667.out 1) | ((with_reducible refine gC (f := 69) rfl ?_); refine gL (some 12) rfl rfl Try.func69 (by kernel_rfl) rfl #[.agg #[.int .i64 a0_0, .slice A0_1 l0_1.length c0_1], .slice A1 l1.length c1] rfl (by (try simp only [List.map_toArray, List.map_cons, List.map_nil]); first | done | rfl | (simp only [List.length_drop, List.length_take]; rfl)) ?_; (with_reducible refine (qr14Outs.calls k a0_0 _ _ l0_1 _ _ l1 t668 _ ?side1 ?side2 ?side3 ?side4 A3.out).mono ?_); (case side1 => repeat (first | exact (Kd.C_below HR0_1.out HB.out) | (with_reducible refine Kd.C_alloc ?_ _) | (with_reducible refine Kd.C_drewN ?_ _) | (with_reducible refine Kd.C_drew ?_))); (case side2 => exact HC0_1.out); (case side3 => repeat (first | exact (Kd.C_below HR1.out HB.out) | (with_reducible refine Kd.C_alloc ?_ _) | (with_reducible refine Kd.C_drewN ?_ _) | (with_reducible refine Kd.C_drew ?_))); (case side4 => exact HC1.out); rintro e w8 ⟨rfl, hb⟩; refine ⟨_, rfl, ?_⟩; have n0_ := Z0.mk (kB (g := gb667) (o := .cells #[.int .i64 a0_0, .slice A0_1 l0_1.length c0_1] 24 (0, 0)) (by (with_reducible repeat (first | refine kN ?_ _ | refine kD ?_ | refine kA ?_ _)); exact BK667.out) hb); have n1_ := Z0.mk (bT (by repeat (first | (with_reducible first | exact HB.out | apply below_alloc | apply bN | apply bD | refine bS ?_ GE667.out) | exact HB.out)) hb); clear BK667; clear HB; have BK667 := n0_; have HB := n1_; clear n0_ n1_; (try clear hb); (try clear hb2); (try clear hk); (try clear hi); have hcz9_0 : w8.cell? ⟨gb667, 0, none⟩ = some (.int .i64 a0_0) := (kC BK667.out 0).trans rfl; have hcz9_1 : w8.cell? ⟨gb667, 1, none⟩ = some (.slice A0_1 l0_1.length c0_1) := (kC BK667.out 1).trans rfl; have hfz9_0 := kF BK667.out 0; have hfz9_1 := kF BK667.out 1) | ((with_reducible refine gC (f := 72) rfl ?_); refine gL (some 18) rfl rfl Try.func72 (by kernel_rfl) rfl #[.agg #[.int .i64 a0_0, .slice A0_1 l0_1.length c0_1], .slice A1 l1.length c1] rfl (by (try simp only [List.map_toArray, List.map_cons, List.map_nil]); first | done | rfl | (simp only [List.length_drop, List.length_take]; rfl)) ?_; (with_reducible refine (qr14In.calls k a0_0 _ _ l0_1 _ _ l1 t669 _ ?side1 ?side2 ?side3 ?side4 A5.out).mono ?_); (case side1 => repeat (first | exact (Kd.C_below HR0_1.out HB.out) | (with_reducible refine Kd.C_alloc ?_ _) | (with_reducible refine Kd.C_drewN ?_ _) | (with_reducible refine Kd.C_drew ?_))); (case side2 => exact HC0_1.out); (case side3 => repeat (first | exact (Kd.C_below HR1.out HB.out) | (with_reducible refine Kd.C_alloc ?_ _) | (with_reducible refine Kd.C_drewN ?_ _) | (with_reducible refine Kd.C_drew ?_))); (case side4 => exact HC1.out); rintro e w10 ⟨v670, rfl, ho0, hb⟩; refine ⟨_, rfl, ?_⟩; have n0_ := Z0.mk (Kd.R_lower ho0 (bZ (by repeat (first | (with_reducible first | exact HB.out | apply below_alloc | apply bN | apply bD | refine bS ?_ GE667.out) | exact HB.out)))); have n1_ := Z0.mk (kB (g := gb667) (o := .cells #[.int .i64 a0_0, .slice A0_1 l0_1.length c0_1] 24 (0, 0)) (by (with_reducible repeat (first | refine kN ?_ _ | refine kD ?_ | refine kA ?_ _)); exact BK667.out) hb); have n2_ := Z0.mk (bT (by repeat (first | (with_reducible first | exact HB.out | apply below_alloc | apply bN | apply bD | refine bS ?_ GE667.out) | exact HB.out)) hb); clear BK667; clear HB; have HO671 := n0_; have BK667 := n1_; have HB := n2_; clear n0_ n1_ n2_; (try clear hb); (try clear hb2); (try clear hk); (try clear hi); (try clear ho0)))
  go_loopg [7, 9] k (fun kq v7 v9 w' => ∃ (x7_1 : List Int) (x9_1 : Int), v9 = .int .i64 x9_1 ∧ Z0 (qr16Tree.l0 kq x7_1 t669 x9_1 a0_0 l0_1 = some (r1, r2)) ∧ Z0 (kq ≤ k) ∧ Z0 (Kd.R (Kd.int .i64) 3 w' w.heap.size (fun k_ => some k_ ≠ (v670 : Value).ownBlock) v7 x7_1) ∧ Z0 (Kd.R (Kd.int .i64) 3 w' w.heap.size (fun k_ => some k_ ≠ (v7 : Value).ownBlock) v670 t669) ∧ Z0 (w'.heap[gb667]? = some (.cells #[.int .i64 a0_0, (.slice A0_1 l0_1.length c0_1)] 24 (0, 0))) ∧ Z0 (Below w.heap.size w w'))
  case atStart => exact ⟨(([] : List Int)), (0), (by first | rfl | (simp; done) | (simp [*]; done)), H', ⟨Nat.le_refl _⟩, ⟨by first | exact Kd.R_nil _ _ _ _ _ | exact Kd.N_nil _ _ _ _ _ | exact Kd.V_nil _ _ _ _ _ | exact Kd.Q_nil _ _ _ _ _ | exact Kd.S_nil _ _ _ _ _⟩, ⟨by (with_reducible repeat (first | apply Kd.R_alloc | apply Kd.R_drewN | apply Kd.R_drew)); exact Kd.R_mono HO671.out (fun _ hk => (by simp [Value.ownBlock]))⟩, ⟨by (with_reducible repeat (first | refine kN ?_ _ | refine kD ?_ | refine kA ?_ _)); exact BK667.out⟩, ⟨by repeat (first | (with_reducible first | exact HB.out | apply below_alloc | apply bN | apply bD | refine bS ?_ GE667.out) | exact HB.out)⟩⟩
  case round =>
   clear H'; (try clear c1); (try clear p2); (try clear c4); (try clear c4b0); (try clear c4b1); (try clear c5); (try clear c6); (try clear c7); (try clear hcz7_0); (try clear hcz7_1); (try clear hcz9_0); (try clear hcz9_1); (try clear hfz7_0); (try clear hfz7_1); (try clear hfz9_0); (try clear hfz9_1)
   obtain ⟨x7_1, x9_1, rfl, HA, HK1, HO_7, HO_8, BK667, HB⟩ := hrel
   cases gk with
   | zero => exact absurd HA.out (by simp [qr16Tree.l0])
   | succ k1 =>
    have H := HA.out
    clear HA
    simp only [qr16Tree.l0] at H
    by_cases c11 : x9_1 < (t669.length : Int)
    ·rw [if_pos c11] at H
     have c11b0 : decide (x9_1 < (t669.length : Int)) = true := decide_eq_true c11
     clear c11
     by_cases c12 : 0 ≤ x9_1
     ·rw [if_pos c12] at H
      have c12b0 : decide (0 ≤ x9_1) = true := decide_eq_true c12
      clear c12
      by_cases c13 : 0 ≤ (rd t669 x9_1)
      ·rw [if_pos c13] at H
       have c13b0 : decide (0 ≤ (rd t669 x9_1)) = true := decide_eq_true c13
       clear c13
       by_cases c14 : (rd t669 x9_1) < (l0_1.length : Int)
       ·rw [if_pos c14] at H
        have c14b0 : decide ((rd t669 x9_1) < (l0_1.length : Int)) = true := decide_eq_true c14
        clear c14
        replace H := Option.bind_eq_some_iff.mp H
        obtain ⟨t676, A150, H⟩ := H
        replace H : (if t676 = true then (qr16Tree.l0 k1 x7_1 t669 (wrap64 (x9_1 + 1)) a0_0 l0_1) else (if x7_1.length < 17592186044416 then (qr16Tree.l0 k1 (x7_1 ++ [rd t669 x9_1]) t669 (wrap64 (x9_1 + 1)) a0_0 l0_1) else (none))) = some (r1, r2) := H
        have A15 := Z0.mk A150
        clear A150
        by_cases c16 : t676 = true
        ·subst c16
         have H1 : (qr16Tree.l0 k1 x7_1 t669 (wrap64 (x9_1 + 1)) a0_0 l0_1) = some (r1, r2) := by rw [if_pos rfl] at H; exact H
         clear H
         have H := H1
         clear H1
         have H' := Z0.mk H
         clear H
         obtain ⟨Ao17, co17, eo17⟩ := Kd.R_slice HO_8.out
         subst eo17
         try go_wp2
         have n0_ := Z0.mk (Kd.R_drew HO_7.out)
         have n1_ := Z0.mk (Kd.R_drew HO_8.out)
         have n2_ := Z0.mk (kD BK667.out)
         have n3_ := Z0.mk (bD HB.out)
         clear HO_7; clear HO_8; clear BK667; clear HB
         have HO_7 := n0_
         have HO_8 := n1_
         have BK667 := n2_
         have HB := n3_
         clear n0_ n1_ n2_ n3_
         have p672 : 0 ≤ (x9_1 : Int) := of_decide_eq_true (by first | (with_reducible assumption) | assumption)
         have q672 : x9_1 < (t669.length : Int) := of_decide_eq_true (by first | (with_reducible assumption) | assumption)
         obtain ⟨ad672, e672, hx672_0⟩ := Kd.at_int (Kd.R_reads' HO_8.out).2.2 x9_1 p672 q672
         cases e672
         replace p672 := eq_true p672
         replace q672 := eq_true q672
         have p673 : 0 ≤ ((rd t669 x9_1) : Int) := of_decide_eq_true (by first | (with_reducible assumption) | assumption)
         have q673 : (rd t669 x9_1) < (l0_1.length : Int) := of_decide_eq_true (by first | (with_reducible assumption) | assumption)
         obtain ⟨ad673, e673, hx673_0, hx673_1, hx673_2, hx673_3⟩ := at_T37 HR0_1.out (rd t669 x9_1) p673 q673
         have hw673_3 := hx673_3
         have hw673_2 := hx673_2
         have hw673_1 := hx673_1
         have hw673_0 := hx673_0
         cases e673
         replace hx673_0 := (HB.out.cell (wlt0 w _ hx673_0)).trans hx673_0
         replace hx673_1 := (HB.out.cell (wlt0 w _ hx673_1)).trans hx673_1
         replace hx673_2 := (HB.out.cell (wlt0 w _ hx673_2)).trans hx673_2
         replace hx673_3 := (HB.out.cell (wlt0 w _ hx673_3)).trans hx673_3
         replace p673 := eq_true p673
         replace q673 := eq_true q673
         have p674 : 0 ≤ (x9_1 : Int) := of_decide_eq_true (by first | (with_reducible assumption) | assumption)
         have q674 : x9_1 < (t669.length : Int) := of_decide_eq_true (by first | (with_reducible assumption) | assumption)
         obtain ⟨ad674, e674, hx674_0⟩ := Kd.at_int (Kd.R_reads' HO_8.out).2.2 x9_1 p674 q674
         obtain rfl : ad672 = ad674 := (by injection e674)
         replace p674 := eq_true p674
         replace q674 := eq_true q674
         have p675 : 0 ≤ ((rd t669 x9_1) : Int) := of_decide_eq_true (by first | (with_reducible assumption) | assumption)
         have q675 : (rd t669 x9_1) < (l0_1.length : Int) := of_decide_eq_true (by first | (with_reducible assumption) | assumption)
         obtain ⟨ad675, e675, hx675_0, hx675_1, hx675_2, hx675_3⟩ := at_T37 HR0_1.out (rd t669 x9_1) p675 q675
         have hw675_3 := hx675_3
         have hw675_2 := hx675_2
         have hw675_1 := hx675_1
         have hw675_0 := hx675_0
         obtain rfl : ad673 = ad675 := (by injection e675)
         replace hx675_0 := (HB.out.cell (wlt0 w _ hx675_0)).trans hx675_0
         replace hx675_1 := (HB.out.cell (wlt0 w _ hx675_1)).trans hx675_1
         replace hx675_2 := (HB.out.cell (wlt0 w _ hx675_2)).trans hx675_2
         replace hx675_3 := (HB.out.cell (wlt0 w _ hx675_3)).trans hx675_3
         replace p675 := eq_true p675
         replace q675 := eq_true q675
         obtain ⟨Ao19, co19, eo19⟩ := Kd.R_slice HO_7.out
         (first | subst eo19 | (injection eo19 with f1_ f2_ f3_; have f4_ := f1_.symm; have f5_ := f3_.symm; clear f1_ f2_ f3_; subst f4_; subst f5_))
         refine start_ (n := 22) (S := fun w' => w'.cell? ⟨gb667, 0, none⟩ = some (.int .i64 a0_0) ∧ w'.cell? ⟨gb667, 1, none⟩ = some (.slice (some ad673) l0_1.length c0_1) ∧ w'.cell? (ad672.add (x9_1).toNat) = some (.int .i64 (rd t669 x9_1)) ∧ w'.cell? (ad673.add (((rd t669 x9_1)).toNat * 4)) = some (.int .i64 ((rd_T37 l0_1 (rd t669 x9_1)).f0)) ∧ w'.cell? ⟨(ad673.add (((rd t669 x9_1)).toNat * 4)).block, (ad673.add (((rd t669 x9_1)).toNat * 4)).off + 1, none⟩ = some (.int .i64 ((rd_T37 l0_1 (rd t669 x9_1)).f1)) ∧ w'.cell? ⟨(ad673.add (((rd t669 x9_1)).toNat * 4)).block, (ad673.add (((rd t669 x9_1)).toNat * 4)).off + 2, none⟩ = some (.int .i64 ((rd_T37 l0_1 (rd t669 x9_1)).f2)) ∧ w'.cell? ⟨(ad673.add (((rd t669 x9_1)).toNat * 4)).block, (ad673.add (((rd t669 x9_1)).toNat * 4)).off + 3, none⟩ = some (.int .i64 ((rd_T37 l0_1 (rd t669 x9_1)).f3)) ∧ w'.cell? (ad672.add (x9_1).toNat) = some (.int .i64 (rd t669 x9_1)) ∧ w'.cell? (ad673.add (((rd t669 x9_1)).toNat * 4)) = some (.int .i64 ((rd_T37 l0_1 (rd t669 x9_1)).f0)) ∧ w'.cell? ⟨(ad673.add (((rd t669 x9_1)).toNat * 4)).block, (ad673.add (((rd t669 x9_1)).toNat * 4)).off + 1, none⟩ = some (.int .i64 ((rd_T37 l0_1 (rd t669 x9_1)).f1)) ∧ w'.cell? ⟨(ad673.add (((rd t669 x9_1)).toNat * 4)).block, (ad673.add (((rd t669 x9_1)).toNat * 4)).off + 2, none⟩ = some (.int .i64 ((rd_T37 l0_1 (rd t669 x9_1)).f2)) ∧ w'.cell? ⟨(ad673.add (((rd t669 x9_1)).toNat * 4)).block, (ad673.add (((rd t669 x9_1)).toNat * 4)).off + 3, none⟩ = some (.int .i64 ((rd_T37 l0_1 (rd t669 x9_1)).f3))) (ds := []) #[false,false,false,false,false,false,false,false,false,false,false,false,false,false,false,false,false,false,false,false,false,false] (by kernel_rfl) rfl rfl ⟨(kC BK667.out 0).trans rfl, (kC BK667.out 1).trans rfl, hx672_0, ((HB.out.cell (wlt0 w _ hw673_0)).trans hw673_0), ((HB.out.cell (wlt0 w _ hw673_1)).trans hw673_1), ((HB.out.cell (wlt0 w _ hw673_2)).trans hw673_2), ((HB.out.cell (wlt0 w _ hw673_3)).trans hw673_3), hx674_0, ((HB.out.cell (wlt0 w _ hw675_0)).trans hw675_0), ((HB.out.cell (wlt0 w _ hw675_1)).trans hw675_1), ((HB.out.cell (wlt0 w _ hw675_2)).trans hw675_2), ((HB.out.cell (wlt0 w _ hw675_3)).trans hw675_3)⟩ (fun hHeld => ?_); refine with_tabW qr16Tree.tab9 qr16Tree.bits9 (fun HT_ HW_ => ?_)
         generalize wr.drew = w18 at HO_7 HO_8 BK667 HB hx672_0 hx673_0 hx673_1 hx673_2 hx673_3 hx674_0 hx675_0 hx675_1 hx675_2 hx675_3 hHeld ⊢
         refine pure_ (i := 1) (N := some 26) (v := ?_) (a' := ?_) #[false,true,false,false,false,false,false,false,false,false,false,false,false,false,false,false,false,false,false,false,false,false] rfl rfl (any_of HT_.out (by kernel_rfl)) (fun _ _ _ h => h) (Or.inl ⟨by rfl, ?_⟩) ?_ ?_
         rotate_left; (intro w'; go_simp; with_reducible rfl); rotate_left; (simp only [Act.put, List.setIfInBounds_toArray, List.set_cons_zero, List.set_cons_succ, i64_w, i32_w]; rfl)
         refine pure_ (i := 2) (N := some 27) (v := ?_) (a' := ?_) #[false,true,true,false,false,false,false,false,false,false,false,false,false,false,false,false,false,false,false,false,false,false] rfl rfl (any_of HT_.out (by kernel_rfl)) (fun _ _ _ h => h) (Or.inl ⟨by rfl, ?_⟩) ?_ ?_
         rotate_left; (intro w'; go_simp; with_reducible rfl); rotate_left; (simp only [Act.put, List.setIfInBounds_toArray, List.set_cons_zero, List.set_cons_succ, i64_w, i32_w]; rfl)
         refine pure_ (i := 4) (N := some 29) (v := ?_) (a' := ?_) #[false,true,true,false,true,false,false,false,false,false,false,false,false,false,false,false,false,false,false,false,false,false] rfl rfl (any_of HT_.out (by kernel_rfl)) (fun _ _ _ h => h) (Or.inl ⟨by rfl, ?_⟩) ?_ ?_
         rotate_left; (intro w'; go_simp; with_reducible rfl); rotate_left; (simp only [Act.put, List.setIfInBounds_toArray, List.set_cons_zero, List.set_cons_succ, i64_w, i32_w]; rfl)
         refine pure_ (i := 5) (N := some 30) (v := ?_) (a' := ?_) #[false,true,true,false,true,true,false,false,false,false,false,false,false,false,false,false,false,false,false,false,false,false] rfl rfl (any_of HT_.out (by kernel_rfl)) (fun _ _ _ h => h) (Or.inl ⟨by rfl, ?_⟩) ?_ ?_
         rotate_left; (intro w'; go_simp; with_reducible rfl); rotate_left; (simp only [Act.put, List.setIfInBounds_toArray, List.set_cons_zero, List.set_cons_succ, i64_w, i32_w]; rfl)
         refine pure_ (i := 6) (N := some 31) (v := ?_) (a' := ?_) #[false,true,true,false,true,true,true,false,false,false,false,false,false,false,false,false,false,false,false,false,false,false] rfl rfl (any_of HT_.out (by kernel_rfl)) (fun _ _ _ h => h) (Or.inl ⟨by rfl, ?_⟩) ?_ ?_
         rotate_left; (intro w'; go_simp; with_reducible rfl); rotate_left; (simp only [Act.put, List.setIfInBounds_toArray, List.set_cons_zero, List.set_cons_succ, i64_w, i32_w]; rfl)
         refine pure_ (i := 11) (N := some 36) (v := ?_) (a' := ?_) #[false,true,true,false,true,true,true,false,false,false,false,true,false,false,false,false,false,false,false,false,false,false] rfl rfl (any_of HT_.out (by kernel_rfl)) (fun _ _ _ h => h) (Or.inl ⟨by rfl, ?_⟩) ?_ ?_
         rotate_left; (intro w'; go_simp; with_reducible rfl); rotate_left; (simp only [Act.put, List.setIfInBounds_toArray, List.set_cons_zero, List.set_cons_succ, i64_w, i32_w]; rfl)
         refine pure_ (i := 13) (N := some 38) (v := ?_) (a' := ?_) #[false,true,true,false,true,true,true,false,false,false,false,true,false,true,false,false,false,false,false,false,false,false] rfl rfl (any_of HT_.out (by kernel_rfl)) (fun _ _ _ h => h) (Or.inl ⟨by rfl, ?_⟩) ?_ ?_
         rotate_left; (intro w'; go_simp; with_reducible rfl); rotate_left; (simp only [Act.put, List.setIfInBounds_toArray, List.set_cons_zero, List.set_cons_succ, i64_w, i32_w]; rfl)
         refine pure_ (i := 14) (N := some 39) (v := ?_) (a' := ?_) #[false,true,true,false,true,true,true,false,false,false,false,true,false,true,true,false,false,false,false,false,false,false] rfl rfl (any_of HT_.out (by kernel_rfl)) (fun _ _ _ h => h) (Or.inl ⟨by rfl, ?_⟩) ?_ ?_
         rotate_left; (intro w'; go_simp; with_reducible rfl); rotate_left; (simp only [Act.put, List.setIfInBounds_toArray, List.set_cons_zero, List.set_cons_succ, i64_w, i32_w]; rfl)
         refine pure_ (i := 15) (N := some 40) (v := ?_) (a' := ?_) #[false,true,true,false,true,true,true,false,false,false,false,true,false,true,true,true,false,false,false,false,false,false] rfl rfl (any_of HT_.out (by kernel_rfl)) (fun _ _ _ h => h) (Or.inl ⟨by rfl, ?_⟩) ?_ ?_
         rotate_left; (intro w'; go_simp; with_reducible rfl); rotate_left; (simp only [Act.put, List.setIfInBounds_toArray, List.set_cons_zero, List.set_cons_succ, i64_w, i32_w]; rfl)
         refine take_ (i := 0) (N := some 25) (v := ?_) (a' := ?_) #[true,true,true,false,true,true,true,false,false,false,false,true,false,true,true,true,false,false,false,false,false,false] rfl rfl (take_ofW HT_.out HW_.out (by kernel_rfl)) (fun _ _ _ h => h) (Or.inl ⟨by rfl, ?_⟩) hHeld ?_ ?_
         rotate_left; (rintro w' ⟨s0, s1, s2, s3, s4, s5, s6, s7, s8, s9, s10, s11⟩; go_simp; with_reducible rfl); rotate_left; (simp only [Act.put, List.setIfInBounds_toArray, List.set_cons_zero, List.set_cons_succ, i64_w, i32_w]; rfl)
         refine take_ (i := 3) (N := some 28) (v := ?_) (a' := ?_) #[true,true,true,true,true,true,true,false,false,false,false,true,false,true,true,true,false,false,false,false,false,false] rfl rfl (take_ofW HT_.out HW_.out (by kernel_rfl)) (fun _ _ _ h => h) (Or.inl ⟨by rfl, ?_⟩) hHeld ?_ ?_
         rotate_left; (rintro w' ⟨s0, s1, s2, s3, s4, s5, s6, s7, s8, s9, s10, s11⟩; go_simp; with_reducible rfl); rotate_left; (simp only [Act.put, List.setIfInBounds_toArray, List.set_cons_zero, List.set_cons_succ, i64_w, i32_w]; rfl)
         refine take_ (i := 7) (N := some 32) (v := ?_) (a' := ?_) #[true,true,true,true,true,true,true,true,false,false,false,true,false,true,true,true,false,false,false,false,false,false] rfl rfl (take_ofW HT_.out HW_.out (by kernel_rfl)) (fun _ _ _ h => h) (Or.inl ⟨by rfl, ?_⟩) hHeld ?_ ?_
         rotate_left; (rintro w' ⟨s0, s1, s2, s3, s4, s5, s6, s7, s8, s9, s10, s11⟩; go_simp; with_reducible rfl); rotate_left; (simp only [Act.put, List.setIfInBounds_toArray, List.set_cons_zero, List.set_cons_succ, i64_w, i32_w]; rfl)
         refine pure_ (i := 8) (N := some 33) (v := ?_) (a' := ?_) #[true,true,true,true,true,true,true,true,true,false,false,true,false,true,true,true,false,false,false,false,false,false] rfl rfl (any_of HT_.out (by kernel_rfl)) (fun _ _ _ h => h) (Or.inl ⟨by rfl, ?_⟩) ?_ ?_
         rotate_left; (intro w'; go_simp; with_reducible rfl); rotate_left; (simp only [Act.put, List.setIfInBounds_toArray, List.set_cons_zero, List.set_cons_succ, i64_w, i32_w]; rfl)
         refine pure_ (i := 9) (N := some 34) (v := ?_) (a' := ?_) #[true,true,true,true,true,true,true,true,true,true,false,true,false,true,true,true,false,false,false,false,false,false] rfl rfl (any_of HT_.out (by kernel_rfl)) (fun _ _ _ h => h) (Or.inl ⟨by rfl, ?_⟩) ?_ ?_
         rotate_left; (intro w'; go_simp; with_reducible rfl); rotate_left; (simp only [Act.put, List.setIfInBounds_toArray, List.set_cons_zero, List.set_cons_succ, i64_w, i32_w]; rfl)
         refine take_ (i := 10) (N := some 35) (v := ?_) (a' := ?_) #[true,true,true,true,true,true,true,true,true,true,true,true,false,true,true,true,false,false,false,false,false,false] rfl rfl (take_ofW HT_.out HW_.out (by kernel_rfl)) (fun _ _ _ h => h) (Or.inl ⟨by rfl, ?_⟩) hHeld ?_ ?_
         rotate_left; (rintro w' ⟨s0, s1, s2, s3, s4, s5, s6, s7, s8, s9, s10, s11⟩; go_simp; with_reducible rfl); rotate_left; (simp only [Act.put, List.setIfInBounds_toArray, List.set_cons_zero, List.set_cons_succ, i64_w, i32_w]; rfl)
         refine take_ (i := 12) (N := some 37) (v := ?_) (a' := ?_) #[true,true,true,true,true,true,true,true,true,true,true,true,true,true,true,true,false,false,false,false,false,false] rfl rfl (take_ofW HT_.out HW_.out (by kernel_rfl)) (fun _ _ _ h => h) (Or.inl ⟨by rfl, ?_⟩) hHeld ?_ ?_
         rotate_left; (rintro w' ⟨s0, s1, s2, s3, s4, s5, s6, s7, s8, s9, s10, s11⟩; go_simp; with_reducible rfl); rotate_left; (simp only [Act.put, List.setIfInBounds_toArray, List.set_cons_zero, List.set_cons_succ, i64_w, i32_w]; rfl)
         refine take_ (i := 16) (N := some 41) (v := ?_) (a' := ?_) #[true,true,true,true,true,true,true,true,true,true,true,true,true,true,true,true,true,false,false,false,false,false] rfl rfl (take_ofW HT_.out HW_.out (by kernel_rfl)) (fun _ _ _ h => h) (Or.inl ⟨by rfl, ?_⟩) hHeld ?_ ?_
         rotate_left; (rintro w' ⟨s0, s1, s2, s3, s4, s5, s6, s7, s8, s9, s10, s11⟩; go_simp; with_reducible rfl); rotate_left; (simp only [Act.put, List.setIfInBounds_toArray, List.set_cons_zero, List.set_cons_succ, i64_w, i32_w]; rfl)
         refine pure_ (i := 17) (N := some 42) (v := ?_) (a' := ?_) #[true,true,true,true,true,true,true,true,true,true,true,true,true,true,true,true,true,true,false,false,false,false] rfl rfl (any_of HT_.out (by kernel_rfl)) (fun _ _ _ h => h) (Or.inl ⟨by rfl, ?_⟩) ?_ ?_
         rotate_left; (intro w'; go_simp; with_reducible rfl); rotate_left; (simp only [Act.put, List.setIfInBounds_toArray, List.set_cons_zero, List.set_cons_succ, i64_w, i32_w]; rfl)
         refine pure_ (i := 18) (N := some 43) (v := ?_) (a' := ?_) #[true,true,true,true,true,true,true,true,true,true,true,true,true,true,true,true,true,true,true,false,false,false] rfl rfl (any_of HT_.out (by kernel_rfl)) (fun _ _ _ h => h) (Or.inl ⟨by rfl, ?_⟩) ?_ ?_
         rotate_left; (intro w'; go_simp; with_reducible rfl); rotate_left; (simp only [Act.put, List.setIfInBounds_toArray, List.set_cons_zero, List.set_cons_succ, i64_w, i32_w]; rfl)
         refine take_ (i := 19) (N := some 44) (v := ?_) (a' := ?_) #[true,true,true,true,true,true,true,true,true,true,true,true,true,true,true,true,true,true,true,true,false,false] rfl rfl (take_ofW HT_.out HW_.out (by kernel_rfl)) (fun _ _ _ h => h) (Or.inl ⟨by rfl, ?_⟩) hHeld ?_ ?_
         rotate_left; (rintro w' ⟨s0, s1, s2, s3, s4, s5, s6, s7, s8, s9, s10, s11⟩; go_simp; with_reducible rfl); rotate_left; (simp only [Act.put, List.setIfInBounds_toArray, List.set_cons_zero, List.set_cons_succ, i64_w, i32_w]; rfl)
         refine one_ (i := 20) (N := some 45) #[true,true,true,true,true,true,true,true,true,true,true,true,true,true,true,true,true,true,true,true,true,false] rfl rfl (one_of HT_.out (by kernel_rfl)) (by decide) (fun K hK => ?_)
         refine goes_ Try.func95 (by kernel_rfl) rfl #[.agg #[.int .i64 a0_0, .slice (some ad673) l0_1.length c0_1], .slice Ao19 x7_1.length co19, .int .i64 ((rd_T37 l0_1 (rd t669 x9_1)).f0), .int .i64 ((rd_T37 l0_1 (rd t669 x9_1)).f1)] (by rfl) rfl rfl (by (try simp only [List.map_toArray, List.map_cons, List.map_nil]); first | done | rfl | (simp only [List.length_drop, List.length_take]; rfl)) ?_
         with_reducible refine (qr16joined.calls k1 a0_0 _ _ l0_1 _ _ x7_1 ((rd_T37 l0_1 (rd t669 x9_1)).f0) ((rd_T37 l0_1 (rd t669 x9_1)).f1) true _ ?side1 ?side2 ?side3 ?side4 A15.out).mono ?_
         (case side1 => repeat (first | exact (Kd.C_below HR0_1.out HB.out) | (with_reducible refine Kd.C_alloc ?_ _) | (with_reducible refine Kd.C_drewN ?_ _) | (with_reducible refine Kd.C_drew ?_)))
         (case side2 => exact HC0_1.out)
         (case side3 => repeat (first | exact (Kd.R_reads' HO_7.out).2.2 | (with_reducible refine Kd.C_alloc ?_ _) | (with_reducible refine Kd.C_drewN ?_ _) | (with_reducible refine Kd.C_drew ?_)))
         (case side4 => exact (Kd.R_reads' HO_7.out).2.1)
         rintro e w20 ⟨rfl, hb⟩
         have HS2_ := (hb.cell (wlt0 _ _ (hHeld.2.2.1))).trans (hHeld.2.2.1)
         have HS7_ := (hb.cell (wlt0 _ _ (hHeld.2.2.2.2.2.2.2.1))).trans (hHeld.2.2.2.2.2.2.2.1)
         refine ⟨_, rfl, ?_⟩
         have n0_ := Z0.mk (Kd.R_below (by (with_reducible repeat (first | apply Kd.R_alloc | apply Kd.R_drewN | apply Kd.R_drew)); exact HO_7.out) hb)
         have n1_ := Z0.mk (Kd.R_below (by (with_reducible repeat (first | apply Kd.R_alloc | apply Kd.R_drewN | apply Kd.R_drew)); exact HO_8.out) hb)
         have n2_ := Z0.mk (kB (g := gb667) (o := .cells #[.int .i64 a0_0, .slice (some ad673) l0_1.length c0_1] 24 (0, 0)) (by (with_reducible repeat (first | refine kN ?_ _ | refine kD ?_ | refine kA ?_ _)); exact BK667.out) hb)
         have n3_ := Z0.mk (bT (by repeat (first | (with_reducible first | exact HB.out | apply below_alloc | apply bN | apply bD | refine bS ?_ GE667.out) | exact HB.out)) hb)
         clear HO_7; clear HO_8; clear BK667; clear HB
         have HO_7 := n0_
         have HO_8 := n1_
         have BK667 := n2_
         have HB := n3_
         clear n0_ n1_ n2_ n3_
         (try clear hb)
         (try clear hb2)
         (try clear hk)
         (try clear hi)
         refine hK.out _ _ ⟨(kC BK667.out 0).trans rfl, (kC BK667.out 1).trans rfl, HS2_, ((HB.out.cell (wlt0 w _ hw673_0)).trans hw673_0), ((HB.out.cell (wlt0 w _ hw673_1)).trans hw673_1), ((HB.out.cell (wlt0 w _ hw673_2)).trans hw673_2), ((HB.out.cell (wlt0 w _ hw673_3)).trans hw673_3), HS7_, ((HB.out.cell (wlt0 w _ hw675_0)).trans hw675_0), ((HB.out.cell (wlt0 w _ hw675_1)).trans hw675_1), ((HB.out.cell (wlt0 w _ hw675_2)).trans hw675_2), ((HB.out.cell (wlt0 w _ hw675_3)).trans hw675_3)⟩ (fun hHeld => ?_)
         clear hK K
         refine norm_ (a' := ?_) ?_ ?_
         rotate_left
         ·show Act.put _ (some 45) _ = _
          simp only [Act.put, List.setIfInBounds_toArray, List.set_cons_zero, List.set_cons_succ, i64_w, i32_w]
          rfl
         refine pure_ (i := 21) (N := some 46) (v := ?_) (a' := ?_) #[true,true,true,true,true,true,true,true,true,true,true,true,true,true,true,true,true,true,true,true,true,true] rfl rfl (any_of HT_.out (by kernel_rfl)) (fun _ _ _ h => h) (Or.inl ⟨by rfl, ?_⟩) ?_ ?_
         rotate_left; (intro w'; go_simp; with_reducible rfl); rotate_left; (simp only [Act.put, List.setIfInBounds_toArray, List.set_cons_zero, List.set_cons_succ, i64_w, i32_w]; rfl)
         refine done_ (done_of HT_.out (by kernel_rfl)) ?_
         try go_wp2
         go_roundg k1
         case measure => have := HK1.out; omega
         case rel => exact ⟨(x7_1), (wrap64 (x9_1 + 1)), (by first | rfl | (simp; done) | (simp [*]; done)), H', ⟨by have := HK1.out; omega⟩, ⟨by (with_reducible repeat (first | apply Kd.R_alloc | apply Kd.R_drewN | apply Kd.R_drew)); exact HO_7.out⟩, ⟨by (with_reducible repeat (first | apply Kd.R_alloc | apply Kd.R_drewN | apply Kd.R_drew)); exact HO_8.out⟩, ⟨by (with_reducible repeat (first | refine kN ?_ _ | refine kD ?_ | refine kA ?_ _)); exact BK667.out⟩, ⟨by repeat (first | (with_reducible first | exact HB.out | apply below_alloc | apply bN | apply bD | refine bS ?_ GE667.out) | exact HB.out)⟩⟩
        ·replace c16 := Bool.eq_false_iff.mpr c16
         subst c16
         have H1 : (if x7_1.length < 17592186044416 then (qr16Tree.l0 k1 (x7_1 ++ [rd t669 x9_1]) t669 (wrap64 (x9_1 + 1)) a0_0 l0_1) else (none)) = some (r1, r2) := by rw [if_neg (show ¬ (false = true) by decide)] at H; exact H
         clear H
         have H := H1
         clear H1
         by_cases c21 : x7_1.length < 17592186044416
         ·rw [if_pos c21] at H
          have LMc21 := Z0.mk c21
          clear c21
          obtain ⟨y678, hy678⟩ : ∃ y_ : List Int, y_ = (x7_1 ++ [rd t669 x9_1]) := ⟨_, rfl⟩
          replace H : (qr16Tree.l0 k1 y678 t669 (wrap64 (x9_1 + 1)) a0_0 l0_1) = some (r1, r2) := by first | (rw [hy678]; with_reducible exact H) | (have H2_ := (Option.bind_some _ _).symm.trans H; rw [hy678]; with_reducible exact H2_) | (have H2_ := (Option.bind_some _ _).symm.trans H; with_reducible exact H2_) | with_reducible exact H | (rw [hy678]; exact H) | exact H
          have Ny678 := Z0.mk hy678
          clear hy678
          have H' := Z0.mk H
          clear H
          obtain ⟨Ao22, co22, eo22⟩ := Kd.R_slice HO_8.out
          subst eo22
          try go_wp2
          have n0_ := Z0.mk (Kd.R_drew HO_7.out)
          have n1_ := Z0.mk (Kd.R_drew HO_8.out)
          have n2_ := Z0.mk (kD BK667.out)
          have n3_ := Z0.mk (bD HB.out)
          clear HO_7; clear HO_8; clear BK667; clear HB
          have HO_7 := n0_
          have HO_8 := n1_
          have BK667 := n2_
          have HB := n3_
          clear n0_ n1_ n2_ n3_
          have p672 : 0 ≤ (x9_1 : Int) := of_decide_eq_true (by first | (with_reducible assumption) | assumption)
          have q672 : x9_1 < (t669.length : Int) := of_decide_eq_true (by first | (with_reducible assumption) | assumption)
          obtain ⟨ad672, e672, hx672_0⟩ := Kd.at_int (Kd.R_reads' HO_8.out).2.2 x9_1 p672 q672
          cases e672
          replace p672 := eq_true p672
          replace q672 := eq_true q672
          have p673 : 0 ≤ ((rd t669 x9_1) : Int) := of_decide_eq_true (by first | (with_reducible assumption) | assumption)
          have q673 : (rd t669 x9_1) < (l0_1.length : Int) := of_decide_eq_true (by first | (with_reducible assumption) | assumption)
          obtain ⟨ad673, e673, hx673_0, hx673_1, hx673_2, hx673_3⟩ := at_T37 HR0_1.out (rd t669 x9_1) p673 q673
          have hw673_3 := hx673_3
          have hw673_2 := hx673_2
          have hw673_1 := hx673_1
          have hw673_0 := hx673_0
          cases e673
          replace hx673_0 := (HB.out.cell (wlt0 w _ hx673_0)).trans hx673_0
          replace hx673_1 := (HB.out.cell (wlt0 w _ hx673_1)).trans hx673_1
          replace hx673_2 := (HB.out.cell (wlt0 w _ hx673_2)).trans hx673_2
          replace hx673_3 := (HB.out.cell (wlt0 w _ hx673_3)).trans hx673_3
          replace p673 := eq_true p673
          replace q673 := eq_true q673
          have p674 : 0 ≤ (x9_1 : Int) := of_decide_eq_true (by first | (with_reducible assumption) | assumption)
          have q674 : x9_1 < (t669.length : Int) := of_decide_eq_true (by first | (with_reducible assumption) | assumption)
          obtain ⟨ad674, e674, hx674_0⟩ := Kd.at_int (Kd.R_reads' HO_8.out).2.2 x9_1 p674 q674
          obtain rfl : ad672 = ad674 := (by injection e674)
          replace p674 := eq_true p674
          replace q674 := eq_true q674
          have p675 : 0 ≤ ((rd t669 x9_1) : Int) := of_decide_eq_true (by first | (with_reducible assumption) | assumption)
          have q675 : (rd t669 x9_1) < (l0_1.length : Int) := of_decide_eq_true (by first | (with_reducible assumption) | assumption)
          obtain ⟨ad675, e675, hx675_0, hx675_1, hx675_2, hx675_3⟩ := at_T37 HR0_1.out (rd t669 x9_1) p675 q675
          have hw675_3 := hx675_3
          have hw675_2 := hx675_2
          have hw675_1 := hx675_1
          have hw675_0 := hx675_0
          obtain rfl : ad673 = ad675 := (by injection e675)
          replace hx675_0 := (HB.out.cell (wlt0 w _ hx675_0)).trans hx675_0
          replace hx675_1 := (HB.out.cell (wlt0 w _ hx675_1)).trans hx675_1
          replace hx675_2 := (HB.out.cell (wlt0 w _ hx675_2)).trans hx675_2
          replace hx675_3 := (HB.out.cell (wlt0 w _ hx675_3)).trans hx675_3
          replace p675 := eq_true p675
          replace q675 := eq_true q675
          obtain ⟨Ao24, co24, eo24⟩ := Kd.R_slice HO_7.out
          (first | subst eo24 | (injection eo24 with f1_ f2_ f3_; have f4_ := f1_.symm; have f5_ := f3_.symm; clear f1_ f2_ f3_; subst f4_; subst f5_))
          refine start_ (n := 22) (S := fun w' => w'.cell? ⟨gb667, 0, none⟩ = some (.int .i64 a0_0) ∧ w'.cell? ⟨gb667, 1, none⟩ = some (.slice (some ad673) l0_1.length c0_1) ∧ w'.cell? (ad672.add (x9_1).toNat) = some (.int .i64 (rd t669 x9_1)) ∧ w'.cell? (ad673.add (((rd t669 x9_1)).toNat * 4)) = some (.int .i64 ((rd_T37 l0_1 (rd t669 x9_1)).f0)) ∧ w'.cell? ⟨(ad673.add (((rd t669 x9_1)).toNat * 4)).block, (ad673.add (((rd t669 x9_1)).toNat * 4)).off + 1, none⟩ = some (.int .i64 ((rd_T37 l0_1 (rd t669 x9_1)).f1)) ∧ w'.cell? ⟨(ad673.add (((rd t669 x9_1)).toNat * 4)).block, (ad673.add (((rd t669 x9_1)).toNat * 4)).off + 2, none⟩ = some (.int .i64 ((rd_T37 l0_1 (rd t669 x9_1)).f2)) ∧ w'.cell? ⟨(ad673.add (((rd t669 x9_1)).toNat * 4)).block, (ad673.add (((rd t669 x9_1)).toNat * 4)).off + 3, none⟩ = some (.int .i64 ((rd_T37 l0_1 (rd t669 x9_1)).f3)) ∧ w'.cell? (ad672.add (x9_1).toNat) = some (.int .i64 (rd t669 x9_1)) ∧ w'.cell? (ad673.add (((rd t669 x9_1)).toNat * 4)) = some (.int .i64 ((rd_T37 l0_1 (rd t669 x9_1)).f0)) ∧ w'.cell? ⟨(ad673.add (((rd t669 x9_1)).toNat * 4)).block, (ad673.add (((rd t669 x9_1)).toNat * 4)).off + 1, none⟩ = some (.int .i64 ((rd_T37 l0_1 (rd t669 x9_1)).f1)) ∧ w'.cell? ⟨(ad673.add (((rd t669 x9_1)).toNat * 4)).block, (ad673.add (((rd t669 x9_1)).toNat * 4)).off + 2, none⟩ = some (.int .i64 ((rd_T37 l0_1 (rd t669 x9_1)).f2)) ∧ w'.cell? ⟨(ad673.add (((rd t669 x9_1)).toNat * 4)).block, (ad673.add (((rd t669 x9_1)).toNat * 4)).off + 3, none⟩ = some (.int .i64 ((rd_T37 l0_1 (rd t669 x9_1)).f3))) (ds := []) #[false,false,false,false,false,false,false,false,false,false,false,false,false,false,false,false,false,false,false,false,false,false] (by kernel_rfl) rfl rfl ⟨(kC BK667.out 0).trans rfl, (kC BK667.out 1).trans rfl, hx672_0, ((HB.out.cell (wlt0 w _ hw673_0)).trans hw673_0), ((HB.out.cell (wlt0 w _ hw673_1)).trans hw673_1), ((HB.out.cell (wlt0 w _ hw673_2)).trans hw673_2), ((HB.out.cell (wlt0 w _ hw673_3)).trans hw673_3), hx674_0, ((HB.out.cell (wlt0 w _ hw675_0)).trans hw675_0), ((HB.out.cell (wlt0 w _ hw675_1)).trans hw675_1), ((HB.out.cell (wlt0 w _ hw675_2)).trans hw675_2), ((HB.out.cell (wlt0 w _ hw675_3)).trans hw675_3)⟩ (fun hHeld => ?_); refine with_tabW qr16Tree.tab9 qr16Tree.bits9 (fun HT_ HW_ => ?_)
          generalize wr.drew = w23 at HO_7 HO_8 BK667 HB hx672_0 hx673_0 hx673_1 hx673_2 hx673_3 hx674_0 hx675_0 hx675_1 hx675_2 hx675_3 hHeld ⊢
          refine pure_ (i := 1) (N := some 26) (v := ?_) (a' := ?_) #[false,true,false,false,false,false,false,false,false,false,false,false,false,false,false,false,false,false,false,false,false,false] rfl rfl (any_of HT_.out (by kernel_rfl)) (fun _ _ _ h => h) (Or.inl ⟨by rfl, ?_⟩) ?_ ?_
          rotate_left; (intro w'; go_simp; with_reducible rfl); rotate_left; (simp only [Act.put, List.setIfInBounds_toArray, List.set_cons_zero, List.set_cons_succ, i64_w, i32_w]; rfl)
          refine pure_ (i := 2) (N := some 27) (v := ?_) (a' := ?_) #[false,true,true,false,false,false,false,false,false,false,false,false,false,false,false,false,false,false,false,false,false,false] rfl rfl (any_of HT_.out (by kernel_rfl)) (fun _ _ _ h => h) (Or.inl ⟨by rfl, ?_⟩) ?_ ?_
          rotate_left; (intro w'; go_simp; with_reducible rfl); rotate_left; (simp only [Act.put, List.setIfInBounds_toArray, List.set_cons_zero, List.set_cons_succ, i64_w, i32_w]; rfl)
          refine pure_ (i := 4) (N := some 29) (v := ?_) (a' := ?_) #[false,true,true,false,true,false,false,false,false,false,false,false,false,false,false,false,false,false,false,false,false,false] rfl rfl (any_of HT_.out (by kernel_rfl)) (fun _ _ _ h => h) (Or.inl ⟨by rfl, ?_⟩) ?_ ?_
          rotate_left; (intro w'; go_simp; with_reducible rfl); rotate_left; (simp only [Act.put, List.setIfInBounds_toArray, List.set_cons_zero, List.set_cons_succ, i64_w, i32_w]; rfl)
          refine pure_ (i := 5) (N := some 30) (v := ?_) (a' := ?_) #[false,true,true,false,true,true,false,false,false,false,false,false,false,false,false,false,false,false,false,false,false,false] rfl rfl (any_of HT_.out (by kernel_rfl)) (fun _ _ _ h => h) (Or.inl ⟨by rfl, ?_⟩) ?_ ?_
          rotate_left; (intro w'; go_simp; with_reducible rfl); rotate_left; (simp only [Act.put, List.setIfInBounds_toArray, List.set_cons_zero, List.set_cons_succ, i64_w, i32_w]; rfl)
          refine pure_ (i := 6) (N := some 31) (v := ?_) (a' := ?_) #[false,true,true,false,true,true,true,false,false,false,false,false,false,false,false,false,false,false,false,false,false,false] rfl rfl (any_of HT_.out (by kernel_rfl)) (fun _ _ _ h => h) (Or.inl ⟨by rfl, ?_⟩) ?_ ?_
          rotate_left; (intro w'; go_simp; with_reducible rfl); rotate_left; (simp only [Act.put, List.setIfInBounds_toArray, List.set_cons_zero, List.set_cons_succ, i64_w, i32_w]; rfl)
          refine pure_ (i := 11) (N := some 36) (v := ?_) (a' := ?_) #[false,true,true,false,true,true,true,false,false,false,false,true,false,false,false,false,false,false,false,false,false,false] rfl rfl (any_of HT_.out (by kernel_rfl)) (fun _ _ _ h => h) (Or.inl ⟨by rfl, ?_⟩) ?_ ?_
          rotate_left; (intro w'; go_simp; with_reducible rfl); rotate_left; (simp only [Act.put, List.setIfInBounds_toArray, List.set_cons_zero, List.set_cons_succ, i64_w, i32_w]; rfl)
          refine pure_ (i := 13) (N := some 38) (v := ?_) (a' := ?_) #[false,true,true,false,true,true,true,false,false,false,false,true,false,true,false,false,false,false,false,false,false,false] rfl rfl (any_of HT_.out (by kernel_rfl)) (fun _ _ _ h => h) (Or.inl ⟨by rfl, ?_⟩) ?_ ?_
          rotate_left; (intro w'; go_simp; with_reducible rfl); rotate_left; (simp only [Act.put, List.setIfInBounds_toArray, List.set_cons_zero, List.set_cons_succ, i64_w, i32_w]; rfl)
          refine pure_ (i := 14) (N := some 39) (v := ?_) (a' := ?_) #[false,true,true,false,true,true,true,false,false,false,false,true,false,true,true,false,false,false,false,false,false,false] rfl rfl (any_of HT_.out (by kernel_rfl)) (fun _ _ _ h => h) (Or.inl ⟨by rfl, ?_⟩) ?_ ?_
          rotate_left; (intro w'; go_simp; with_reducible rfl); rotate_left; (simp only [Act.put, List.setIfInBounds_toArray, List.set_cons_zero, List.set_cons_succ, i64_w, i32_w]; rfl)
          refine pure_ (i := 15) (N := some 40) (v := ?_) (a' := ?_) #[false,true,true,false,true,true,true,false,false,false,false,true,false,true,true,true,false,false,false,false,false,false] rfl rfl (any_of HT_.out (by kernel_rfl)) (fun _ _ _ h => h) (Or.inl ⟨by rfl, ?_⟩) ?_ ?_
          rotate_left; (intro w'; go_simp; with_reducible rfl); rotate_left; (simp only [Act.put, List.setIfInBounds_toArray, List.set_cons_zero, List.set_cons_succ, i64_w, i32_w]; rfl)
          refine take_ (i := 0) (N := some 25) (v := ?_) (a' := ?_) #[true,true,true,false,true,true,true,false,false,false,false,true,false,true,true,true,false,false,false,false,false,false] rfl rfl (take_ofW HT_.out HW_.out (by kernel_rfl)) (fun _ _ _ h => h) (Or.inl ⟨by rfl, ?_⟩) hHeld ?_ ?_
          rotate_left; (rintro w' ⟨s0, s1, s2, s3, s4, s5, s6, s7, s8, s9, s10, s11⟩; go_simp; with_reducible rfl); rotate_left; (simp only [Act.put, List.setIfInBounds_toArray, List.set_cons_zero, List.set_cons_succ, i64_w, i32_w]; rfl)
          refine take_ (i := 3) (N := some 28) (v := ?_) (a' := ?_) #[true,true,true,true,true,true,true,false,false,false,false,true,false,true,true,true,false,false,false,false,false,false] rfl rfl (take_ofW HT_.out HW_.out (by kernel_rfl)) (fun _ _ _ h => h) (Or.inl ⟨by rfl, ?_⟩) hHeld ?_ ?_
          rotate_left; (rintro w' ⟨s0, s1, s2, s3, s4, s5, s6, s7, s8, s9, s10, s11⟩; go_simp; with_reducible rfl); rotate_left; (simp only [Act.put, List.setIfInBounds_toArray, List.set_cons_zero, List.set_cons_succ, i64_w, i32_w]; rfl)
          refine take_ (i := 7) (N := some 32) (v := ?_) (a' := ?_) #[true,true,true,true,true,true,true,true,false,false,false,true,false,true,true,true,false,false,false,false,false,false] rfl rfl (take_ofW HT_.out HW_.out (by kernel_rfl)) (fun _ _ _ h => h) (Or.inl ⟨by rfl, ?_⟩) hHeld ?_ ?_
          rotate_left; (rintro w' ⟨s0, s1, s2, s3, s4, s5, s6, s7, s8, s9, s10, s11⟩; go_simp; with_reducible rfl); rotate_left; (simp only [Act.put, List.setIfInBounds_toArray, List.set_cons_zero, List.set_cons_succ, i64_w, i32_w]; rfl)
          refine pure_ (i := 8) (N := some 33) (v := ?_) (a' := ?_) #[true,true,true,true,true,true,true,true,true,false,false,true,false,true,true,true,false,false,false,false,false,false] rfl rfl (any_of HT_.out (by kernel_rfl)) (fun _ _ _ h => h) (Or.inl ⟨by rfl, ?_⟩) ?_ ?_
          rotate_left; (intro w'; go_simp; with_reducible rfl); rotate_left; (simp only [Act.put, List.setIfInBounds_toArray, List.set_cons_zero, List.set_cons_succ, i64_w, i32_w]; rfl)
          refine pure_ (i := 9) (N := some 34) (v := ?_) (a' := ?_) #[true,true,true,true,true,true,true,true,true,true,false,true,false,true,true,true,false,false,false,false,false,false] rfl rfl (any_of HT_.out (by kernel_rfl)) (fun _ _ _ h => h) (Or.inl ⟨by rfl, ?_⟩) ?_ ?_
          rotate_left; (intro w'; go_simp; with_reducible rfl); rotate_left; (simp only [Act.put, List.setIfInBounds_toArray, List.set_cons_zero, List.set_cons_succ, i64_w, i32_w]; rfl)
          refine take_ (i := 10) (N := some 35) (v := ?_) (a' := ?_) #[true,true,true,true,true,true,true,true,true,true,true,true,false,true,true,true,false,false,false,false,false,false] rfl rfl (take_ofW HT_.out HW_.out (by kernel_rfl)) (fun _ _ _ h => h) (Or.inl ⟨by rfl, ?_⟩) hHeld ?_ ?_
          rotate_left; (rintro w' ⟨s0, s1, s2, s3, s4, s5, s6, s7, s8, s9, s10, s11⟩; go_simp; with_reducible rfl); rotate_left; (simp only [Act.put, List.setIfInBounds_toArray, List.set_cons_zero, List.set_cons_succ, i64_w, i32_w]; rfl)
          refine take_ (i := 12) (N := some 37) (v := ?_) (a' := ?_) #[true,true,true,true,true,true,true,true,true,true,true,true,true,true,true,true,false,false,false,false,false,false] rfl rfl (take_ofW HT_.out HW_.out (by kernel_rfl)) (fun _ _ _ h => h) (Or.inl ⟨by rfl, ?_⟩) hHeld ?_ ?_
          rotate_left; (rintro w' ⟨s0, s1, s2, s3, s4, s5, s6, s7, s8, s9, s10, s11⟩; go_simp; with_reducible rfl); rotate_left; (simp only [Act.put, List.setIfInBounds_toArray, List.set_cons_zero, List.set_cons_succ, i64_w, i32_w]; rfl)
          refine take_ (i := 16) (N := some 41) (v := ?_) (a' := ?_) #[true,true,true,true,true,true,true,true,true,true,true,true,true,true,true,true,true,false,false,false,false,false] rfl rfl (take_ofW HT_.out HW_.out (by kernel_rfl)) (fun _ _ _ h => h) (Or.inl ⟨by rfl, ?_⟩) hHeld ?_ ?_
          rotate_left; (rintro w' ⟨s0, s1, s2, s3, s4, s5, s6, s7, s8, s9, s10, s11⟩; go_simp; with_reducible rfl); rotate_left; (simp only [Act.put, List.setIfInBounds_toArray, List.set_cons_zero, List.set_cons_succ, i64_w, i32_w]; rfl)
          refine pure_ (i := 17) (N := some 42) (v := ?_) (a' := ?_) #[true,true,true,true,true,true,true,true,true,true,true,true,true,true,true,true,true,true,false,false,false,false] rfl rfl (any_of HT_.out (by kernel_rfl)) (fun _ _ _ h => h) (Or.inl ⟨by rfl, ?_⟩) ?_ ?_
          rotate_left; (intro w'; go_simp; with_reducible rfl); rotate_left; (simp only [Act.put, List.setIfInBounds_toArray, List.set_cons_zero, List.set_cons_succ, i64_w, i32_w]; rfl)
          refine pure_ (i := 18) (N := some 43) (v := ?_) (a' := ?_) #[true,true,true,true,true,true,true,true,true,true,true,true,true,true,true,true,true,true,true,false,false,false] rfl rfl (any_of HT_.out (by kernel_rfl)) (fun _ _ _ h => h) (Or.inl ⟨by rfl, ?_⟩) ?_ ?_
          rotate_left; (intro w'; go_simp; with_reducible rfl); rotate_left; (simp only [Act.put, List.setIfInBounds_toArray, List.set_cons_zero, List.set_cons_succ, i64_w, i32_w]; rfl)
          refine take_ (i := 19) (N := some 44) (v := ?_) (a' := ?_) #[true,true,true,true,true,true,true,true,true,true,true,true,true,true,true,true,true,true,true,true,false,false] rfl rfl (take_ofW HT_.out HW_.out (by kernel_rfl)) (fun _ _ _ h => h) (Or.inl ⟨by rfl, ?_⟩) hHeld ?_ ?_
          rotate_left; (rintro w' ⟨s0, s1, s2, s3, s4, s5, s6, s7, s8, s9, s10, s11⟩; go_simp; with_reducible rfl); rotate_left; (simp only [Act.put, List.setIfInBounds_toArray, List.set_cons_zero, List.set_cons_succ, i64_w, i32_w]; rfl)
          refine one_ (i := 20) (N := some 45) #[true,true,true,true,true,true,true,true,true,true,true,true,true,true,true,true,true,true,true,true,true,false] rfl rfl (one_of HT_.out (by kernel_rfl)) (by decide) (fun K hK => ?_)
          refine goes_ Try.func95 (by kernel_rfl) rfl #[.agg #[.int .i64 a0_0, .slice (some ad673) l0_1.length c0_1], .slice Ao24 x7_1.length co24, .int .i64 ((rd_T37 l0_1 (rd t669 x9_1)).f0), .int .i64 ((rd_T37 l0_1 (rd t669 x9_1)).f1)] (by rfl) rfl rfl (by (try simp only [List.map_toArray, List.map_cons, List.map_nil]); first | done | rfl | (simp only [List.length_drop, List.length_take]; rfl)) ?_
          with_reducible refine (qr16joined.calls k1 a0_0 _ _ l0_1 _ _ x7_1 ((rd_T37 l0_1 (rd t669 x9_1)).f0) ((rd_T37 l0_1 (rd t669 x9_1)).f1) false _ ?side1 ?side2 ?side3 ?side4 A15.out).mono ?_
          (case side1 => repeat (first | exact (Kd.C_below HR0_1.out HB.out) | (with_reducible refine Kd.C_alloc ?_ _) | (with_reducible refine Kd.C_drewN ?_ _) | (with_reducible refine Kd.C_drew ?_)))
          (case side2 => exact HC0_1.out)
          (case side3 => repeat (first | exact (Kd.R_reads' HO_7.out).2.2 | (with_reducible refine Kd.C_alloc ?_ _) | (with_reducible refine Kd.C_drewN ?_ _) | (with_reducible refine Kd.C_drew ?_)))
          (case side4 => exact (Kd.R_reads' HO_7.out).2.1)
          rintro e w25 ⟨rfl, hb⟩
          have HS2_ := (hb.cell (wlt0 _ _ (hHeld.2.2.1))).trans (hHeld.2.2.1)
          have HS7_ := (hb.cell (wlt0 _ _ (hHeld.2.2.2.2.2.2.2.1))).trans (hHeld.2.2.2.2.2.2.2.1)
          refine ⟨_, rfl, ?_⟩
          have n0_ := Z0.mk (Kd.R_below (by (with_reducible repeat (first | apply Kd.R_alloc | apply Kd.R_drewN | apply Kd.R_drew)); exact HO_7.out) hb)
          have n1_ := Z0.mk (Kd.R_below (by (with_reducible repeat (first | apply Kd.R_alloc | apply Kd.R_drewN | apply Kd.R_drew)); exact HO_8.out) hb)
          have n2_ := Z0.mk (kB (g := gb667) (o := .cells #[.int .i64 a0_0, .slice (some ad673) l0_1.length c0_1] 24 (0, 0)) (by (with_reducible repeat (first | refine kN ?_ _ | refine kD ?_ | refine kA ?_ _)); exact BK667.out) hb)
          have n3_ := Z0.mk (bT (by repeat (first | (with_reducible first | exact HB.out | apply below_alloc | apply bN | apply bD | refine bS ?_ GE667.out) | exact HB.out)) hb)
          clear HO_7; clear HO_8; clear BK667; clear HB
          have HO_7 := n0_
          have HO_8 := n1_
          have BK667 := n2_
          have HB := n3_
          clear n0_ n1_ n2_ n3_
          (try clear hb)
          (try clear hb2)
          (try clear hk)
          (try clear hi)
          refine hK.out _ _ ⟨(kC BK667.out 0).trans rfl, (kC BK667.out 1).trans rfl, HS2_, ((HB.out.cell (wlt0 w _ hw673_0)).trans hw673_0), ((HB.out.cell (wlt0 w _ hw673_1)).trans hw673_1), ((HB.out.cell (wlt0 w _ hw673_2)).trans hw673_2), ((HB.out.cell (wlt0 w _ hw673_3)).trans hw673_3), HS7_, ((HB.out.cell (wlt0 w _ hw675_0)).trans hw675_0), ((HB.out.cell (wlt0 w _ hw675_1)).trans hw675_1), ((HB.out.cell (wlt0 w _ hw675_2)).trans hw675_2), ((HB.out.cell (wlt0 w _ hw675_3)).trans hw675_3)⟩ (fun hHeld => ?_)
          clear hK K
          refine norm_ (a' := ?_) ?_ ?_
          rotate_left
          ·show Act.put _ (some 45) _ = _
           simp only [Act.put, List.setIfInBounds_toArray, List.set_cons_zero, List.set_cons_succ, i64_w, i32_w]
           rfl
          refine pure_ (i := 21) (N := some 46) (v := ?_) (a' := ?_) #[true,true,true,true,true,true,true,true,true,true,true,true,true,true,true,true,true,true,true,true,true,true] rfl rfl (any_of HT_.out (by kernel_rfl)) (fun _ _ _ h => h) (Or.inl ⟨by rfl, ?_⟩) ?_ ?_
          rotate_left; (intro w'; go_simp; with_reducible rfl); rotate_left; (simp only [Act.put, List.setIfInBounds_toArray, List.set_cons_zero, List.set_cons_succ, i64_w, i32_w]; rfl)
          refine done_ (done_of HT_.out (by kernel_rfl)) ?_
          have p677 : 0 ≤ (x9_1 : Int) := of_decide_eq_true (by first | (with_reducible assumption) | assumption)
          have q677 : x9_1 < (t669.length : Int) := of_decide_eq_true (by first | (with_reducible assumption) | assumption)
          obtain ⟨ad677, e677, hx677_0⟩ := Kd.at_int (Kd.R_reads' HO_8.out).2.2 x9_1 p677 q677
          obtain rfl : ad672 = ad677 := (by injection e677)
          replace p677 := eq_true p677
          replace q677 := eq_true q677
          try go_wp2_with (first | ((with_reducible refine gate_builtin (b := .append) (xs := #[.tmp 47, .tmp 52]) rfl ?_); at_builtin; refine Kd.R_append (Kd.int .i64) (w0 := w) w.heap.size rfl (.tmp 47) (.tmp 52) 25 3 (.int .i64 0) 8 rfl Try.underlying25 info3 rfl (by decide) (by omega) (.slice Ao24 x7_1.length co24) x7_1 (rd t669 x9_1) [.int .i64 (rd t669 x9_1)] (fun k_ => some k_ ≠ (.slice (some ad672) t669.length co22 : Value).ownBlock) (fun _ => False) rfl rfl ?aP (fun _ hk => hk.elim) ?aF ?aO ?aB ?aS ?aL ?_; (case aP => exact rfl); (case aB => exact (by repeat (first | (with_reducible first | exact HB.out | apply below_alloc | apply bN | apply bD | refine bS ?_ GE667.out) | exact HB.out))); (case aF => exact (fun k_ hk => Kd.fresh' (Kd.R_lt (by (with_reducible repeat (first | apply Kd.R_alloc | apply Kd.R_drewN | apply Kd.R_drew)); exact HO_8.out)) k_ hk)); (case aO => exact (by (with_reducible repeat (first | apply Kd.R_alloc | apply Kd.R_drewN | apply Kd.R_drew)); exact HO_7.out)); (case aS => exact (bZ (by repeat (first | (with_reducible first | exact HB.out | apply below_alloc | apply bN | apply bD | refine bS ?_ GE667.out) | exact HB.out)))); (case aL => have := LMc21.out; omega); intro v679 w26 ho hb hg hat; rw [← Ny678.out] at ho; have n0_ := Z0.mk (Kd.R_after (ok := (fun _ => True)) (by (with_reducible repeat (first | apply Kd.R_alloc | apply Kd.R_drewN | apply Kd.R_drew)); exact Kd.R_mono HO_8.out (fun _ hk => ⟨trivial, hk⟩)) hg hat); have n1_ := Z0.mk (blk_grown (g := gb667) (o := .cells #[.int .i64 a0_0, .slice (some ad673) l0_1.length c0_1] 24 (0, 0)) (by (with_reducible repeat (first | refine kN ?_ _ | refine kD ?_ | refine kA ?_ _)); exact BK667.out) hg (Kd.R_ne HO_7.out BK667.out (by decide))); have n2_ := Z0.mk (hb); have n3_ := Z0.mk (ho); clear HO_8; clear BK667; clear HB; clear HO_7; have HO_8 := n0_; have BK667 := n1_; have HB := n2_; have HO680 := n3_; clear n0_ n1_ n2_ n3_; clear ho hb hg hat))
          go_roundg k1
          case measure => have := HK1.out; omega
          case rel => exact ⟨(y678), (wrap64 (x9_1 + 1)), (by first | rfl | (simp; done) | (simp [*]; done)), H', ⟨by have := HK1.out; omega⟩, ⟨by (with_reducible repeat (first | apply Kd.R_alloc | apply Kd.R_drewN | apply Kd.R_drew)); exact HO680.out⟩, ⟨by (with_reducible repeat (first | apply Kd.R_alloc | apply Kd.R_drewN | apply Kd.R_drew)); exact Kd.R_mono HO_8.out (fun _ hk => hk.2)⟩, ⟨by (with_reducible repeat (first | refine kN ?_ _ | refine kD ?_ | refine kA ?_ _)); exact BK667.out⟩, ⟨by repeat (first | (with_reducible first | exact HB.out | apply below_alloc | apply bN | apply bD | refine bS ?_ GE667.out) | exact HB.out)⟩⟩
         ·rw [if_neg c21] at H
          exact absurd H (by simp)
       ·rw [if_neg c14] at H
        exact absurd H (by simp)
      ·rw [if_neg c13] at H
       exact absurd H (by simp)
     ·rw [if_neg c12] at H
      exact absurd H (by simp)
    ·rw [if_neg c11] at H
     have c11b0 : decide (x9_1 < (t669.length : Int)) = false := decide_eq_false c11
     clear c11
     simp only [Option.some.injEq, Prod.mk.injEq] at H
     obtain ⟨rfl, rfl⟩ := H
     obtain ⟨Ao27, co27, eo27⟩ := Kd.R_slice HO_8.out
     subst eo27
     go_wp2
     go_ret2
     exact ⟨_, by first | rfl | (simp [errW_none, errW_some] <;> rfl) | (simp [*, errW_none, errW_some] <;> rfl), by (with_reducible repeat (first | apply Kd.R_alloc | apply Kd.R_drewN | apply Kd.R_drew)); exact Kd.R_mono HO_7.out (fun _ hk => trivial), by repeat (first | (with_reducible first | exact HB.out | apply below_alloc | apply bN | apply bD | refine bS ?_ GE667.out) | exact HB.out)⟩
 ·rw [if_neg c4] at H
  have c4b0 : (t668 == 0) = false := beq_eq_false_iff_ne.mpr c4
  have c4b1 : (t668 != 0) = true := bne_iff_ne.mpr c4
  simp only [Option.some.injEq, Prod.mk.injEq] at H
  obtain ⟨rfl, rfl⟩ := H
  go_enter Try.func53, Try.ntmps53
  go_wp2_with (first | ((with_reducible refine gate_dst (N := 2) rfl ?_); refine bE ?hg (N := 2) ?hd (cs := #[.int .i64 a0_0, .slice A0_1 l0_1.length c0_1]) (t := 24) ?hr ?_; (case hd => rfl); (case hg => rfl); (case hr => first | (go_simp; done) | (go_simp; rfl)); intro gb667 hg w28 hbox hb; have n0_ := Z0.mk (bT (by repeat (first | (with_reducible first | exact HB.out | apply below_alloc | apply bN | apply bD) | exact HB.out)) hb); have n1_ := Z0.mk (hbox); have n2_ := Z0.mk ((by rw [hg]; exact (bZ (by repeat (first | (with_reducible first | exact HB.out | apply below_alloc | apply bN | apply bD) | exact HB.out))) : w.heap.size ≤ gb667)); have n3_ := Z0.mk ((by rw [hg]; exact (bZ (by repeat (first | (with_reducible first | exact HB.out | apply below_alloc | apply bN | apply bD) | exact HB.out))) : w.heap.size ≤ gb667)); clear HB; have HB := n0_; have BK667 := n1_; have GW667 := n2_; have GE667 := n3_; clear n0_ n1_ n2_ n3_; clear hb hbox hg; have hcz29_0 : w28.cell? ⟨gb667, 0, none⟩ = some (.int .i64 a0_0) := (kC BK667.out 0).trans rfl; have hcz29_1 : w28.cell? ⟨gb667, 1, none⟩ = some (.slice A0_1 l0_1.length c0_1) := (kC BK667.out 1).trans rfl; have hfz29_0 := kF BK667.out 0; have hfz29_1 := kF BK667.out 1) | ((with_reducible refine gC (f := 69) rfl ?_); refine gL (some 12) rfl rfl Try.func69 (by kernel_rfl) rfl #[.agg #[.int .i64 a0_0, .slice A0_1 l0_1.length c0_1], .slice A1 l1.length c1] rfl (by (try simp only [List.map_toArray, List.map_cons, List.map_nil]); first | done | rfl | (simp only [List.length_drop, List.length_take]; rfl)) ?_; (with_reducible refine (qr14Outs.calls k a0_0 _ _ l0_1 _ _ l1 t668 _ ?side1 ?side2 ?side3 ?side4 A3.out).mono ?_); (case side1 => repeat (first | exact (Kd.C_below HR0_1.out HB.out) | (with_reducible refine Kd.C_alloc ?_ _) | (with_reducible refine Kd.C_drewN ?_ _) | (with_reducible refine Kd.C_drew ?_))); (case side2 => exact HC0_1.out); (case side3 => repeat (first | exact (Kd.C_below HR1.out HB.out) | (with_reducible refine Kd.C_alloc ?_ _) | (with_reducible refine Kd.C_drewN ?_ _) | (with_reducible refine Kd.C_drew ?_))); (case side4 => exact HC1.out); rintro e w30 ⟨rfl, hb⟩; refine ⟨_, rfl, ?_⟩; have n0_ := Z0.mk (kB (g := gb667) (o := .cells #[.int .i64 a0_0, .slice A0_1 l0_1.length c0_1] 24 (0, 0)) (by (with_reducible repeat (first | refine kN ?_ _ | refine kD ?_ | refine kA ?_ _)); exact BK667.out) hb); have n1_ := Z0.mk (bT (by repeat (first | (with_reducible first | exact HB.out | apply below_alloc | apply bN | apply bD | refine bS ?_ GE667.out) | exact HB.out)) hb); clear BK667; clear HB; have BK667 := n0_; have HB := n1_; clear n0_ n1_; (try clear hb); (try clear hb2); (try clear hk); (try clear hi)))
  go_ret2
  exact ⟨_, by first | rfl | (simp [errW_none, errW_some] <;> rfl) | (simp [*, errW_none, errW_some] <;> rfl), by first | exact Kd.R_nil _ _ _ _ _ | exact Kd.N_nil _ _ _ _ _ | exact Kd.V_nil _ _ _ _ _ | exact Kd.Q_nil _ _ _ _ _ | exact Kd.S_nil _ _ _ _ _, by repeat (first | (with_reducible first | exact HB.out | apply below_alloc | apply bN | apply bD | refine bS ?_ GE667.out) | exact HB.out)⟩
end Go.Proofs.Ytdpgdelimffjpaa.P
