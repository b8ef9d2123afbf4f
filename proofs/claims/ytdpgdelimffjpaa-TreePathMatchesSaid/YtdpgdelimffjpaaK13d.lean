/- Texts of this claim, merged: the words that print.sh and the prover's driver wrote, and hand-proved contracts and lemmas, less what this claim does not name. Lean checks them. -/
import Derived.Outline
import Derived.Lib.Hide
import Derived.Test.YtdpgdelimffjpaaK13a
import Derived.Test.YtdpgdelimffjpaaK13b
import Derived.Test.YtdpgdelimffjpaaK13c
namespace Go.Proofs.Ytdpgdelimffjpaa.P
open Go.RowKit Go.Proofs.YtdpgdelimffjpaaW.PrintWords Go.Proofs.YtdpgdelimffjpaaW.PrintLast Go.Proofs.YtdpgdelimffjpaaW.PrintMore
attribute [local go_sem] max2_int min2_int max_two min_two max_three min_three max_four min_four
set_option linter.unusedVariables false
set_option linter.unusedSimpArgs false
def tree_Path.f (k : Nat) (a0_0 : Int) (l0_1 : List (S37)) (l1 : List Int) (a2 : Int) (a3 : Int) : Option (List Int × Int) := (island_Connected.f a0_0 l0_1 l1 a2 a3).bind fun bt622 => (if bt622.2 = 0 then (if bt622.1 = true then ((tree_Tree.f k a0_0 l0_1 l1).bind fun bt624 => (if 0 ≤ (l0_1.length : Int) then (if ((l0_1.length : Int) : Int).toNat ≤ 35184372088832 then ((tree_walk.f k a0_0 l0_1 bt624.1 a2 a3 (List.replicate ((l0_1.length : Int) : Int).toNat 0)).bind fun bt631 => (some (bt631.2, 0))) else (none)) else (none))) else (some (([] : List Int), 8))) else (some (([] : List Int), bt622.2)))
set_option maxHeartbeats 8000000 in
set_option maxRecDepth 100000 in
theorem tree_Path.calls (k : Nat) (a0_0 : Int) (A0_1 : Option Addr) (c0_1 : Nat) (l0_1 : List (S37)) (A1 : Option Addr) (c1 : Nat) (l1 : List Int) (a2 : Int) (a3 : Int) (r1 : List Int) (r2 : Int) (w : World) (hr0_1 : Kd.C k37 w A0_1 l0_1.length l0_1) (hc0_1 : l0_1.length ≤ c0_1) (hr1 : Kd.C (Kd.int .i64) w A1 l1.length l1) (hc1 : l1.length ≤ c1) (h : tree_Path.f k a0_0 l0_1 l1 a2 a3 = some (r1, r2)) :
  Calls Try.prog 62 #[.agg #[.int .i64 a0_0, .slice A0_1 l0_1.length c0_1], .slice A1 l1.length c1, .int .i64 a2, .int .i64 a3] w fun e w' => ∃ v0_ : Value, e = .returned (.tuple #[v0_, .int .i64 r2]) ∧ Kd.R (Kd.int .i64) 3 w' w.heap.size (fun _ => True) v0_ r1 ∧ Below w.heap.size w w' := by
 have hu24 := Try.underlying24
 have HR0_1 := Z0.mk hr0_1
 have HC0_1 := Z0.mk hc0_1
 clear hr0_1 hc0_1
 have HR1 := Z0.mk hr1
 have HC1 := Z0.mk hc1
 clear hr1 hc1
 have HB := Z0.mk (Below.refl w.heap.size w)
 have H : ((island_Connected.f a0_0 l0_1 l1 a2 a3).bind fun bt622 => (if bt622.2 = 0 then (if bt622.1 = true then ((tree_Tree.f k a0_0 l0_1 l1).bind fun bt624 => (if 0 ≤ (l0_1.length : Int) then (if ((l0_1.length : Int) : Int).toNat ≤ 35184372088832 then ((tree_walk.f k a0_0 l0_1 bt624.1 a2 a3 (List.replicate ((l0_1.length : Int) : Int).toNat 0)).bind fun bt631 => (some (bt631.2, 0))) else (none)) else (none))) else (some (([] : List Int), 8))) else (some (([] : List Int), bt622.2)))) = some (r1, r2) := h
 clear h
 replace H := Option.bind_eq_some_iff.mp H
 obtain ⟨⟨t622, t623⟩, A50, H⟩ := H
 replace H : (if t623 = 0 then (if t622 = true then ((tree_Tree.f k a0_0 l0_1 l1).bind fun bt624 => (if 0 ≤ (l0_1.length : Int) then (if ((l0_1.length : Int) : Int).toNat ≤ 35184372088832 then ((tree_walk.f k a0_0 l0_1 bt624.1 a2 a3 (List.replicate ((l0_1.length : Int) : Int).toNat 0)).bind fun bt631 => (some (bt631.2, 0))) else (none)) else (none))) else (some (([] : List Int), 8))) else (some (([] : List Int), t623))) = some (r1, r2) := H
 have A5 := Z0.mk A50
 clear A50
 by_cases c6 : t623 = 0
 ·rw [if_pos c6] at H
  have c6b0 : (t623 == 0) = true := beq_iff_eq.mpr c6
  have c6b1 : (t623 != 0) = false := bne_eq_false_iff_eq.mpr c6
  clear c6
  by_cases c7 : t622 = true
  ·subst c7
   have H1 : ((tree_Tree.f k a0_0 l0_1 l1).bind fun bt624 => (if 0 ≤ (l0_1.length : Int) then (if ((l0_1.length : Int) : Int).toNat ≤ 35184372088832 then ((tree_walk.f k a0_0 l0_1 bt624.1 a2 a3 (List.replicate ((l0_1.length : Int) : Int).toNat 0)).bind fun bt631 => (some (bt631.2, 0))) else (none)) else (none))) = some (r1, r2) := by rw [if_pos rfl] at H; exact H
   clear H
   have H := H1
   clear H1
   replace H := Option.bind_eq_some_iff.mp H
   obtain ⟨⟨t624, t627⟩, A80, H⟩ := H
   replace H : (if 0 ≤ (l0_1.length : Int) then (if ((l0_1.length : Int) : Int).toNat ≤ 35184372088832 then ((tree_walk.f k a0_0 l0_1 t624 a2 a3 (List.replicate ((l0_1.length : Int) : Int).toNat 0)).bind fun bt631 => (some (bt631.2, 0))) else (none)) else (none)) = some (r1, r2) := H
   have A8 := Z0.mk A80
   clear A80
   by_cases c9 : 0 ≤ (l0_1.length : Int)
   ·rw [if_pos c9] at H
    have c9b0 := eq_true c9
    have c9b1 : decide (0 ≤ (l0_1.length : Int)) = true := decide_eq_true c9
    clear c9
    by_cases c10 : ((l0_1.length : Int) : Int).toNat ≤ 35184372088832
    ·rw [if_pos c10] at H
     have c10b0 := eq_true c10
     have c10b1 : decide (((l0_1.length : Int) : Int).toNat ≤ 35184372088832) = true := decide_eq_true c10
     clear c10
     obtain ⟨y628, hy628⟩ : ∃ y_ : List Int, y_ = (List.replicate ((l0_1.length : Int) : Int).toNat 0) := ⟨_, rfl⟩
     replace H : ((tree_walk.f k a0_0 l0_1 t624 a2 a3 y628).bind fun bt631 => (some (bt631.2, 0))) = some (r1, r2) := by first | (rw [hy628]; with_reducible exact H) | (have H2_ := (Option.bind_some _ _).symm.trans H; rw [hy628]; with_reducible exact H2_) | (have H2_ := (Option.bind_some _ _).symm.trans H; with_reducible exact H2_) | with_reducible exact H | (rw [hy628]; exact H) | exact H
     have Ny628 := Z0.mk hy628
     clear hy628
     replace H := Option.bind_eq_some_iff.mp H
     obtain ⟨⟨t631, t632⟩, A110, H⟩ := H
     replace H : (some (t632, 0)) = some (r1, r2) := H
     have A11 := Z0.mk A110
     clear A110
     simp only [Option.some.injEq, Prod.mk.injEq] at H
     obtain ⟨rfl, rfl⟩ := H
     go_enter Try.func62, Try.ntmps62
     go_wp2_with (first | ((with_reducible refine gate_dst (N := 4) rfl ?_); refine bE ?hg (N := 4) ?hd (cs := #[.int .i64 a0_0, .slice A0_1 l0_1.length c0_1]) (t := 24) ?hr ?_; (case hd => rfl); (case hg => rfl); (case hr => first | (go_simp; done) | (go_simp; rfl)); intro gb621 hg w12 hbox hb; have n0_ := Z0.mk (bT (by repeat (first | (with_reducible first | exact HB.out | apply below_alloc | apply bN | apply bD) | exact HB.out)) hb); have n1_ := Z0.mk (hbox); have n2_ := Z0.mk ((by rw [hg]; exact (bZ (by repeat (first | (with_reducible first | exact HB.out | apply below_alloc | apply bN | apply bD) | exact HB.out))) : w.heap.size ≤ gb621)); have n3_ := Z0.mk ((by rw [hg]; exact (bZ (by repeat (first | (with_reducible first | exact HB.out | apply below_alloc | apply bN | apply bD) | exact HB.out))) : w.heap.size ≤ gb621)); clear HB; have HB := n0_; have BK621 := n1_; have GW621 := n2_; have GE621 := n3_; clear n0_ n1_ n2_ n3_; clear hb hbox hg; have hcz13_0 : w12.cell? ⟨gb621, 0, none⟩ = some (.int .i64 a0_0) := (kC BK621.out 0).trans rfl; have hcz13_1 : w12.cell? ⟨gb621, 1, none⟩ = some (.slice A0_1 l0_1.length c0_1) := (kC BK621.out 1).trans rfl; have hfz13_0 := kF BK621.out 0; have hfz13_1 := kF BK621.out 1) | ((with_reducible refine gC (f := 33) rfl ?_); refine gL (some 20) rfl rfl Try.func33 (by kernel_rfl) rfl #[.agg #[.int .i64 a0_0, .slice A0_1 l0_1.length c0_1], .slice A1 l1.length c1, .int .i64 a2, .int .i64 a3] rfl (by (try simp only [List.map_toArray, List.map_cons, List.map_nil]); first | done | rfl | (simp only [List.length_drop, List.length_take]; rfl)) ?_; (with_reducible refine (island_Connected.calls a0_0 _ _ l0_1 _ _ l1 a2 a3 true t623 _ ?side1 ?side2 ?side3 ?side4 A5.out).mono ?_); (case side1 => repeat (first | exact (Kd.C_below HR0_1.out HB.out) | (with_reducible refine Kd.C_alloc ?_ _) | (with_reducible refine Kd.C_drewN ?_ _) | (with_reducible refine Kd.C_drew ?_))); (case side2 => exact HC0_1.out); (case side3 => repeat (first | exact (Kd.C_below HR1.out HB.out) | (with_reducible refine Kd.C_alloc ?_ _) | (with_reducible refine Kd.C_drewN ?_ _) | (with_reducible refine Kd.C_drew ?_))); (case side4 => exact HC1.out); rintro e w14 ⟨rfl, hb⟩; refine ⟨_, rfl, ?_⟩; have n0_ := Z0.mk (kB (g := gb621) (o := .cells #[.int .i64 a0_0, .slice A0_1 l0_1.length c0_1] 24 (0, 0)) (by (with_reducible repeat (first | refine kN ?_ _ | refine kD ?_ | refine kA ?_ _)); exact BK621.out) hb); have n1_ := Z0.mk (bT (by repeat (first | (with_reducible first | exact HB.out | apply below_alloc | apply bN | apply bD | refine bS ?_ GE621.out) | exact HB.out)) hb); clear BK621; clear HB; have BK621 := n0_; have HB := n1_; clear n0_ n1_; (try clear hb); (try clear hb2); (try clear hk); (try clear hi); have hcz15_0 : w14.cell? ⟨gb621, 0, none⟩ = some (.int .i64 a0_0) := (kC BK621.out 0).trans rfl; have hcz15_1 : w14.cell? ⟨gb621, 1, none⟩ = some (.slice A0_1 l0_1.length c0_1) := (kC BK621.out 1).trans rfl; have hfz15_0 := kF BK621.out 0; have hfz15_1 := kF BK621.out 1) | ((with_reducible refine gC (f := 56) rfl ?_); refine gL (some 33) rfl rfl Try.func56 (by kernel_rfl) rfl #[.agg #[.int .i64 a0_0, .slice A0_1 l0_1.length c0_1], .slice A1 l1.length c1] rfl (by (try simp only [List.map_toArray, List.map_cons, List.map_nil]); first | done | rfl | (simp only [List.length_drop, List.length_take]; rfl)) ?_; (with_reducible refine (tree_Tree.calls k a0_0 _ _ l0_1 _ _ l1 t624 t627 _ ?side1 ?side2 ?side3 ?side4 A8.out).mono ?_); (case side1 => repeat (first | exact (Kd.C_below HR0_1.out HB.out) | (with_reducible refine Kd.C_alloc ?_ _) | (with_reducible refine Kd.C_drewN ?_ _) | (with_reducible refine Kd.C_drew ?_))); (case side2 => exact HC0_1.out); (case side3 => repeat (first | exact (Kd.C_below HR1.out HB.out) | (with_reducible refine Kd.C_alloc ?_ _) | (with_reducible refine Kd.C_drewN ?_ _) | (with_reducible refine Kd.C_drew ?_))); (case side4 => exact HC1.out); rintro e w16 ⟨v625, rfl, ho0, hb⟩; refine ⟨_, rfl, ?_⟩; have n0_ := Z0.mk (Kd.R_lower ho0 (bZ (by repeat (first | (with_reducible first | exact HB.out | apply below_alloc | apply bN | apply bD | refine bS ?_ GE621.out) | exact HB.out)))); have n1_ := Z0.mk (kB (g := gb621) (o := .cells #[.int .i64 a0_0, .slice A0_1 l0_1.length c0_1] 24 (0, 0)) (by (with_reducible repeat (first | refine kN ?_ _ | refine kD ?_ | refine kA ?_ _)); exact BK621.out) hb); have n2_ := Z0.mk (bT (by repeat (first | (with_reducible first | exact HB.out | apply below_alloc | apply bN | apply bD | refine bS ?_ GE621.out) | exact HB.out)) hb); clear BK621; clear HB; have HO626 := n0_; have BK621 := n1_; have HB := n2_; clear n0_ n1_ n2_; (try clear hb); (try clear hb2); (try clear hk); (try clear hi); (try clear ho0); have hcz17_0 : w16.cell? ⟨gb621, 0, none⟩ = some (.int .i64 a0_0) := (kC BK621.out 0).trans rfl; have hcz17_1 : w16.cell? ⟨gb621, 1, none⟩ = some (.slice A0_1 l0_1.length c0_1) := (kC BK621.out 1).trans rfl; have hfz17_0 := kF BK621.out 0; have hfz17_1 := kF BK621.out 1) | ((with_reducible refine gate_dst (N := 39) rfl ?_); refine Kd.R_make (Kd.int .i64) _ 3 rfl (N := 39) rfl 25 _ _ rfl (l0_1.length : Int) rfl rfl Try.underlying25 (.int .i64 0) 8 info3 rfl (by decide) (by omega) 0 (ok := fun _ => True) (okp := fun _ => True) rfl (fun _ hk => hk) trivial (of_decide_eq_true (by first | (with_reducible assumption) | assumption)) (Nat.le_trans (Nat.mul_le_mul_right _ (of_decide_eq_true (by first | (with_reducible assumption) | assumption) : (l0_1.length : Int).toNat ≤ 35184372088832)) (by omega)) (Below.refl _ _) (Nat.le_refl _) ?_; intro v629 w18 ho19 hb hg_ hnew_; clear hg_ hnew_; (first | rw [← Ny628.out] at ho19 | (simp only [Int.reduceToNat] at ho19; rw [← Ny628.out] at ho19)); have n0_ := Z0.mk (Kd.R_elder' (by (with_reducible repeat (first | apply Kd.R_alloc | apply Kd.R_drewN | apply Kd.R_drew)); exact HO626.out) (Kd.R_base ho19) hb); have n1_ := Z0.mk (Kd.R_lower (Kd.R_new' ho19 (Kd.R_lt (by (with_reducible repeat (first | apply Kd.R_alloc | apply Kd.R_drewN | apply Kd.R_drew)); exact HO626.out))) (bZ (by repeat (first | (with_reducible first | exact HB.out | apply below_alloc | apply bN | apply bD | refine bS ?_ GE621.out) | exact HB.out)))); have n2_ := Z0.mk (kB (g := gb621) (o := .cells #[.int .i64 a0_0, .slice A0_1 l0_1.length c0_1] 24 (0, 0)) (by (with_reducible repeat (first | refine kN ?_ _ | refine kD ?_ | refine kA ?_ _)); exact BK621.out) hb); have n3_ := Z0.mk (bT (by repeat (first | (with_reducible first | exact HB.out | apply below_alloc | apply bN | apply bD | refine bS ?_ GE621.out) | exact HB.out)) hb); clear HO626; clear BK621; clear HB; have HO626 := n0_; have HO630 := n1_; have BK621 := n2_; have HB := n3_; clear n0_ n1_ n2_ n3_; clear hb ho19; have hcz20_0 : w18.cell? ⟨gb621, 0, none⟩ = some (.int .i64 a0_0) := (kC BK621.out 0).trans rfl; have hcz20_1 : w18.cell? ⟨gb621, 1, none⟩ = some (.slice A0_1 l0_1.length c0_1) := (kC BK621.out 1).trans rfl; have hfz20_0 := kF BK621.out 0; have hfz20_1 := kF BK621.out 1; obtain ⟨Ao21, co21, eo21⟩ := Kd.R_slice HO626.out; subst eo21; obtain ⟨Ao22, co22, eo22⟩ := Kd.R_slice HO630.out; subst eo22) | ((with_reducible refine gC (f := 103) rfl ?_); refine gL (some 45) rfl rfl Try.func103 (by kernel_rfl) rfl #[.agg #[.int .i64 a0_0, .slice A0_1 l0_1.length c0_1], .slice Ao21 t624.length co21, .int .i64 a2, .int .i64 a3, .slice Ao22 y628.length co22] rfl (by (try simp only [List.map_toArray, List.map_cons, List.map_nil]); first | done | rfl | (simp only [List.length_drop, List.length_take]; rfl)) ?_; (with_reducible refine (tree_walk.calls k a0_0 _ _ l0_1 _ _ t624 a2 a3 (fun k_ => some k_ = (.slice Ao22 y628.length co22 : Value).ownBlock) (.slice Ao22 y628.length co22) y628 t631 t632 w _ ?side1 ?side2 ?side3 ?side4 ?side5 ?side6 A11.out).mono ?_); (case side1 => repeat (first | (with_reducible first | exact HB.out | apply below_alloc | apply bN | apply bD | refine bS ?_ GE621.out) | exact HB.out)); (case side2 => exact Kd.C_kept_came k37_heap HR0_1.out (by repeat (first | (with_reducible first | exact HB.out | apply below_alloc | apply bN | apply bD | refine bS ?_ GE621.out) | exact HB.out)) (fun k_ hs_ => (fun e_ => Kd.R_base HO630.out k_ e_.symm) hs_)); (case side3 => exact HC0_1.out); (case side4 => exact Kd.C_kept_own (HO626.out) (fun k_ hk_ hs_ => (hk_.2) hs_)); (case side5 => exact (Kd.R_reads' HO626.out).2.1); (case side6 => exact Kd.R_tight rfl HO630.out); rintro e w23 ⟨rfl, hy0, hb, hkp⟩; refine ⟨_, rfl, ?_⟩; have n0_ := Z0.mk (blk_kept (by (with_reducible repeat (first | refine kN ?_ _ | refine kD ?_ | refine kA ?_ _)); exact BK621.out) hkp (fun hs_ => (fun e_ => (Kd.R_ne HO630.out BK621.out (by decide)) e_) hs_)); have n1_ := Z0.mk (Kd.R_mono (ok' := fun k_ => some k_ ≠ (.slice Ao22 y628.length co22 : Value).ownBlock) (Kd.R_keptB (HO626.out) hkp (fun k_ hk_ hs_ => (hk_.2) hs_)) (fun k_ hk_ => hk_.1.2)); have n2_ := Z0.mk (Kd.R_reok rfl hy0 (fun k_ e_ => HO630.out.1 k_ e_)); have n3_ := Z0.mk (hb); clear BK621; clear HO626; clear HO630; clear HB; have BK621 := n0_; have HO626 := n1_; have HO630 := n2_; have HB := n3_; clear n0_ n1_ n2_ n3_; (try clear hb); (try clear hkp); (try clear hy0)))
     go_ret2
     exact ⟨_, by first | rfl | (simp [errW_none, errW_some] <;> rfl) | (simp [*, errW_none, errW_some] <;> rfl), by (with_reducible repeat (first | apply Kd.R_alloc | apply Kd.R_drewN | apply Kd.R_drew)); exact Kd.R_mono HO630.out (fun _ hk => trivial), by repeat (first | (with_reducible first | exact HB.out | apply below_alloc | apply bN | apply bD | refine bS ?_ GE621.out) | exact HB.out)⟩
    ·rw [if_neg c10] at H
     exact absurd H (by simp)
   ·rw [if_neg c9] at H
    exact absurd H (by simp)
  ·replace c7 := Bool.eq_false_iff.mpr c7
   subst c7
   have H1 : (some (([] : List Int), 8)) = some (r1, r2) := by rw [if_neg (show ¬ (false = true) by decide)] at H; exact H
   clear H
   have H := H1
   clear H1
   simp only [Option.some.injEq, Prod.mk.injEq] at H
   obtain ⟨rfl, rfl⟩ := H
   go_enter Try.func62, Try.ntmps62
   go_wp2_with (first | ((with_reducible refine gate_dst (N := 4) rfl ?_); refine bE ?hg (N := 4) ?hd (cs := #[.int .i64 a0_0, .slice A0_1 l0_1.length c0_1]) (t := 24) ?hr ?_; (case hd => rfl); (case hg => rfl); (case hr => first | (go_simp; done) | (go_simp; rfl)); intro gb621 hg w24 hbox hb; have n0_ := Z0.mk (bT (by repeat (first | (with_reducible first | exact HB.out | apply below_alloc | apply bN | apply bD) | exact HB.out)) hb); have n1_ := Z0.mk (hbox); have n2_ := Z0.mk ((by rw [hg]; exact (bZ (by repeat (first | (with_reducible first | exact HB.out | apply below_alloc | apply bN | apply bD) | exact HB.out))) : w.heap.size ≤ gb621)); have n3_ := Z0.mk ((by rw [hg]; exact (bZ (by repeat (first | (with_reducible first | exact HB.out | apply below_alloc | apply bN | apply bD) | exact HB.out))) : w.heap.size ≤ gb621)); clear HB; have HB := n0_; have BK621 := n1_; have GW621 := n2_; have GE621 := n3_; clear n0_ n1_ n2_ n3_; clear hb hbox hg; have hcz25_0 : w24.cell? ⟨gb621, 0, none⟩ = some (.int .i64 a0_0) := (kC BK621.out 0).trans rfl; have hcz25_1 : w24.cell? ⟨gb621, 1, none⟩ = some (.slice A0_1 l0_1.length c0_1) := (kC BK621.out 1).trans rfl; have hfz25_0 := kF BK621.out 0; have hfz25_1 := kF BK621.out 1) | ((with_reducible refine gC (f := 33) rfl ?_); refine gL (some 20) rfl rfl Try.func33 (by kernel_rfl) rfl #[.agg #[.int .i64 a0_0, .slice A0_1 l0_1.length c0_1], .slice A1 l1.length c1, .int .i64 a2, .int .i64 a3] rfl (by (try simp only [List.map_toArray, List.map_cons, List.map_nil]); first | done | rfl | (simp only [List.length_drop, List.length_take]; rfl)) ?_; (with_reducible refine (island_Connected.calls a0_0 _ _ l0_1 _ _ l1 a2 a3 false t623 _ ?side1 ?side2 ?side3 ?side4 A5.out).mono ?_); (case side1 => repeat (first | exact (Kd.C_below HR0_1.out HB.out) | (with_reducible refine Kd.C_alloc ?_ _) | (with_reducible refine Kd.C_drewN ?_ _) | (with_reducible refine Kd.C_drew ?_))); (case side2 => exact HC0_1.out); (case side3 => repeat (first | exact (Kd.C_below HR1.out HB.out) | (with_reducible refine Kd.C_alloc ?_ _) | (with_reducible refine Kd.C_drewN ?_ _) | (with_reducible refine Kd.C_drew ?_))); (case side4 => exact HC1.out); rintro e w26 ⟨rfl, hb⟩; refine ⟨_, rfl, ?_⟩; have n0_ := Z0.mk (kB (g := gb621) (o := .cells #[.int .i64 a0_0, .slice A0_1 l0_1.length c0_1] 24 (0, 0)) (by (with_reducible repeat (first | refine kN ?_ _ | refine kD ?_ | refine kA ?_ _)); exact BK621.out) hb); have n1_ := Z0.mk (bT (by repeat (first | (with_reducible first | exact HB.out | apply below_alloc | apply bN | apply bD | refine bS ?_ GE621.out) | exact HB.out)) hb); clear BK621; clear HB; have BK621 := n0_; have HB := n1_; clear n0_ n1_; (try clear hb); (try clear hb2); (try clear hk); (try clear hi)))
   go_ret2
   exact ⟨_, by first | rfl | (simp [errW_none, errW_some] <;> rfl) | (simp [*, errW_none, errW_some] <;> rfl), by first | exact Kd.R_nil _ _ _ _ _ | exact Kd.N_nil _ _ _ _ _ | exact Kd.V_nil _ _ _ _ _ | exact Kd.Q_nil _ _ _ _ _ | exact Kd.S_nil _ _ _ _ _, by repeat (first | (with_reducible first | exact HB.out | apply below_alloc | apply bN | apply bD | refine bS ?_ GE621.out) | exact HB.out)⟩
 ·rw [if_neg c6] at H
  have c6b0 : (t623 == 0) = false := beq_eq_false_iff_ne.mpr c6
  have c6b1 : (t623 != 0) = true := bne_iff_ne.mpr c6
  simp only [Option.some.injEq, Prod.mk.injEq] at H
  obtain ⟨rfl, rfl⟩ := H
  go_enter Try.func62, Try.ntmps62
  go_wp2_with (first | ((with_reducible refine gate_dst (N := 4) rfl ?_); refine bE ?hg (N := 4) ?hd (cs := #[.int .i64 a0_0, .slice A0_1 l0_1.length c0_1]) (t := 24) ?hr ?_; (case hd => rfl); (case hg => rfl); (case hr => first | (go_simp; done) | (go_simp; rfl)); intro gb621 hg w27 hbox hb; have n0_ := Z0.mk (bT (by repeat (first | (with_reducible first | exact HB.out | apply below_alloc | apply bN | apply bD) | exact HB.out)) hb); have n1_ := Z0.mk (hbox); have n2_ := Z0.mk ((by rw [hg]; exact (bZ (by repeat (first | (with_reducible first | exact HB.out | apply below_alloc | apply bN | apply bD) | exact HB.out))) : w.heap.size ≤ gb621)); have n3_ := Z0.mk ((by rw [hg]; exact (bZ (by repeat (first | (with_reducible first | exact HB.out | apply below_alloc | apply bN | apply bD) | exact HB.out))) : w.heap.size ≤ gb621)); clear HB; have HB := n0_; have BK621 := n1_; have GW621 := n2_; have GE621 := n3_; clear n0_ n1_ n2_ n3_; clear hb hbox hg; have hcz28_0 : w27.cell? ⟨gb621, 0, none⟩ = some (.int .i64 a0_0) := (kC BK621.out 0).trans rfl; have hcz28_1 : w27.cell? ⟨gb621, 1, none⟩ = some (.slice A0_1 l0_1.length c0_1) := (kC BK621.out 1).trans rfl; have hfz28_0 := kF BK621.out 0; have hfz28_1 := kF BK621.out 1) | ((with_reducible refine gC (f := 33) rfl ?_); refine gL (some 20) rfl rfl Try.func33 (by kernel_rfl) rfl #[.agg #[.int .i64 a0_0, .slice A0_1 l0_1.length c0_1], .slice A1 l1.length c1, .int .i64 a2, .int .i64 a3] rfl (by (try simp only [List.map_toArray, List.map_cons, List.map_nil]); first | done | rfl | (simp only [List.length_drop, List.length_take]; rfl)) ?_; (with_reducible refine (island_Connected.calls a0_0 _ _ l0_1 _ _ l1 a2 a3 t622 t623 _ ?side1 ?side2 ?side3 ?side4 A5.out).mono ?_); (case side1 => repeat (first | exact (Kd.C_below HR0_1.out HB.out) | (with_reducible refine Kd.C_alloc ?_ _) | (with_reducible refine Kd.C_drewN ?_ _) | (with_reducible refine Kd.C_drew ?_))); (case side2 => exact HC0_1.out); (case side3 => repeat (first | exact (Kd.C_below HR1.out HB.out) | (with_reducible refine Kd.C_alloc ?_ _) | (with_reducible refine Kd.C_drewN ?_ _) | (with_reducible refine Kd.C_drew ?_))); (case side4 => exact HC1.out); rintro e w29 ⟨rfl, hb⟩; refine ⟨_, rfl, ?_⟩; have n0_ := Z0.mk (kB (g := gb621) (o := .cells #[.int .i64 a0_0, .slice A0_1 l0_1.length c0_1] 24 (0, 0)) (by (with_reducible repeat (first | refine kN ?_ _ | refine kD ?_ | refine kA ?_ _)); exact BK621.out) hb); have n1_ := Z0.mk (bT (by repeat (first | (with_reducible first | exact HB.out | apply below_alloc | apply bN | apply bD | refine bS ?_ GE621.out) | exact HB.out)) hb); clear BK621; clear HB; have BK621 := n0_; have HB := n1_; clear n0_ n1_; (try clear hb); (try clear hb2); (try clear hk); (try clear hi)))
  go_ret2
  exact ⟨_, by first | rfl | (simp [errW_none, errW_some] <;> rfl) | (simp [*, errW_none, errW_some] <;> rfl), by first | exact Kd.R_nil _ _ _ _ _ | exact Kd.N_nil _ _ _ _ _ | exact Kd.V_nil _ _ _ _ _ | exact Kd.Q_nil _ _ _ _ _ | exact Kd.S_nil _ _ _ _ _, by repeat (first | (with_reducible first | exact HB.out | apply below_alloc | apply bN | apply bD | refine bS ?_ GE621.out) | exact HB.out)⟩
section
/-- A fresh block of ints, read as a slice. -/
theorem C_lit (w : World) (xs : List Int) (t : TypeId) (h : xs.length ≤ 9223372036854775807) : Kd.C (Kd.int .i64) (w.alloc (.cells (xs.map (Value.int .i64)).toArray t)) (some ⟨w.heap.size, 0, none⟩) xs.length xs := by
  refine Kd.C_of_reads (d := (0 : Int)) ⟨rfl, h, fun _ => ⟨_, rfl, fun j hj => ?_⟩⟩
  have e := kC (heap_alloc_new w (.cells (xs.map (Value.int .i64)).toArray t)) j
  have e2 : (xs.map (Value.int .i64)).toArray[j]? = some (Value.int .i64 (xs.getD j 0)) := by
    rw [List.getElem?_toArray, List.getElem?_map, List.getElem?_eq_getElem hj, List.getD_eq_getElem?_getD, List.getElem?_eq_getElem hj]; rfl
  rw [e2] at e
  have ea : ((⟨w.heap.size, 0, none⟩ : Addr).add j) = ⟨w.heap.size, j, none⟩ := by simp [Addr.add]; omega
  rw [ea]
  exact e
end
section
theorem C_litS (W : World) (s : Nat) (hs : W.heap.size = s) (xs : List Int) (t : TypeId) (h : xs.length ≤ 9223372036854775807) : Kd.C (Kd.int .i64) (W.alloc (.cells (xs.map (Value.int .i64)).toArray t)) (some ⟨s, 0, none⟩) xs.length xs := by
  subst hs; exact C_lit W xs t h
theorem blk_newS (W : World) (s : Nat) (hs : W.heap.size = s) (o : Obj) : (W.alloc o).heap[s]? = some o := by
  subst hs; exact heap_alloc_new W o
end
def three16 : List S37 := [(⟨0, 1, 10, 100⟩ : S37), (⟨1, 2, 5, 50⟩ : S37), (⟨0, 2, 10, 70⟩ : S37)]
theorem a16_three : ql16three.f = some (3, three16) := rfl
theorem a16_tree : tree_Tree.f 60 3 three16 [] = some ([0, 1], 0) := by kernel_rfl
theorem a16_br : tree_Bridges.f 60 3 three16 [] = some ([], 0) := by kernel_rfl
theorem a16_path : tree_Path.f 60 3 three16 [] 2 0 = some ([-1, -1, 0], 0) := by kernel_rfl
theorem a16_cyc : tree_Cycles.f 60 3 three16 [] = some ([[-1, -1, 1]], 0) := by kernel_rfl
theorem a16_br2 : tree_Bridges.f 60 3 three16 [2] = some ([0, 1], 0) := by kernel_rfl
theorem a16_cyc2 : tree_Cycles.f 60 3 three16 [2] = some ([], 0) := by kernel_rfl
theorem a16_i1 : qr14Ints.f 20 [0, 1] [0, 1] = some true := by kernel_rfl
theorem a16_i2 : qr14Ints.f 20 [-1, -1, 0] [-1, -1, 0] = some true := by kernel_rfl
theorem a16_rows : qr15Rows.f 20 [[-1, -1, 1]] [[-1, -1, 1]] = some true := by kernel_rfl
/-- A fresh row of one fresh list of ints. -/
theorem C_row1S (W : World) (s : Nat) (hs : W.heap.size = s) (xs : List Int) (h : xs.length ≤ 9223372036854775807) : Kd.C (Kd.slice 3 (Kd.int .i64)) ((W.alloc (.cells (xs.map (Value.int .i64)).toArray 3)).alloc (.cells #[.slice (some ⟨s, 0, none⟩) xs.length xs.length] 25)) (some ⟨s + 1, 0, none⟩) 1 [xs] := by
 have hC := Kd.C_alloc (C_litS W s hs xs 3 h) (.cells #[.slice (some ⟨s, 0, none⟩) xs.length xs.length] 25)
 have hb := blk_newS (W.alloc (.cells (xs.map (Value.int .i64)).toArray 3)) (s + 1) (by simp [hs]) (.cells #[.slice (some ⟨s, 0, none⟩) xs.length xs.length] 25)
 refine ⟨rfl, by decide, fun _ => ⟨_, rfl, fun j p hj => ?_⟩⟩
 have hj0 : j = 0 := by
  rcases Nat.lt_or_ge j 1 with h | h
  ·omega
  ·rw [List.getElem?_eq_none (by simpa using h)] at hj; cases hj
 subst hj0
 cases hj
 refine ⟨[.slice (some ⟨s, 0, none⟩) xs.length xs.length], rfl, ⟨_, _, rfl, Nat.le_refl _, hC⟩, fun i u hu => ?_⟩
 have hi0 : i = 0 := by
  rcases Nat.lt_or_ge i 1 with h | h
  ·omega
  ·rw [List.getElem?_eq_none (by simpa using h)] at hu; cases hu
 subst hi0
 have e := kC hb 0
 rw [show ((⟨s + 1, 0, none⟩ : Addr).add (0 * (Kd.slice 3 (Kd.int .i64)).sz + 0)) = ⟨s + 1, 0, none⟩ by simp [Addr.add]]
 rw [e]; exact hu
def ql16awake.f : Option (Bool) := some true
set_option maxRecDepth 100000 in
set_option maxHeartbeats 8000000 in
theorem ql16awake.calls  (r : Bool) (w : World) (h : ql16awake.f  = some r) :
  Calls Try.prog 51 #[] w fun e w' => e = .returned (.bool r) ∧ Below w.heap.size w w' := by
 have hr : true = r := Option.some.inj h
 subst hr
 clear h
 go_enter Try.func51, Try.ntmps51
 go_wp2_with fail
 go_at_call 63
 refine (ql16three.calls  3 three16 _  a16_three).mono ?_
 rintro e w1 ⟨v1, rfl, h1, b1⟩
 obtain ⟨A1, c1, rfl⟩ := Kd.R_slice h1
 obtain ⟨_, hc1, hC1⟩ := Kd.R_reads' h1
 have X1_0 := Lib.hid hC1
 clear h1 hC1
 have d1 := b1
 have B1 := Lib.hid (d1)
 clear d1
 go_wp2_with fail
 go_at_call 56
 refine (tree_Tree.calls 60 3 A1 c1 three16 none 0 [] [0, 1] 0 _ X1_0.out hc1 (Kd.C_nil _ _) (Nat.le_refl _) a16_tree).mono ?_
 rintro e w2 ⟨v2, rfl, h2, b2⟩
 obtain ⟨A2, c2, rfl⟩ := Kd.R_slice h2
 obtain ⟨_, hc2, hC2⟩ := Kd.R_reads' h2
 have X2_0 := Lib.hid hC2
 clear h2 hC2
 have d2 := b2
 have X_2 := Lib.hid (Kd.C_below X1_0.out d2)
 clear X1_0
 have B3 := Lib.hid (B1.out.trans (d2.mono B1.out.size))
 clear d2 B1; clear X_2
 go_wp2_with fail
 go_at_call 63
 refine (ql16three.calls  3 three16 _  a16_three).mono ?_
 rintro e w3 ⟨v3, rfl, h3, b3⟩
 obtain ⟨A3, c3, rfl⟩ := Kd.R_slice h3
 obtain ⟨_, hc3, hC3⟩ := Kd.R_reads' h3
 have X3_0 := Lib.hid hC3
 clear h3 hC3
 have d3 := b3
 have X_4 := Lib.hid (Kd.C_below X2_0.out d3)
 clear X2_0
 have B5 := Lib.hid (B3.out.trans (d3.mono B3.out.size))
 clear d3 B3
 go_wp2_with fail
 go_at_call 55
 refine (tree_Bridges.calls 60 3 A3 c3 three16 none 0 [] [] 0 _ X3_0.out hc3 (Kd.C_nil _ _) (Nat.le_refl _) a16_br).mono ?_
 rintro e w4 ⟨v4, rfl, h4, b4⟩
 obtain ⟨A4, c4, rfl⟩ := Kd.R_slice h4
 obtain ⟨_, hc4, hC4⟩ := Kd.R_reads' h4
 have X4_0 := Lib.hid hC4
 clear h4 hC4
 have d4 := b4
 have X_6 := Lib.hid (Kd.C_below X_4.out d4)
 clear X_4
 have X_7 := Lib.hid (Kd.C_below X3_0.out d4)
 clear X3_0
 have B8 := Lib.hid (B5.out.trans (d4.mono B5.out.size))
 clear d4 B5; clear X_7
 go_wp2_with fail
 go_at_call 63
 refine (ql16three.calls  3 three16 _  a16_three).mono ?_
 rintro e w5 ⟨v5, rfl, h5, b5⟩
 obtain ⟨A5, c5, rfl⟩ := Kd.R_slice h5
 obtain ⟨_, hc5, hC5⟩ := Kd.R_reads' h5
 have X5_0 := Lib.hid hC5
 clear h5 hC5
 have d5 := b5
 have X_9 := Lib.hid (Kd.C_below X_6.out d5)
 clear X_6
 have X_10 := Lib.hid (Kd.C_below X4_0.out d5)
 clear X4_0
 have B11 := Lib.hid (B8.out.trans (d5.mono B8.out.size))
 clear d5 B8
 go_wp2_with fail
 go_at_call 62
 refine (tree_Path.calls 60 3 A5 c5 three16 none 0 [] 2 0 [-1, -1, 0] 0 _ X5_0.out hc5 (Kd.C_nil _ _) (Nat.le_refl _) a16_path).mono ?_
 rintro e w6 ⟨v6, rfl, h6, b6⟩
 obtain ⟨A6, c6, rfl⟩ := Kd.R_slice h6
 obtain ⟨_, hc6, hC6⟩ := Kd.R_reads' h6
 have X6_0 := Lib.hid hC6
 clear h6 hC6
 have d6 := b6
 have X_12 := Lib.hid (Kd.C_below X_9.out d6)
 clear X_9
 have X_13 := Lib.hid (Kd.C_below X_10.out d6)
 clear X_10
 have X_14 := Lib.hid (Kd.C_below X5_0.out d6)
 clear X5_0
 have B15 := Lib.hid (B11.out.trans (d6.mono B11.out.size))
 clear d6 B11; clear X_14
 go_wp2_with fail
 go_at_call 63
 refine (ql16three.calls  3 three16 _  a16_three).mono ?_
 rintro e w7 ⟨v7, rfl, h7, b7⟩
 obtain ⟨A7, c7, rfl⟩ := Kd.R_slice h7
 obtain ⟨_, hc7, hC7⟩ := Kd.R_reads' h7
 have X7_0 := Lib.hid hC7
 clear h7 hC7
 have d7 := b7
 have X_16 := Lib.hid (Kd.C_below X_12.out d7)
 clear X_12
 have X_17 := Lib.hid (Kd.C_below X_13.out d7)
 clear X_13
 have X_18 := Lib.hid (Kd.C_below X6_0.out d7)
 clear X6_0
 have B19 := Lib.hid (B15.out.trans (d7.mono B15.out.size))
 clear d7 B15
 go_wp2_with fail
 go_at_call 57
 refine (tree_Cycles.calls 60 3 A7 c7 three16 none 0 [] [[-1, -1, 1]] 0 _ X7_0.out hc7 (Kd.C_nil _ _) (Nat.le_refl _) a16_cyc).mono ?_
 rintro e w8 ⟨v8, rfl, g8, b8⟩
 have h8 := Kd.S_R g8
 obtain ⟨A8, c8, rfl⟩ := Kd.R_slice h8
 obtain ⟨_, hc8, hC8⟩ := Kd.R_reads' h8
 have X8_0 := Lib.hid hC8
 clear g8 h8 hC8
 have d8 := b8
 have X_20 := Lib.hid (Kd.C_below X_16.out d8)
 clear X_16
 have X_21 := Lib.hid (Kd.C_below X_17.out d8)
 clear X_17
 have X_22 := Lib.hid (Kd.C_below X_18.out d8)
 clear X_18
 have X_23 := Lib.hid (Kd.C_below X7_0.out d8)
 clear X7_0
 have B24 := Lib.hid (B19.out.trans (d8.mono B19.out.size))
 clear d8 B19; clear X_23
 go_wp2_with fail
 go_at_call 63
 refine (ql16three.calls  3 three16 _  a16_three).mono ?_
 rintro e w9 ⟨v9, rfl, h9, b9⟩
 obtain ⟨A9, c9, rfl⟩ := Kd.R_slice h9
 obtain ⟨_, hc9, hC9⟩ := Kd.R_reads' h9
 have X9_0 := Lib.hid hC9
 clear h9 hC9
 have d9 := b9
 have X_25 := Lib.hid (Kd.C_below X_20.out d9)
 clear X_20
 have X_26 := Lib.hid (Kd.C_below X_21.out d9)
 clear X_21
 have X_27 := Lib.hid (Kd.C_below X_22.out d9)
 clear X_22
 have X_28 := Lib.hid (Kd.C_below X8_0.out d9)
 clear X8_0
 have B29 := Lib.hid (B24.out.trans (d9.mono B24.out.size))
 clear d9 B24
 go_wp2_with fail
 go_at_call 55
 refine (tree_Bridges.calls 60 3 A9 c9 three16 (some ⟨w9.heap.size, 0, none⟩) 1 [2] [0, 1] 0 _ (Kd.C_alloc X9_0.out _) hc9 (C_litS w9 (w9.heap.size) (by simp) [2] 3 (by decide)) (Nat.le_refl _) a16_br2).mono ?_
 rintro e w10 ⟨v10, rfl, h10, b10⟩
 obtain ⟨A10, c10, rfl⟩ := Kd.R_slice h10
 obtain ⟨_, hc10, hC10⟩ := Kd.R_reads' h10
 have X10_0 := Lib.hid hC10
 clear h10 hC10
 have d10 : Below w9.heap.size w9 w10 := (below_alloc (Below.refl w9.heap.size w9) _).trans (b10.mono (by simp <;> omega))
 have X_30 := Lib.hid (Kd.C_below X_25.out d10)
 clear X_25
 have X_31 := Lib.hid (Kd.C_below X_26.out d10)
 clear X_26
 have X_32 := Lib.hid (Kd.C_below X_27.out d10)
 clear X_27
 have X_33 := Lib.hid (Kd.C_below X_28.out d10)
 clear X_28
 have X_34 := Lib.hid (Kd.C_below X9_0.out d10)
 clear X9_0
 have B35 := Lib.hid (B29.out.trans (d10.mono B29.out.size))
 clear d10 B29; clear X_34
 go_wp2_with fail
 go_at_call 63
 refine (ql16three.calls  3 three16 _  a16_three).mono ?_
 rintro e w11 ⟨v11, rfl, h11, b11⟩
 obtain ⟨A11, c11, rfl⟩ := Kd.R_slice h11
 obtain ⟨_, hc11, hC11⟩ := Kd.R_reads' h11
 have X11_0 := Lib.hid hC11
 clear h11 hC11
 have d11 := b11
 have X_36 := Lib.hid (Kd.C_below X_30.out d11)
 clear X_30
 have X_37 := Lib.hid (Kd.C_below X_31.out d11)
 clear X_31
 have X_38 := Lib.hid (Kd.C_below X_32.out d11)
 clear X_32
 have X_39 := Lib.hid (Kd.C_below X_33.out d11)
 clear X_33
 have X_40 := Lib.hid (Kd.C_below X10_0.out d11)
 clear X10_0
 have B41 := Lib.hid (B35.out.trans (d11.mono B35.out.size))
 clear d11 B35
 go_wp2_with fail
 go_at_call 57
 refine (tree_Cycles.calls 60 3 A11 c11 three16 (some ⟨w11.heap.size, 0, none⟩) 1 [2] [] 0 _ (Kd.C_alloc X11_0.out _) hc11 (C_litS w11 (w11.heap.size) (by simp) [2] 3 (by decide)) (Nat.le_refl _) a16_cyc2).mono ?_
 rintro e w12 ⟨v12, rfl, g12, b12⟩
 have h12 := Kd.S_R g12
 obtain ⟨A12, c12, rfl⟩ := Kd.R_slice h12
 obtain ⟨_, hc12, hC12⟩ := Kd.R_reads' h12
 have X12_0 := Lib.hid hC12
 clear g12 h12 hC12
 have d12 : Below w11.heap.size w11 w12 := (below_alloc (Below.refl w11.heap.size w11) _).trans (b12.mono (by simp <;> omega))
 have X_42 := Lib.hid (Kd.C_below X_36.out d12)
 clear X_36
 have X_43 := Lib.hid (Kd.C_below X_37.out d12)
 clear X_37
 have X_44 := Lib.hid (Kd.C_below X_38.out d12)
 clear X_38
 have X_45 := Lib.hid (Kd.C_below X_39.out d12)
 clear X_39
 have X_46 := Lib.hid (Kd.C_below X_40.out d12)
 clear X_40
 have X_47 := Lib.hid (Kd.C_below X11_0.out d12)
 clear X11_0
 have B48 := Lib.hid (B41.out.trans (d12.mono B41.out.size))
 clear d12 B41; clear X_47
 go_wp2_with fail
 go_at_call 36
 refine (qr14Ints.calls 20 A2 c2 [0, 1] (some ⟨w12.heap.size, 0, none⟩) 2 [0, 1] true _ (Kd.C_alloc X_42.out _) hc2 (C_litS w12 (w12.heap.size) (by simp) [0, 1] 3 (by decide)) (Nat.le_refl _) a16_i1).mono ?_
 rintro e w' ⟨rfl, ⟨m, rfl⟩⟩
 have b13 : Below w12.heap.size w12 ((w12.alloc (.cells (([0, 1] : List Int).map (Value.int .i64)).toArray 3)).drewN m) := bN (below_alloc (Below.refl _ _) _) m
 generalize (w12.alloc (.cells (([0, 1] : List Int).map (Value.int .i64)).toArray 3)).drewN m = w13 at b13 ⊢
 have d13 := b13
 have X_49 := Lib.hid (Kd.C_below X_42.out d13)
 clear X_42
 have X_50 := Lib.hid (Kd.C_below X_43.out d13)
 clear X_43
 have X_51 := Lib.hid (Kd.C_below X_44.out d13)
 clear X_44
 have X_52 := Lib.hid (Kd.C_below X_45.out d13)
 clear X_45
 have X_53 := Lib.hid (Kd.C_below X_46.out d13)
 clear X_46
 have X_54 := Lib.hid (Kd.C_below X12_0.out d13)
 clear X12_0
 have B55 := Lib.hid (B48.out.trans (d13.mono B48.out.size))
 clear d13 B48; clear X_49
 go_wp2_with fail
 go_at_call 36
 refine (qr14Ints.calls 20 A6 c6 [-1, -1, 0] (some ⟨w13.heap.size, 0, none⟩) 3 [-1, -1, 0] true _ (Kd.C_alloc X_51.out _) hc6 (C_litS w13 (w13.heap.size) (by simp) [-1, -1, 0] 3 (by decide)) (Nat.le_refl _) a16_i2).mono ?_
 rintro e w' ⟨rfl, ⟨m, rfl⟩⟩
 have b14 : Below w13.heap.size w13 ((w13.alloc (.cells (([-1, -1, 0] : List Int).map (Value.int .i64)).toArray 3)).drewN m) := bN (below_alloc (Below.refl _ _) _) m
 generalize (w13.alloc (.cells (([-1, -1, 0] : List Int).map (Value.int .i64)).toArray 3)).drewN m = w14 at b14 ⊢
 have d14 := b14
 have X_56 := Lib.hid (Kd.C_below X_50.out d14)
 clear X_50
 have X_57 := Lib.hid (Kd.C_below X_51.out d14)
 clear X_51
 have X_58 := Lib.hid (Kd.C_below X_52.out d14)
 clear X_52
 have X_59 := Lib.hid (Kd.C_below X_53.out d14)
 clear X_53
 have X_60 := Lib.hid (Kd.C_below X_54.out d14)
 clear X_54
 have B61 := Lib.hid (B55.out.trans (d14.mono B55.out.size))
 clear d14 B55; clear X_57
 go_wp2_with fail
 go_at_call 44
 refine (qr15Rows.calls 20 A8 c8 [[-1, -1, 1]] (some ⟨w14.heap.size + 1, 0, none⟩) 1 [[-1, -1, 1]] true _ (Kd.C_alloc (Kd.C_alloc X_58.out _) _) hc8 (C_row1S w14 (w14.heap.size) (by simp) [-1, -1, 1] (by decide)) (Nat.le_refl _) a16_rows).mono ?_
 rintro e w' ⟨rfl, ⟨m, rfl⟩⟩
 have b15 : Below w14.heap.size w14 (((w14.alloc (.cells (([-1, -1, 1] : List Int).map (Value.int .i64)).toArray 3)).alloc (.cells #[.slice (some ⟨w14.heap.size, 0, none⟩) 3 3] 25)).drewN m) := bN (below_alloc (below_alloc (Below.refl _ _) _) _) m
 generalize ((w14.alloc (.cells (([-1, -1, 1] : List Int).map (Value.int .i64)).toArray 3)).alloc (.cells #[.slice (some ⟨w14.heap.size, 0, none⟩) 3 3] 25)).drewN m = w15 at b15 ⊢
 have d15 := b15
 have X_62 := Lib.hid (Kd.C_below X_56.out d15)
 clear X_56
 have X_63 := Lib.hid (Kd.C_below X_58.out d15)
 clear X_58
 have X_64 := Lib.hid (Kd.C_below X_59.out d15)
 clear X_59
 have X_65 := Lib.hid (Kd.C_below X_60.out d15)
 clear X_60
 have B66 := Lib.hid (B61.out.trans (d15.mono B61.out.size))
 clear d15 B61; clear X_63
 go_wp2_with fail
 go_at_call 36
 refine (qr14Ints.calls 20 A10 c10 [0, 1] (some ⟨w15.heap.size, 0, none⟩) 2 [0, 1] true _ (Kd.C_alloc X_64.out _) hc10 (C_litS w15 (w15.heap.size) (by simp) [0, 1] 3 (by decide)) (Nat.le_refl _) a16_i1).mono ?_
 rintro e w' ⟨rfl, ⟨m, rfl⟩⟩
 have b16 : Below w15.heap.size w15 ((w15.alloc (.cells (([0, 1] : List Int).map (Value.int .i64)).toArray 3)).drewN m) := bN (below_alloc (Below.refl _ _) _) m
 generalize (w15.alloc (.cells (([0, 1] : List Int).map (Value.int .i64)).toArray 3)).drewN m = w16 at b16 ⊢
 have d16 := b16
 have X_67 := Lib.hid (Kd.C_below X_62.out d16)
 clear X_62
 have X_68 := Lib.hid (Kd.C_below X_64.out d16)
 clear X_64
 have X_69 := Lib.hid (Kd.C_below X_65.out d16)
 clear X_65
 have B70 := Lib.hid (B66.out.trans (d16.mono B66.out.size))
 clear d16 B66; clear X_68
 go_wp2_with fail
 go_ret
 exact ⟨rfl, B70.out⟩
/-- A row of ints that may be written, in a block of S. -/
def RowOk (S : Nat → Prop) (w : World) (v : Value) : Prop := ∃ (A : Option Addr) (n c : Nat), v = .slice A n c ∧ n ≤ 9223372036854775807 ∧ ∀ j, j < n → ∃ (g : Nat) (z : Int), A = some ⟨g, 0, none⟩ ∧ S g ∧ w.cell? ⟨g, j, none⟩ = some (.int .i64 z) ∧ w.frozen? ⟨g, j, none⟩ = false
theorem RowOk.set {S : Nat → Prop} {w : World} {v : Value} (h : RowOk S w v) (g j : Nat) (x : Int) : RowOk S (w.setCell ⟨g, j, none⟩ (.int .i64 x)) v := by
  obtain ⟨A, n, c, rfl, hn, hc⟩ := h
  refine ⟨A, n, c, rfl, hn, fun i hi => ?_⟩
  obtain ⟨g', z, hA, hS, h1, h2⟩ := hc i hi
  by_cases he : (⟨g, j, none⟩ : Addr) = ⟨g', i, none⟩
  · refine ⟨g', x, hA, hS, ?_, by rw [World.frozen?_setCell]; exact h2⟩
    rw [he]; exact World.cell?_setCell_same _ _ _ h1
  · refine ⟨g', z, hA, hS, ?_, by rw [World.frozen?_setCell]; exact h2⟩
    rw [World.cell?_setCell_other _ _ _ _ he]; exact h1
theorem RowOk.mono {S S' : Nat → Prop} {w : World} {v : Value} (h : RowOk S w v) (hs : ∀ k, S k → S' k) : RowOk S' w v := by
  obtain ⟨A, n, c, rfl, hn, hc⟩ := h
  refine ⟨A, n, c, rfl, hn, fun i hi => ?_⟩
  obtain ⟨g', z, hA, hS, h1, h2⟩ := hc i hi
  exact ⟨g', z, hA, hs _ hS, h1, h2⟩
theorem RowOk.below {S : Nat → Prop} {w w' : World} {v : Value} (h : RowOk S w v) (hb : Below w.heap.size w w') : RowOk S w' v := by
  obtain ⟨A, n, c, rfl, hn, hc⟩ := h
  refine ⟨A, n, c, rfl, hn, fun i hi => ?_⟩
  obtain ⟨g', z, hA, hS, h1, h2⟩ := hc i hi
  have hlt := World.block_lt_of_cell? w _ h1
  exact ⟨g', z, hA, hS, by rw [hb.cell hlt]; exact h1, by rw [hb.frozen hlt]; exact h2⟩
theorem RowOk.of_R {w : World} {base : Nat} {ok : Nat → Prop} {v : Value} {xs : List Int} (h : Kd.R (Kd.int .i64) 3 w base ok v xs) : RowOk (fun k => some k = v.ownBlock) w v := by
  by_cases hp : 0 < xs.length
  · obtain ⟨g, cap, rfl, hb, hg, cells, hc⟩ := Kd.R_form h hp
    have hC := (Kd.R_reads' h).2.2
    refine ⟨some ⟨g, 0, none⟩, xs.length, cap, rfl, ?_, fun j hj => ?_⟩
    · have := Kd.C_max hC; omega
    · obtain ⟨h1, h2⟩ := Kd.R_celln 0 h (j : Int) (by omega) (by omega)
      rw [Int.toNat_natCast] at h1 h2
      exact ⟨g, _, rfl, rfl, h1, h2⟩
  · obtain ⟨A, c, rfl⟩ := Kd.R_slice h
    exact ⟨A, xs.length, c, rfl, by omega, fun j hj => absurd hj (by omega)⟩
/-- What a call that writes only in S leaves. -/
def SpoilKept (S : Nat → Prop) (w w' : World) : Prop := Kept w w' S ∧ Below 0 w w'
theorem SpoilKept.refl (S : Nat → Prop) (w : World) : SpoilKept S w w := ⟨Kept.refl _ _, Below.refl _ _⟩
theorem SpoilKept.set {S : Nat → Prop} {w w' : World} (h : SpoilKept S w w') {g : Nat} (hg : S g) (j : Nat) (u : Value) : SpoilKept S w (w'.setCell ⟨g, j, none⟩ u) := ⟨h.1.setCell (.inl hg) u, h.2.setCell (Nat.zero_le _) u⟩
theorem SpoilKept.below {S : Nat → Prop} {w0 w w' : World} {B : Nat} (h : SpoilKept S w w') (hb : Below B w0 w) (hB : B ≤ w.heap.size) (hs : ∀ k, S k → B ≤ k) : Below B w0 w' := by
  refine hb.trans ⟨h.2.os, h.2.tape, h.2.output, h.2.size, fun k hk => ?_⟩
  exact h.1.2 k (Nat.lt_of_lt_of_le hk hB) (fun hS => by have := hs k hS; omega)
/-- The rows of a literal, or of a result, that a call may overwrite. -/
structure RowsOk (S : Nat → Prop) (w : World) (A : Option Addr) (vs : List Value) : Prop where
  no : 0 < vs.length → ∃ G : Nat, A = some ⟨G, 0, none⟩ ∧ ¬ S G
  at_ : ∀ G i, (h : i < vs.length) → A = some ⟨G, 0, none⟩ → w.cell? ⟨G, i, none⟩ = some vs[i]
  ok : ∀ v ∈ vs, RowOk S w v
theorem RowsOk.set {S : Nat → Prop} {w : World} {A : Option Addr} {vs : List Value} (h : RowsOk S w A vs) {g : Nat} (hg : S g) (j : Nat) (x : Int) : RowsOk S (w.setCell ⟨g, j, none⟩ (.int .i64 x)) A vs := by
  refine ⟨h.no, fun G i hi hA => ?_, fun v hv => (h.ok v hv).set g j x⟩
  rw [World.cell?_setCell_other]
  · exact h.at_ G i hi hA
  · intro e
    have e2 : g = G := congrArg Addr.block e
    obtain ⟨G', hA', hn⟩ := h.no (by omega)
    rw [hA] at hA'
    have e3 : G = G' := by injection hA' with e; injection e
    exact hn (e3 ▸ e2 ▸ hg)
theorem RowsOk.below {S : Nat → Prop} {w w' : World} {A : Option Addr} {vs : List Value} (h : RowsOk S w A vs) (hb : Below w.heap.size w w') : RowsOk S w' A vs := by
  refine ⟨h.no, fun G i hi hA => ?_, fun v hv => (h.ok v hv).below hb⟩
  have h1 := h.at_ G i hi hA
  rw [hb.cell (World.block_lt_of_cell? w _ h1)]; exact h1
theorem RowOk.kept {S S1 : Nat → Prop} {w w' : World} {v : Value} (h : RowOk S w v) (hk : SpoilKept S1 w w') (hs : ∀ k, S k → ¬ S1 k) : RowOk S w' v := by
  obtain ⟨A, n, c, rfl, hn, hc⟩ := h
  refine ⟨A, n, c, rfl, hn, fun i hi => ?_⟩
  obtain ⟨g', z, hA, hS, h1, h2⟩ := hc i hi
  have hlt := World.block_lt_of_cell? w _ h1
  have hb := hk.1.2 g' hlt (hs _ hS)
  exact ⟨g', z, hA, hS, by rw [World.cell?_of_block (w := w) hb]; exact h1, by rw [World.frozen?_of_block (w := w) hb]; exact h2⟩
theorem RowsOk.kept {S S1 : Nat → Prop} {w w' : World} {A : Option Addr} {vs : List Value} (h : RowsOk S w A vs) (hk : SpoilKept S1 w w') (hs : ∀ k, S k → ¬ S1 k) (hA1 : ∀ G, A = some ⟨G, 0, none⟩ → ¬ S1 G) : RowsOk S w' A vs := by
  refine ⟨h.no, fun G i hi hA => ?_, fun v hv => (h.ok v hv).kept hk hs⟩
  have h1 := h.at_ G i hi hA
  have hb := hk.1.2 G (World.block_lt_of_cell? w _ h1) (hA1 G hA)
  rw [World.cell?_of_block (w := w) hb]; exact h1
section
variable {P : Program} {ops : Array Oper} {rest : List Oper} {o : Oper} {a : Act} {Q : Exit → Act → World → Prop}
theorem rows_event {W : World} (hgd : o.guard = none) {N : Tmp} (_hd : o.dst = some N) {n : Nat} {inner : List Value} {e : TypeId}
    (hrun : (execOp a.eval o).run P W = .ok (.value (.slice (some ⟨W.heap.size, 0, none⟩) n n)) (W.alloc (.cells inner.toArray e (0, 0))))
    (h : ∀ g, g = W.heap.size → ∀ w1, w1.heap[g]? = some (.cells inner.toArray e (0, 0)) → Below W.heap.size W w1 → wpList P ops Q rest (a.put o.dst (.slice (some ⟨g, 0, none⟩) n n)) w1) : wpList P ops Q (o :: rest) a W :=
  Kd.event_run hgd hrun (h _ rfl _ (blk_new W _) (below_alloc (Below.refl _ _) _))
end
theorem rows_lit {S : Nat → Prop} {w : World} {g : Nat} {vs : List Value} {e : TypeId} (hg : w.heap[g]? = some (.cells vs.toArray e (0, 0))) (hn : ¬ S g) (hok : ∀ v ∈ vs, RowOk S w v) : RowsOk S w (some ⟨g, 0, none⟩) vs := by
  refine ⟨fun _ => ⟨g, rfl, hn⟩, fun G i hi hA => ?_, hok⟩
  have e3 : g = G := by injection hA with e; injection e
  subst e3
  rw [kC hg i]; simp [hi]
def ql16spoil.f (l0 : List (List Int)) : Option (Unit) := some ()
set_option maxRecDepth 100000 in
set_option maxHeartbeats 4000000 in
theorem ql16spoil.real (S : Nat → Prop) (A0 : Option Addr) (vs : List Value) (c : Nat) (w : World) (hl : vs.length ≤ 9223372036854775807) (h : RowsOk S w A0 vs) :
  Calls Try.prog 58 #[.slice A0 vs.length c] w fun e w' => e = .returned (.tuple #[]) ∧ SpoilKept S w w' := by
 have H := Lib.hid h
 have HL := Lib.hid hl
 clear h hl
 go_enter Try.func58, Try.ntmps58
 go_wp2_with fail
 go_loopg [2] vs.length (fun kq v2 wr => ∃ i : Nat, i ≤ vs.length ∧ v2 = .int .i64 (i : Int) ∧ Hid (kq = vs.length - i) ∧ Hid (RowsOk S wr A0 vs ∧ SpoilKept S w wr))
 case atStart => exact ⟨0, Nat.zero_le _, rfl, rfl, H.out, SpoilKept.refl _ _⟩
 case round =>
  obtain ⟨i, hi, rfl, HK, HR⟩ := hrel
  have hL := HL.out
  by_cases hlt : i < vs.length
  ·have q2 : decide ((i : Int) < (vs.length : Int)) = true := decide_eq_true (by omega)
   have q3 : decide (0 ≤ (i : Int)) = true := decide_eq_true (by omega)
   have i1 : (0 ≤ (i : Int)) = True := eq_true (by omega)
   have i2 : ((i : Int) < (vs.length : Int)) = True := eq_true (by omega)
   obtain ⟨G, hA0, _⟩ := HR.out.1.no (by omega)
   subst hA0
   have hcell0 := HR.out.1.at_ G i hlt rfl
   obtain ⟨A, n, c', hv, hn, hc⟩ := HR.out.1.ok _ (List.getElem_mem hlt)
   have HC := Lib.hid hc
   rw [hv] at hcell0
   have HV := Lib.hid hv
   clear hc hv
   go_wp2_with fail
   go_loopg [3] n (fun kq v3 w2 => ∃ j : Nat, j ≤ n ∧ v3 = .int .i64 (j : Int) ∧ Hid (kq = n - j) ∧ Hid (RowsOk S w2 (some ⟨G, 0, none⟩) vs ∧ SpoilKept S w w2))
   case atStart => exact ⟨0, Nat.zero_le _, rfl, rfl, HR.out⟩
   case round =>
    obtain ⟨j, hj, rfl, HK2, HR2⟩ := hrel
    have hcell := HR2.out.1.at_ G i hlt rfl
    rw [HV.out] at hcell
    by_cases hjt : j < n
    ·have q4 : decide ((j : Int) < (n : Int)) = true := decide_eq_true (by omega)
     have i3 : (0 ≤ (j : Int)) = True := eq_true (by omega)
     have i4 : ((j : Int) < (n : Int)) = True := eq_true (by omega)
     have hrow := HR2.out.1.ok _ (List.getElem_mem hlt)
     rw [HV.out] at hrow
     obtain ⟨A2, n2, c2, hv2, _, hc2⟩ := hrow
     injection hv2 with e1 e2 e3
     subst e1 e2 e3
     obtain ⟨g, z, hA, hS, hx, hf⟩ := hc2 j hjt
     have HS := Lib.hid hS
     subst hA
     clear hc2 hS
     go_wp2_with fail
     go_roundg (n - (j + 1))
     case measure => have := HK2.out; omega
     case rel => exact ⟨j + 1, by omega, rfl, rfl, HR2.out.1.set HS.out j _, HR2.out.2.set HS.out j _⟩
    ·have q4 : decide ((j : Int) < (n : Int)) = false := decide_eq_false (by omega)
     go_wp2_with fail
     go_roundg (vs.length - (i + 1))
     case measure => have := HK.out; omega
     case rel => exact ⟨i + 1, by omega, rfl, rfl, HR2.out⟩
  ·have q2 : decide ((i : Int) < (vs.length : Int)) = false := decide_eq_false (by omega)
   go_wp2_with fail
   exact ⟨rfl, .tuple #[], by simp [results, Try.f58, go_sem], rfl, HR.out.2⟩
mutual
def qr14Check.j0 : Nat → Bool → Int → List (S37) → Option (Int)
 | 0, _, _, _ => none
 | k + 1, x12, x233000, x233001 => if x12 = true then (some 1) else (if (x233001.length : Int) > 10 then (some 5) else (qr14Check.l0 k 0 x233000 x233001))
def qr14Check.l0 : Nat → Int → Int → List (S37) → Option (Int)
 | 0, _, _, _ => none
 | k + 1, x3, x233000, x233001 => if x3 < (x233001.length : Int) then (if 0 ≤ x3 then (if ((rd_T37 x233001 x3).f0) < 0 then (some 1) else (if ((rd_T37 x233001 x3).f0) ≥ x233000 then (some 1) else (if ((rd_T37 x233001 x3).f1) < 0 then (some 1) else (if ((rd_T37 x233001 x3).f1) ≥ x233000 then (some 1) else (if ((rd_T37 x233001 x3).f0) = ((rd_T37 x233001 x3).f1) then (some 1) else (if ((rd_T37 x233001 x3).f2) < 1 then (some 1) else (if ((rd_T37 x233001 x3).f2) > 1000 then (some 1) else (if ((rd_T37 x233001 x3).f3) < 0 then (some 1) else (if ((rd_T37 x233001 x3).f3) > 1000000 then (some 1) else (qr14Check.l0 k (wrap64 (x3 + 1)) x233000 x233001)))))))))) else (none)) else (some 0)
end
def qr14Check.f (k : Nat) (a0_0 : Int) (l0_1 : List (S37)) : Option (Int) := if a0_0 < 1 then (qr14Check.j0 k true a0_0 l0_1) else (qr14Check.j0 k (decide (a0_0 > 6)) a0_0 l0_1)
set_option maxHeartbeats 8000000 in
set_option maxRecDepth 100000 in
theorem qr14Check.calls (k : Nat) (a0_0 : Int) (A0_1 : Option Addr) (c0_1 : Nat) (l0_1 : List (S37)) (r : Int) (w : World) (hr0_1 : Kd.C k37 w A0_1 l0_1.length l0_1) (hc0_1 : l0_1.length ≤ c0_1) (h : qr14Check.f k a0_0 l0_1 = some r) :
  Calls Try.prog 70 #[.agg #[.int .i64 a0_0, .slice A0_1 l0_1.length c0_1]] w fun e w' => e = .returned (.int .i64 r) ∧ Below w.heap.size w w' := by
 have hu24 := Try.underlying24
 have hu37 := Try.underlying37
 have HR0_1 := Z0.mk hr0_1
 have HC0_1 := Z0.mk hc0_1
 clear hr0_1 hc0_1
 have HB := Z0.mk (Below.refl w.heap.size w)
 have H : (if a0_0 < 1 then (qr14Check.j0 k true a0_0 l0_1) else (qr14Check.j0 k (decide (a0_0 > 6)) a0_0 l0_1)) = some r := h
 clear h
 have HC2 := Z0.mk H
 clear H
 go_enter Try.func70, Try.ntmps70
 go_upto_region 1 with (first | ((with_reducible refine gate_dst (N := 1) rfl ?_); refine bE ?hg (N := 1) ?hd (cs := #[.int .i64 a0_0, .slice A0_1 l0_1.length c0_1]) (t := 24) ?hr ?_; (case hd => rfl); (case hg => rfl); (case hr => first | (go_simp; done) | (go_simp; rfl)); intro gb232 hg w3 hbox hb; have n0_ := Z0.mk (bT (by repeat (first | (with_reducible first | exact HB.out | apply below_alloc | apply bN | apply bD) | exact HB.out)) hb); have n1_ := Z0.mk (hbox); have n2_ := Z0.mk ((by rw [hg]; exact (bZ (by repeat (first | (with_reducible first | exact HB.out | apply below_alloc | apply bN | apply bD) | exact HB.out))) : w.heap.size ≤ gb232)); have n3_ := Z0.mk ((by rw [hg]; exact (bZ (by repeat (first | (with_reducible first | exact HB.out | apply below_alloc | apply bN | apply bD) | exact HB.out))) : w.heap.size ≤ gb232)); clear HB; have HB := n0_; have BK232 := n1_; have GW232 := n2_; have GE232 := n3_; clear n0_ n1_ n2_ n3_; clear hb hbox hg))
 (try simp only [Act.put, List.setIfInBounds_toArray, List.set_cons_zero, List.set_cons_succ])
 go_cut [12] (fun v12 wc => ∃ (kq : Nat) (x12_1 : Bool), v12 = .bool x12_1 ∧ Z0 (qr14Check.j0 kq x12_1 a0_0 l0_1 = some r) ∧ Z0 (kq ≤ k) ∧ Z0 (wc.heap[gb232]? = some (.cells #[.int .i64 a0_0, (.slice A0_1 l0_1.length c0_1)] 24 (0, 0))) ∧ Z0 (Below w.heap.size w wc))
 case first =>
  have H := HC2.out
  clear HC2
  by_cases c4 : a0_0 < 1
  ·rw [if_pos c4] at H
   have c4b0 : decide (a0_0 < 1) = true := decide_eq_true c4
   clear c4
   (first | rw [c4b0] | (simp only [i64_w, i32_w]; rw [c4b0]) | skip)
   have H' := Z0.mk H
   clear H
   have hcz5_0 : w3.cell? ⟨gb232, 0, none⟩ = some (.int .i64 a0_0) := (kC BK232.out 0).trans rfl
   have hcz5_1 : w3.cell? ⟨gb232, 1, none⟩ = some (.slice A0_1 l0_1.length c0_1) := (kC BK232.out 1).trans rfl
   have hfz5_0 := kF BK232.out 0
   have hfz5_1 := kF BK232.out 1
   go_wp2
   go_meet
   case rel => exact ⟨_, (true), (by first | rfl | (simp; done) | (simp [*]; done)), H', ⟨by first | omega | exact Nat.le_refl _⟩, ⟨by (with_reducible repeat (first | refine kN ?_ _ | refine kD ?_ | refine kA ?_ _)); exact BK232.out⟩, ⟨by repeat (first | (with_reducible first | exact HB.out | apply below_alloc | apply bN | apply bD | refine bS ?_ GE232.out) | exact HB.out)⟩⟩
  ·rw [if_neg c4] at H
   have c4b0 : decide (a0_0 < 1) = false := decide_eq_false c4
   clear c4
   (first | rw [c4b0] | (simp only [i64_w, i32_w]; rw [c4b0]) | skip)
   have H' := Z0.mk H
   clear H
   have hcz6_0 : w3.cell? ⟨gb232, 0, none⟩ = some (.int .i64 a0_0) := (kC BK232.out 0).trans rfl
   have hcz6_1 : w3.cell? ⟨gb232, 1, none⟩ = some (.slice A0_1 l0_1.length c0_1) := (kC BK232.out 1).trans rfl
   have hfz6_0 := kF BK232.out 0
   have hfz6_1 := kF BK232.out 1
   go_wp2
   go_meet
   case rel => exact ⟨_, (decide (a0_0 > 6)), (by first | rfl | (simp; done) | (simp [*]; done)), H', ⟨by first | omega | exact Nat.le_refl _⟩, ⟨by (with_reducible repeat (first | refine kN ?_ _ | refine kD ?_ | refine kA ?_ _)); exact BK232.out⟩, ⟨by repeat (first | (with_reducible first | exact HB.out | apply below_alloc | apply bN | apply bD | refine bS ?_ GE232.out) | exact HB.out)⟩⟩
 case rest =>
  clear HC2; (try clear p2); (try clear c4); (try clear c4b0); (try clear hcz5_0); (try clear hcz5_1); (try clear hcz6_0); (try clear hcz6_1); (try clear hfz5_0); (try clear hfz5_1); (try clear hfz6_0); (try clear hfz6_1)
  obtain ⟨kq, x12_1, rfl, HA, HJ1, BK232, HB⟩ := hcut
  cases kq with
  | zero => exact absurd HA.out (by simp [qr14Check.j0])
  | succ kj1 =>
   have H := HA.out
   clear HA
   simp only [qr14Check.j0] at H
   by_cases c7 : x12_1 = true
   ·subst c7
    have H1 : (some 1) = some r := by rw [if_pos rfl] at H; exact H
    clear H
    have H := H1
    clear H1
    obtain rfl := Option.some.inj H
    go_wp2
    go_ret
    exact ⟨by first | rfl | (simp [errW_none, errW_some] <;> rfl) | (simp [*, errW_none, errW_some] <;> rfl), by repeat (first | (with_reducible first | exact HB.out | apply below_alloc | apply bN | apply bD | refine bS ?_ GE232.out) | exact HB.out)⟩
   ·replace c7 := Bool.eq_false_iff.mpr c7
    subst c7
    have H1 : (if (l0_1.length : Int) > 10 then (some 5) else (qr14Check.l0 kj1 0 a0_0 l0_1)) = some r := by rw [if_neg (show ¬ (false = true) by decide)] at H; exact H
    clear H
    have H := H1
    clear H1
    by_cases c8 : (l0_1.length : Int) > 10
    ·rw [if_pos c8] at H
     have c8b0 : decide (10 < (l0_1.length : Int)) = true := decide_eq_true c8
     have c8b1 : decide (10 < l0_1.length) = true := decide_eq_true (by omega)
     clear c8
     obtain rfl := Option.some.inj H
     have hcz9_0 : wc.cell? ⟨gb232, 0, none⟩ = some (.int .i64 a0_0) := (kC BK232.out 0).trans rfl
     have hcz9_1 : wc.cell? ⟨gb232, 1, none⟩ = some (.slice A0_1 l0_1.length c0_1) := (kC BK232.out 1).trans rfl
     have hfz9_0 := kF BK232.out 0
     have hfz9_1 := kF BK232.out 1
     go_wp2
     go_ret
     exact ⟨by first | rfl | (simp [errW_none, errW_some] <;> rfl) | (simp [*, errW_none, errW_some] <;> rfl), by repeat (first | (with_reducible first | exact HB.out | apply below_alloc | apply bN | apply bD | refine bS ?_ GE232.out) | exact HB.out)⟩
    ·rw [if_neg c8] at H
     have c8b0 : decide (10 < (l0_1.length : Int)) = false := decide_eq_false c8
     have c8b1 : decide (10 < l0_1.length) = false := decide_eq_false (by omega)
     clear c8
     have H' := Z0.mk H
     clear H
     have hcz10_0 : wc.cell? ⟨gb232, 0, none⟩ = some (.int .i64 a0_0) := (kC BK232.out 0).trans rfl
     have hcz10_1 : wc.cell? ⟨gb232, 1, none⟩ = some (.slice A0_1 l0_1.length c0_1) := (kC BK232.out 1).trans rfl
     have hfz10_0 := kF BK232.out 0
     have hfz10_1 := kF BK232.out 1
     go_wp2
     go_loopg [3] kj1 (fun kq v3 w' => ∃ (x3_2 : Int), v3 = .int .i64 x3_2 ∧ Z0 (qr14Check.l0 kq x3_2 a0_0 l0_1 = some r) ∧ Z0 (kq ≤ kj1) ∧ Z0 (w'.heap[gb232]? = some (.cells #[.int .i64 a0_0, (.slice A0_1 l0_1.length c0_1)] 24 (0, 0))) ∧ Z0 (Below w.heap.size w w'))
     case atStart => exact ⟨(0), (by first | rfl | (simp; done) | (simp [*]; done)), H', ⟨Nat.le_refl _⟩, ⟨by (with_reducible repeat (first | refine kN ?_ _ | refine kD ?_ | refine kA ?_ _)); exact BK232.out⟩, ⟨by repeat (first | (with_reducible first | exact HB.out | apply below_alloc | apply bN | apply bD | refine bS ?_ GE232.out) | exact HB.out)⟩⟩
     case round =>
      clear H'; (try clear p2); (try clear c4); (try clear c4b0); (try clear c7); (try clear c8); (try clear c8b0); (try clear c8b1); (try clear hcz10_0); (try clear hcz10_1); (try clear hcz5_0); (try clear hcz5_1); (try clear hcz6_0); (try clear hcz6_1); (try clear hcz9_0); (try clear hcz9_1); (try clear hfz10_0); (try clear hfz10_1); (try clear hfz5_0); (try clear hfz5_1); (try clear hfz6_0); (try clear hfz6_1); (try clear hfz9_0); (try clear hfz9_1); (try clear p2)
      obtain ⟨x3_2, rfl, HA, HK2, BK232, HB⟩ := hrel
      cases gk with
      | zero => exact absurd HA.out (by simp [qr14Check.l0])
      | succ k2 =>
       have H := HA.out
       clear HA
       simp only [qr14Check.l0] at H
       by_cases c11 : x3_2 < (l0_1.length : Int)
       ·rw [if_pos c11] at H
        have c11b0 : decide (x3_2 < (l0_1.length : Int)) = true := decide_eq_true c11
        clear c11
        by_cases c12 : 0 ≤ x3_2
        ·rw [if_pos c12] at H
         have c12b0 : decide (0 ≤ x3_2) = true := decide_eq_true c12
         clear c12
         by_cases c13 : ((rd_T37 l0_1 x3_2).f0) < 0
         ·rw [if_pos c13] at H
          have c13b0 : decide (((rd_T37 l0_1 x3_2).f0) < 0) = true := decide_eq_true c13
          clear c13
          obtain rfl := Option.some.inj H
          have hcz14_0 : wr.cell? ⟨gb232, 0, none⟩ = some (.int .i64 a0_0) := (kC BK232.out 0).trans rfl
          have hcz14_1 : wr.cell? ⟨gb232, 1, none⟩ = some (.slice A0_1 l0_1.length c0_1) := (kC BK232.out 1).trans rfl
          have hfz14_0 := kF BK232.out 0
          have hfz14_1 := kF BK232.out 1
          have p233 : 0 ≤ (x3_2 : Int) := of_decide_eq_true (by first | (with_reducible assumption) | assumption)
          have q233 : x3_2 < (l0_1.length : Int) := of_decide_eq_true (by first | (with_reducible assumption) | assumption)
          obtain ⟨ad233, e233, hx233_0, hx233_1, hx233_2, hx233_3⟩ := at_T37 HR0_1.out x3_2 p233 q233
          cases e233
          replace hx233_0 := (HB.out.cell (World.block_lt_of_cell? w _ hx233_0)).trans hx233_0
          replace hx233_1 := (HB.out.cell (World.block_lt_of_cell? w _ hx233_1)).trans hx233_1
          replace hx233_2 := (HB.out.cell (World.block_lt_of_cell? w _ hx233_2)).trans hx233_2
          replace hx233_3 := (HB.out.cell (World.block_lt_of_cell? w _ hx233_3)).trans hx233_3
          replace p233 := eq_true p233
          replace q233 := eq_true q233
          go_wp2_with (first | ((with_reducible refine gate_dst (N := 4) rfl ?_); refine bE ?hg (N := 4) ?hd (cs := #[.int .i64 0, .int .i64 0, .int .i64 0, .int .i64 0]) (t := 37) ?hr ?_; (case hd => rfl); (case hg => rfl); (case hr => first | (go_simp; done) | (go_simp; rfl)); intro gb234 hg w15 hbox hb; have n0_ := Z0.mk (kB (g := gb232) (o := .cells #[.int .i64 a0_0, .slice (some ad233) l0_1.length c0_1] 24 (0, 0)) (by (with_reducible repeat (first | refine kN ?_ _ | refine kD ?_ | refine kA ?_ _)); exact BK232.out) hb); have n1_ := Z0.mk (bT (by repeat (first | (with_reducible first | exact HB.out | apply below_alloc | apply bN | apply bD | refine bS ?_ GE232.out) | exact HB.out)) hb); have n2_ := Z0.mk (hbox); have n3_ := Z0.mk ((by rw [hg]; exact (bZ (by repeat (first | (with_reducible first | exact HB.out | apply below_alloc | apply bN | apply bD | refine bS ?_ GE232.out) | exact HB.out))) : w.heap.size ≤ gb234)); have n4_ := Z0.mk ((by rw [hg]; exact (bZ (by repeat (first | (with_reducible first | exact HB.out | apply below_alloc | apply bN | apply bD | refine bS ?_ GE232.out) | exact HB.out))) : w.heap.size ≤ gb234)); have n5_ := Z0.mk ((by rw [hg]; exact Nat.ne_of_lt (blk_lt (g := gb232) (o := .cells #[.int .i64 a0_0, .slice (some ad233) l0_1.length c0_1] 24 (0, 0)) (by (with_reducible repeat (first | refine kN ?_ _ | refine kD ?_ | refine kA ?_ _)); exact BK232.out)) : gb232 ≠ gb234)); have n6_ := Z0.mk ((by rw [hg]; exact Nat.ne_of_gt (blk_lt (g := gb232) (o := .cells #[.int .i64 a0_0, .slice (some ad233) l0_1.length c0_1] 24 (0, 0)) (by (with_reducible repeat (first | refine kN ?_ _ | refine kD ?_ | refine kA ?_ _)); exact BK232.out)) : gb234 ≠ gb232)); clear BK232; clear HB; have BK232 := n0_; have HB := n1_; have BK234 := n2_; have GW234 := n3_; have GE234 := n4_; have NB232_234 := n5_; have NB234_232 := n6_; clear n0_ n1_ n2_ n3_ n4_ n5_ n6_; clear hb hbox hg; have hnb16 := NB234_232.out; have hnc16 := NB232_234.out; have hcz17_0 : w15.cell? ⟨gb234, 0, none⟩ = some (.int .i64 0) := (kC BK234.out 0).trans rfl; have hcz17_1 : w15.cell? ⟨gb234, 1, none⟩ = some (.int .i64 0) := (kC BK234.out 1).trans rfl; have hcz17_2 : w15.cell? ⟨gb234, 2, none⟩ = some (.int .i64 0) := (kC BK234.out 2).trans rfl; have hcz17_3 : w15.cell? ⟨gb234, 3, none⟩ = some (.int .i64 0) := (kC BK234.out 3).trans rfl; have hfz17_0 := kF BK234.out 0; have hfz17_1 := kF BK234.out 1; have hfz17_2 := kF BK234.out 2; have hfz17_3 := kF BK234.out 3))
          go_ret
          exact ⟨by first | rfl | (simp [errW_none, errW_some] <;> rfl) | (simp [*, errW_none, errW_some] <;> rfl), by repeat (first | (with_reducible first | exact HB.out | apply below_alloc | apply bN | apply bD | refine bS ?_ GE232.out | refine bS ?_ GE234.out) | exact HB.out)⟩
         ·rw [if_neg c13] at H
          have c13b0 : decide (((rd_T37 l0_1 x3_2).f0) < 0) = false := decide_eq_false c13
          clear c13
          by_cases c18 : ((rd_T37 l0_1 x3_2).f0) ≥ a0_0
          ·rw [if_pos c18] at H
           have c18b0 : decide (a0_0 ≤ ((rd_T37 l0_1 x3_2).f0)) = true := decide_eq_true c18
           clear c18
           obtain rfl := Option.some.inj H
           have hcz19_0 : wr.cell? ⟨gb232, 0, none⟩ = some (.int .i64 a0_0) := (kC BK232.out 0).trans rfl
           have hcz19_1 : wr.cell? ⟨gb232, 1, none⟩ = some (.slice A0_1 l0_1.length c0_1) := (kC BK232.out 1).trans rfl
           have hfz19_0 := kF BK232.out 0
           have hfz19_1 := kF BK232.out 1
           have p233 : 0 ≤ (x3_2 : Int) := of_decide_eq_true (by first | (with_reducible assumption) | assumption)
           have q233 : x3_2 < (l0_1.length : Int) := of_decide_eq_true (by first | (with_reducible assumption) | assumption)
           obtain ⟨ad233, e233, hx233_0, hx233_1, hx233_2, hx233_3⟩ := at_T37 HR0_1.out x3_2 p233 q233
           cases e233
           replace hx233_0 := (HB.out.cell (World.block_lt_of_cell? w _ hx233_0)).trans hx233_0
           replace hx233_1 := (HB.out.cell (World.block_lt_of_cell? w _ hx233_1)).trans hx233_1
           replace hx233_2 := (HB.out.cell (World.block_lt_of_cell? w _ hx233_2)).trans hx233_2
           replace hx233_3 := (HB.out.cell (World.block_lt_of_cell? w _ hx233_3)).trans hx233_3
           replace p233 := eq_true p233
           replace q233 := eq_true q233
           go_wp2_with (first | ((with_reducible refine gate_dst (N := 4) rfl ?_); refine bE ?hg (N := 4) ?hd (cs := #[.int .i64 0, .int .i64 0, .int .i64 0, .int .i64 0]) (t := 37) ?hr ?_; (case hd => rfl); (case hg => rfl); (case hr => first | (go_simp; done) | (go_simp; rfl)); intro gb234 hg w20 hbox hb; have n0_ := Z0.mk (kB (g := gb232) (o := .cells #[.int .i64 a0_0, .slice (some ad233) l0_1.length c0_1] 24 (0, 0)) (by (with_reducible repeat (first | refine kN ?_ _ | refine kD ?_ | refine kA ?_ _)); exact BK232.out) hb); have n1_ := Z0.mk (bT (by repeat (first | (with_reducible first | exact HB.out | apply below_alloc | apply bN | apply bD | refine bS ?_ GE232.out) | exact HB.out)) hb); have n2_ := Z0.mk (hbox); have n3_ := Z0.mk ((by rw [hg]; exact (bZ (by repeat (first | (with_reducible first | exact HB.out | apply below_alloc | apply bN | apply bD | refine bS ?_ GE232.out) | exact HB.out))) : w.heap.size ≤ gb234)); have n4_ := Z0.mk ((by rw [hg]; exact (bZ (by repeat (first | (with_reducible first | exact HB.out | apply below_alloc | apply bN | apply bD | refine bS ?_ GE232.out) | exact HB.out))) : w.heap.size ≤ gb234)); have n5_ := Z0.mk ((by rw [hg]; exact Nat.ne_of_lt (blk_lt (g := gb232) (o := .cells #[.int .i64 a0_0, .slice (some ad233) l0_1.length c0_1] 24 (0, 0)) (by (with_reducible repeat (first | refine kN ?_ _ | refine kD ?_ | refine kA ?_ _)); exact BK232.out)) : gb232 ≠ gb234)); have n6_ := Z0.mk ((by rw [hg]; exact Nat.ne_of_gt (blk_lt (g := gb232) (o := .cells #[.int .i64 a0_0, .slice (some ad233) l0_1.length c0_1] 24 (0, 0)) (by (with_reducible repeat (first | refine kN ?_ _ | refine kD ?_ | refine kA ?_ _)); exact BK232.out)) : gb234 ≠ gb232)); clear BK232; clear HB; have BK232 := n0_; have HB := n1_; have BK234 := n2_; have GW234 := n3_; have GE234 := n4_; have NB232_234 := n5_; have NB234_232 := n6_; clear n0_ n1_ n2_ n3_ n4_ n5_ n6_; clear hb hbox hg; have hnb21 := NB234_232.out; have hnc21 := NB232_234.out; have hcz22_0 : w20.cell? ⟨gb234, 0, none⟩ = some (.int .i64 0) := (kC BK234.out 0).trans rfl; have hcz22_1 : w20.cell? ⟨gb234, 1, none⟩ = some (.int .i64 0) := (kC BK234.out 1).trans rfl; have hcz22_2 : w20.cell? ⟨gb234, 2, none⟩ = some (.int .i64 0) := (kC BK234.out 2).trans rfl; have hcz22_3 : w20.cell? ⟨gb234, 3, none⟩ = some (.int .i64 0) := (kC BK234.out 3).trans rfl; have hfz22_0 := kF BK234.out 0; have hfz22_1 := kF BK234.out 1; have hfz22_2 := kF BK234.out 2; have hfz22_3 := kF BK234.out 3; have hcz23_0 : w20.cell? ⟨gb232, 0, none⟩ = some (.int .i64 a0_0) := (kC BK232.out 0).trans rfl; have hcz23_1 : w20.cell? ⟨gb232, 1, none⟩ = some (.slice (some ad233) l0_1.length c0_1) := (kC BK232.out 1).trans rfl; have hfz23_0 := kF BK232.out 0; have hfz23_1 := kF BK232.out 1))
           go_ret
           exact ⟨by first | rfl | (simp [errW_none, errW_some] <;> rfl) | (simp [*, errW_none, errW_some] <;> rfl), by repeat (first | (with_reducible first | exact HB.out | apply below_alloc | apply bN | apply bD | refine bS ?_ GE232.out | refine bS ?_ GE234.out) | exact HB.out)⟩
          ·rw [if_neg c18] at H
           have c18b0 : decide (a0_0 ≤ ((rd_T37 l0_1 x3_2).f0)) = false := decide_eq_false c18
           clear c18
           by_cases c24 : ((rd_T37 l0_1 x3_2).f1) < 0
           ·rw [if_pos c24] at H
            have c24b0 : decide (((rd_T37 l0_1 x3_2).f1) < 0) = true := decide_eq_true c24
            clear c24
            obtain rfl := Option.some.inj H
            have hcz25_0 : wr.cell? ⟨gb232, 0, none⟩ = some (.int .i64 a0_0) := (kC BK232.out 0).trans rfl
            have hcz25_1 : wr.cell? ⟨gb232, 1, none⟩ = some (.slice A0_1 l0_1.length c0_1) := (kC BK232.out 1).trans rfl
            have hfz25_0 := kF BK232.out 0
            have hfz25_1 := kF BK232.out 1
            have p233 : 0 ≤ (x3_2 : Int) := of_decide_eq_true (by first | (with_reducible assumption) | assumption)
            have q233 : x3_2 < (l0_1.length : Int) := of_decide_eq_true (by first | (with_reducible assumption) | assumption)
            obtain ⟨ad233, e233, hx233_0, hx233_1, hx233_2, hx233_3⟩ := at_T37 HR0_1.out x3_2 p233 q233
            cases e233
            replace hx233_0 := (HB.out.cell (World.block_lt_of_cell? w _ hx233_0)).trans hx233_0
            replace hx233_1 := (HB.out.cell (World.block_lt_of_cell? w _ hx233_1)).trans hx233_1
            replace hx233_2 := (HB.out.cell (World.block_lt_of_cell? w _ hx233_2)).trans hx233_2
            replace hx233_3 := (HB.out.cell (World.block_lt_of_cell? w _ hx233_3)).trans hx233_3
            replace p233 := eq_true p233
            replace q233 := eq_true q233
            go_wp2_with (first | ((with_reducible refine gate_dst (N := 4) rfl ?_); refine bE ?hg (N := 4) ?hd (cs := #[.int .i64 0, .int .i64 0, .int .i64 0, .int .i64 0]) (t := 37) ?hr ?_; (case hd => rfl); (case hg => rfl); (case hr => first | (go_simp; done) | (go_simp; rfl)); intro gb234 hg w26 hbox hb; have n0_ := Z0.mk (kB (g := gb232) (o := .cells #[.int .i64 a0_0, .slice (some ad233) l0_1.length c0_1] 24 (0, 0)) (by (with_reducible repeat (first | refine kN ?_ _ | refine kD ?_ | refine kA ?_ _)); exact BK232.out) hb); have n1_ := Z0.mk (bT (by repeat (first | (with_reducible first | exact HB.out | apply below_alloc | apply bN | apply bD | refine bS ?_ GE232.out) | exact HB.out)) hb); have n2_ := Z0.mk (hbox); have n3_ := Z0.mk ((by rw [hg]; exact (bZ (by repeat (first | (with_reducible first | exact HB.out | apply below_alloc | apply bN | apply bD | refine bS ?_ GE232.out) | exact HB.out))) : w.heap.size ≤ gb234)); have n4_ := Z0.mk ((by rw [hg]; exact (bZ (by repeat (first | (with_reducible first | exact HB.out | apply below_alloc | apply bN | apply bD | refine bS ?_ GE232.out) | exact HB.out))) : w.heap.size ≤ gb234)); have n5_ := Z0.mk ((by rw [hg]; exact Nat.ne_of_lt (blk_lt (g := gb232) (o := .cells #[.int .i64 a0_0, .slice (some ad233) l0_1.length c0_1] 24 (0, 0)) (by (with_reducible repeat (first | refine kN ?_ _ | refine kD ?_ | refine kA ?_ _)); exact BK232.out)) : gb232 ≠ gb234)); have n6_ := Z0.mk ((by rw [hg]; exact Nat.ne_of_gt (blk_lt (g := gb232) (o := .cells #[.int .i64 a0_0, .slice (some ad233) l0_1.length c0_1] 24 (0, 0)) (by (with_reducible repeat (first | refine kN ?_ _ | refine kD ?_ | refine kA ?_ _)); exact BK232.out)) : gb234 ≠ gb232)); clear BK232; clear HB; have BK232 := n0_; have HB := n1_; have BK234 := n2_; have GW234 := n3_; have GE234 := n4_; have NB232_234 := n5_; have NB234_232 := n6_; clear n0_ n1_ n2_ n3_ n4_ n5_ n6_; clear hb hbox hg; have hnb27 := NB234_232.out; have hnc27 := NB232_234.out; have hcz28_0 : w26.cell? ⟨gb234, 0, none⟩ = some (.int .i64 0) := (kC BK234.out 0).trans rfl; have hcz28_1 : w26.cell? ⟨gb234, 1, none⟩ = some (.int .i64 0) := (kC BK234.out 1).trans rfl; have hcz28_2 : w26.cell? ⟨gb234, 2, none⟩ = some (.int .i64 0) := (kC BK234.out 2).trans rfl; have hcz28_3 : w26.cell? ⟨gb234, 3, none⟩ = some (.int .i64 0) := (kC BK234.out 3).trans rfl; have hfz28_0 := kF BK234.out 0; have hfz28_1 := kF BK234.out 1; have hfz28_2 := kF BK234.out 2; have hfz28_3 := kF BK234.out 3; have hcz29_0 : w26.cell? ⟨gb232, 0, none⟩ = some (.int .i64 a0_0) := (kC BK232.out 0).trans rfl; have hcz29_1 : w26.cell? ⟨gb232, 1, none⟩ = some (.slice (some ad233) l0_1.length c0_1) := (kC BK232.out 1).trans rfl; have hfz29_0 := kF BK232.out 0; have hfz29_1 := kF BK232.out 1))
            go_ret
            exact ⟨by first | rfl | (simp [errW_none, errW_some] <;> rfl) | (simp [*, errW_none, errW_some] <;> rfl), by repeat (first | (with_reducible first | exact HB.out | apply below_alloc | apply bN | apply bD | refine bS ?_ GE232.out | refine bS ?_ GE234.out) | exact HB.out)⟩
           ·rw [if_neg c24] at H
            have c24b0 : decide (((rd_T37 l0_1 x3_2).f1) < 0) = false := decide_eq_false c24
            clear c24
            by_cases c30 : ((rd_T37 l0_1 x3_2).f1) ≥ a0_0
            ·rw [if_pos c30] at H
             have c30b0 : decide (a0_0 ≤ ((rd_T37 l0_1 x3_2).f1)) = true := decide_eq_true c30
             clear c30
             obtain rfl := Option.some.inj H
             have hcz31_0 : wr.cell? ⟨gb232, 0, none⟩ = some (.int .i64 a0_0) := (kC BK232.out 0).trans rfl
             have hcz31_1 : wr.cell? ⟨gb232, 1, none⟩ = some (.slice A0_1 l0_1.length c0_1) := (kC BK232.out 1).trans rfl
             have hfz31_0 := kF BK232.out 0
             have hfz31_1 := kF BK232.out 1
             have p233 : 0 ≤ (x3_2 : Int) := of_decide_eq_true (by first | (with_reducible assumption) | assumption)
             have q233 : x3_2 < (l0_1.length : Int) := of_decide_eq_true (by first | (with_reducible assumption) | assumption)
             obtain ⟨ad233, e233, hx233_0, hx233_1, hx233_2, hx233_3⟩ := at_T37 HR0_1.out x3_2 p233 q233
             cases e233
             replace hx233_0 := (HB.out.cell (World.block_lt_of_cell? w _ hx233_0)).trans hx233_0
             replace hx233_1 := (HB.out.cell (World.block_lt_of_cell? w _ hx233_1)).trans hx233_1
             replace hx233_2 := (HB.out.cell (World.block_lt_of_cell? w _ hx233_2)).trans hx233_2
             replace hx233_3 := (HB.out.cell (World.block_lt_of_cell? w _ hx233_3)).trans hx233_3
             replace p233 := eq_true p233
             replace q233 := eq_true q233
             go_wp2_with (first | ((with_reducible refine gate_dst (N := 4) rfl ?_); refine bE ?hg (N := 4) ?hd (cs := #[.int .i64 0, .int .i64 0, .int .i64 0, .int .i64 0]) (t := 37) ?hr ?_; (case hd => rfl); (case hg => rfl); (case hr => first | (go_simp; done) | (go_simp; rfl)); intro gb234 hg w32 hbox hb; have n0_ := Z0.mk (kB (g := gb232) (o := .cells #[.int .i64 a0_0, .slice (some ad233) l0_1.length c0_1] 24 (0, 0)) (by (with_reducible repeat (first | refine kN ?_ _ | refine kD ?_ | refine kA ?_ _)); exact BK232.out) hb); have n1_ := Z0.mk (bT (by repeat (first | (with_reducible first | exact HB.out | apply below_alloc | apply bN | apply bD | refine bS ?_ GE232.out) | exact HB.out)) hb); have n2_ := Z0.mk (hbox); have n3_ := Z0.mk ((by rw [hg]; exact (bZ (by repeat (first | (with_reducible first | exact HB.out | apply below_alloc | apply bN | apply bD | refine bS ?_ GE232.out) | exact HB.out))) : w.heap.size ≤ gb234)); have n4_ := Z0.mk ((by rw [hg]; exact (bZ (by repeat (first | (with_reducible first | exact HB.out | apply below_alloc | apply bN | apply bD | refine bS ?_ GE232.out) | exact HB.out))) : w.heap.size ≤ gb234)); have n5_ := Z0.mk ((by rw [hg]; exact Nat.ne_of_lt (blk_lt (g := gb232) (o := .cells #[.int .i64 a0_0, .slice (some ad233) l0_1.length c0_1] 24 (0, 0)) (by (with_reducible repeat (first | refine kN ?_ _ | refine kD ?_ | refine kA ?_ _)); exact BK232.out)) : gb232 ≠ gb234)); have n6_ := Z0.mk ((by rw [hg]; exact Nat.ne_of_gt (blk_lt (g := gb232) (o := .cells #[.int .i64 a0_0, .slice (some ad233) l0_1.length c0_1] 24 (0, 0)) (by (with_reducible repeat (first | refine kN ?_ _ | refine kD ?_ | refine kA ?_ _)); exact BK232.out)) : gb234 ≠ gb232)); clear BK232; clear HB; have BK232 := n0_; have HB := n1_; have BK234 := n2_; have GW234 := n3_; have GE234 := n4_; have NB232_234 := n5_; have NB234_232 := n6_; clear n0_ n1_ n2_ n3_ n4_ n5_ n6_; clear hb hbox hg; have hnb33 := NB234_232.out; have hnc33 := NB232_234.out; have hcz34_0 : w32.cell? ⟨gb234, 0, none⟩ = some (.int .i64 0) := (kC BK234.out 0).trans rfl; have hcz34_1 : w32.cell? ⟨gb234, 1, none⟩ = some (.int .i64 0) := (kC BK234.out 1).trans rfl; have hcz34_2 : w32.cell? ⟨gb234, 2, none⟩ = some (.int .i64 0) := (kC BK234.out 2).trans rfl; have hcz34_3 : w32.cell? ⟨gb234, 3, none⟩ = some (.int .i64 0) := (kC BK234.out 3).trans rfl; have hfz34_0 := kF BK234.out 0; have hfz34_1 := kF BK234.out 1; have hfz34_2 := kF BK234.out 2; have hfz34_3 := kF BK234.out 3; have hcz35_0 : w32.cell? ⟨gb232, 0, none⟩ = some (.int .i64 a0_0) := (kC BK232.out 0).trans rfl; have hcz35_1 : w32.cell? ⟨gb232, 1, none⟩ = some (.slice (some ad233) l0_1.length c0_1) := (kC BK232.out 1).trans rfl; have hfz35_0 := kF BK232.out 0; have hfz35_1 := kF BK232.out 1))
             go_ret
             exact ⟨by first | rfl | (simp [errW_none, errW_some] <;> rfl) | (simp [*, errW_none, errW_some] <;> rfl), by repeat (first | (with_reducible first | exact HB.out | apply below_alloc | apply bN | apply bD | refine bS ?_ GE232.out | refine bS ?_ GE234.out) | exact HB.out)⟩
            ·rw [if_neg c30] at H
             have c30b0 : decide (a0_0 ≤ ((rd_T37 l0_1 x3_2).f1)) = false := decide_eq_false c30
             clear c30
             by_cases c36 : ((rd_T37 l0_1 x3_2).f0) = ((rd_T37 l0_1 x3_2).f1)
             ·rw [if_pos c36] at H
              have c36b0 : (((rd_T37 l0_1 x3_2).f0) == ((rd_T37 l0_1 x3_2).f1)) = true := beq_iff_eq.mpr c36
              have c36b1 : (((rd_T37 l0_1 x3_2).f0) != ((rd_T37 l0_1 x3_2).f1)) = false := bne_eq_false_iff_eq.mpr c36
              clear c36
              obtain rfl := Option.some.inj H
              have hcz37_0 : wr.cell? ⟨gb232, 0, none⟩ = some (.int .i64 a0_0) := (kC BK232.out 0).trans rfl
              have hcz37_1 : wr.cell? ⟨gb232, 1, none⟩ = some (.slice A0_1 l0_1.length c0_1) := (kC BK232.out 1).trans rfl
              have hfz37_0 := kF BK232.out 0
              have hfz37_1 := kF BK232.out 1
              have p233 : 0 ≤ (x3_2 : Int) := of_decide_eq_true (by first | (with_reducible assumption) | assumption)
              have q233 : x3_2 < (l0_1.length : Int) := of_decide_eq_true (by first | (with_reducible assumption) | assumption)
              obtain ⟨ad233, e233, hx233_0, hx233_1, hx233_2, hx233_3⟩ := at_T37 HR0_1.out x3_2 p233 q233
              cases e233
              replace hx233_0 := (HB.out.cell (World.block_lt_of_cell? w _ hx233_0)).trans hx233_0
              replace hx233_1 := (HB.out.cell (World.block_lt_of_cell? w _ hx233_1)).trans hx233_1
              replace hx233_2 := (HB.out.cell (World.block_lt_of_cell? w _ hx233_2)).trans hx233_2
              replace hx233_3 := (HB.out.cell (World.block_lt_of_cell? w _ hx233_3)).trans hx233_3
              replace p233 := eq_true p233
              replace q233 := eq_true q233
              go_wp2_with (first | ((with_reducible refine gate_dst (N := 4) rfl ?_); refine bE ?hg (N := 4) ?hd (cs := #[.int .i64 0, .int .i64 0, .int .i64 0, .int .i64 0]) (t := 37) ?hr ?_; (case hd => rfl); (case hg => rfl); (case hr => first | (go_simp; done) | (go_simp; rfl)); intro gb234 hg w38 hbox hb; have n0_ := Z0.mk (kB (g := gb232) (o := .cells #[.int .i64 a0_0, .slice (some ad233) l0_1.length c0_1] 24 (0, 0)) (by (with_reducible repeat (first | refine kN ?_ _ | refine kD ?_ | refine kA ?_ _)); exact BK232.out) hb); have n1_ := Z0.mk (bT (by repeat (first | (with_reducible first | exact HB.out | apply below_alloc | apply bN | apply bD | refine bS ?_ GE232.out) | exact HB.out)) hb); have n2_ := Z0.mk (hbox); have n3_ := Z0.mk ((by rw [hg]; exact (bZ (by repeat (first | (with_reducible first | exact HB.out | apply below_alloc | apply bN | apply bD | refine bS ?_ GE232.out) | exact HB.out))) : w.heap.size ≤ gb234)); have n4_ := Z0.mk ((by rw [hg]; exact (bZ (by repeat (first | (with_reducible first | exact HB.out | apply below_alloc | apply bN | apply bD | refine bS ?_ GE232.out) | exact HB.out))) : w.heap.size ≤ gb234)); have n5_ := Z0.mk ((by rw [hg]; exact Nat.ne_of_lt (blk_lt (g := gb232) (o := .cells #[.int .i64 a0_0, .slice (some ad233) l0_1.length c0_1] 24 (0, 0)) (by (with_reducible repeat (first | refine kN ?_ _ | refine kD ?_ | refine kA ?_ _)); exact BK232.out)) : gb232 ≠ gb234)); have n6_ := Z0.mk ((by rw [hg]; exact Nat.ne_of_gt (blk_lt (g := gb232) (o := .cells #[.int .i64 a0_0, .slice (some ad233) l0_1.length c0_1] 24 (0, 0)) (by (with_reducible repeat (first | refine kN ?_ _ | refine kD ?_ | refine kA ?_ _)); exact BK232.out)) : gb234 ≠ gb232)); clear BK232; clear HB; have BK232 := n0_; have HB := n1_; have BK234 := n2_; have GW234 := n3_; have GE234 := n4_; have NB232_234 := n5_; have NB234_232 := n6_; clear n0_ n1_ n2_ n3_ n4_ n5_ n6_; clear hb hbox hg; have hnb39 := NB234_232.out; have hnc39 := NB232_234.out; have hcz40_0 : w38.cell? ⟨gb234, 0, none⟩ = some (.int .i64 0) := (kC BK234.out 0).trans rfl; have hcz40_1 : w38.cell? ⟨gb234, 1, none⟩ = some (.int .i64 0) := (kC BK234.out 1).trans rfl; have hcz40_2 : w38.cell? ⟨gb234, 2, none⟩ = some (.int .i64 0) := (kC BK234.out 2).trans rfl; have hcz40_3 : w38.cell? ⟨gb234, 3, none⟩ = some (.int .i64 0) := (kC BK234.out 3).trans rfl; have hfz40_0 := kF BK234.out 0; have hfz40_1 := kF BK234.out 1; have hfz40_2 := kF BK234.out 2; have hfz40_3 := kF BK234.out 3; have hcz41_0 : w38.cell? ⟨gb232, 0, none⟩ = some (.int .i64 a0_0) := (kC BK232.out 0).trans rfl; have hcz41_1 : w38.cell? ⟨gb232, 1, none⟩ = some (.slice (some ad233) l0_1.length c0_1) := (kC BK232.out 1).trans rfl; have hfz41_0 := kF BK232.out 0; have hfz41_1 := kF BK232.out 1))
              go_ret
              exact ⟨by first | rfl | (simp [errW_none, errW_some] <;> rfl) | (simp [*, errW_none, errW_some] <;> rfl), by repeat (first | (with_reducible first | exact HB.out | apply below_alloc | apply bN | apply bD | refine bS ?_ GE232.out | refine bS ?_ GE234.out) | exact HB.out)⟩
             ·rw [if_neg c36] at H
              have c36b0 : (((rd_T37 l0_1 x3_2).f0) == ((rd_T37 l0_1 x3_2).f1)) = false := beq_eq_false_iff_ne.mpr c36
              have c36b1 : (((rd_T37 l0_1 x3_2).f0) != ((rd_T37 l0_1 x3_2).f1)) = true := bne_iff_ne.mpr c36
              by_cases c42 : ((rd_T37 l0_1 x3_2).f2) < 1
              ·rw [if_pos c42] at H
               have c42b0 : decide (((rd_T37 l0_1 x3_2).f2) < 1) = true := decide_eq_true c42
               clear c42
               obtain rfl := Option.some.inj H
               have hcz43_0 : wr.cell? ⟨gb232, 0, none⟩ = some (.int .i64 a0_0) := (kC BK232.out 0).trans rfl
               have hcz43_1 : wr.cell? ⟨gb232, 1, none⟩ = some (.slice A0_1 l0_1.length c0_1) := (kC BK232.out 1).trans rfl
               have hfz43_0 := kF BK232.out 0
               have hfz43_1 := kF BK232.out 1
               have p233 : 0 ≤ (x3_2 : Int) := of_decide_eq_true (by first | (with_reducible assumption) | assumption)
               have q233 : x3_2 < (l0_1.length : Int) := of_decide_eq_true (by first | (with_reducible assumption) | assumption)
               obtain ⟨ad233, e233, hx233_0, hx233_1, hx233_2, hx233_3⟩ := at_T37 HR0_1.out x3_2 p233 q233
               cases e233
               replace hx233_0 := (HB.out.cell (World.block_lt_of_cell? w _ hx233_0)).trans hx233_0
               replace hx233_1 := (HB.out.cell (World.block_lt_of_cell? w _ hx233_1)).trans hx233_1
               replace hx233_2 := (HB.out.cell (World.block_lt_of_cell? w _ hx233_2)).trans hx233_2
               replace hx233_3 := (HB.out.cell (World.block_lt_of_cell? w _ hx233_3)).trans hx233_3
               replace p233 := eq_true p233
               replace q233 := eq_true q233
               go_wp2_with (first | ((with_reducible refine gate_dst (N := 4) rfl ?_); refine bE ?hg (N := 4) ?hd (cs := #[.int .i64 0, .int .i64 0, .int .i64 0, .int .i64 0]) (t := 37) ?hr ?_; (case hd => rfl); (case hg => rfl); (case hr => first | (go_simp; done) | (go_simp; rfl)); intro gb234 hg w44 hbox hb; have n0_ := Z0.mk (kB (g := gb232) (o := .cells #[.int .i64 a0_0, .slice (some ad233) l0_1.length c0_1] 24 (0, 0)) (by (with_reducible repeat (first | refine kN ?_ _ | refine kD ?_ | refine kA ?_ _)); exact BK232.out) hb); have n1_ := Z0.mk (bT (by repeat (first | (with_reducible first | exact HB.out | apply below_alloc | apply bN | apply bD | refine bS ?_ GE232.out) | exact HB.out)) hb); have n2_ := Z0.mk (hbox); have n3_ := Z0.mk ((by rw [hg]; exact (bZ (by repeat (first | (with_reducible first | exact HB.out | apply below_alloc | apply bN | apply bD | refine bS ?_ GE232.out) | exact HB.out))) : w.heap.size ≤ gb234)); have n4_ := Z0.mk ((by rw [hg]; exact (bZ (by repeat (first | (with_reducible first | exact HB.out | apply below_alloc | apply bN | apply bD | refine bS ?_ GE232.out) | exact HB.out))) : w.heap.size ≤ gb234)); have n5_ := Z0.mk ((by rw [hg]; exact Nat.ne_of_lt (blk_lt (g := gb232) (o := .cells #[.int .i64 a0_0, .slice (some ad233) l0_1.length c0_1] 24 (0, 0)) (by (with_reducible repeat (first | refine kN ?_ _ | refine kD ?_ | refine kA ?_ _)); exact BK232.out)) : gb232 ≠ gb234)); have n6_ := Z0.mk ((by rw [hg]; exact Nat.ne_of_gt (blk_lt (g := gb232) (o := .cells #[.int .i64 a0_0, .slice (some ad233) l0_1.length c0_1] 24 (0, 0)) (by (with_reducible repeat (first | refine kN ?_ _ | refine kD ?_ | refine kA ?_ _)); exact BK232.out)) : gb234 ≠ gb232)); clear BK232; clear HB; have BK232 := n0_; have HB := n1_; have BK234 := n2_; have GW234 := n3_; have GE234 := n4_; have NB232_234 := n5_; have NB234_232 := n6_; clear n0_ n1_ n2_ n3_ n4_ n5_ n6_; clear hb hbox hg; have hnb45 := NB234_232.out; have hnc45 := NB232_234.out; have hcz46_0 : w44.cell? ⟨gb234, 0, none⟩ = some (.int .i64 0) := (kC BK234.out 0).trans rfl; have hcz46_1 : w44.cell? ⟨gb234, 1, none⟩ = some (.int .i64 0) := (kC BK234.out 1).trans rfl; have hcz46_2 : w44.cell? ⟨gb234, 2, none⟩ = some (.int .i64 0) := (kC BK234.out 2).trans rfl; have hcz46_3 : w44.cell? ⟨gb234, 3, none⟩ = some (.int .i64 0) := (kC BK234.out 3).trans rfl; have hfz46_0 := kF BK234.out 0; have hfz46_1 := kF BK234.out 1; have hfz46_2 := kF BK234.out 2; have hfz46_3 := kF BK234.out 3; have hcz47_0 : w44.cell? ⟨gb232, 0, none⟩ = some (.int .i64 a0_0) := (kC BK232.out 0).trans rfl; have hcz47_1 : w44.cell? ⟨gb232, 1, none⟩ = some (.slice (some ad233) l0_1.length c0_1) := (kC BK232.out 1).trans rfl; have hfz47_0 := kF BK232.out 0; have hfz47_1 := kF BK232.out 1))
               go_ret
               exact ⟨by first | rfl | (simp [errW_none, errW_some] <;> rfl) | (simp [*, errW_none, errW_some] <;> rfl), by repeat (first | (with_reducible first | exact HB.out | apply below_alloc | apply bN | apply bD | refine bS ?_ GE232.out | refine bS ?_ GE234.out) | exact HB.out)⟩
              ·rw [if_neg c42] at H
               have c42b0 : decide (((rd_T37 l0_1 x3_2).f2) < 1) = false := decide_eq_false c42
               clear c42
               by_cases c48 : ((rd_T37 l0_1 x3_2).f2) > 1000
               ·rw [if_pos c48] at H
                have c48b0 : decide (1000 < ((rd_T37 l0_1 x3_2).f2)) = true := decide_eq_true c48
                clear c48
                obtain rfl := Option.some.inj H
                have hcz49_0 : wr.cell? ⟨gb232, 0, none⟩ = some (.int .i64 a0_0) := (kC BK232.out 0).trans rfl
                have hcz49_1 : wr.cell? ⟨gb232, 1, none⟩ = some (.slice A0_1 l0_1.length c0_1) := (kC BK232.out 1).trans rfl
                have hfz49_0 := kF BK232.out 0
                have hfz49_1 := kF BK232.out 1
                have p233 : 0 ≤ (x3_2 : Int) := of_decide_eq_true (by first | (with_reducible assumption) | assumption)
                have q233 : x3_2 < (l0_1.length : Int) := of_decide_eq_true (by first | (with_reducible assumption) | assumption)
                obtain ⟨ad233, e233, hx233_0, hx233_1, hx233_2, hx233_3⟩ := at_T37 HR0_1.out x3_2 p233 q233
                cases e233
                replace hx233_0 := (HB.out.cell (World.block_lt_of_cell? w _ hx233_0)).trans hx233_0
                replace hx233_1 := (HB.out.cell (World.block_lt_of_cell? w _ hx233_1)).trans hx233_1
                replace hx233_2 := (HB.out.cell (World.block_lt_of_cell? w _ hx233_2)).trans hx233_2
                replace hx233_3 := (HB.out.cell (World.block_lt_of_cell? w _ hx233_3)).trans hx233_3
                replace p233 := eq_true p233
                replace q233 := eq_true q233
                go_wp2_with (first | ((with_reducible refine gate_dst (N := 4) rfl ?_); refine bE ?hg (N := 4) ?hd (cs := #[.int .i64 0, .int .i64 0, .int .i64 0, .int .i64 0]) (t := 37) ?hr ?_; (case hd => rfl); (case hg => rfl); (case hr => first | (go_simp; done) | (go_simp; rfl)); intro gb234 hg w50 hbox hb; have n0_ := Z0.mk (kB (g := gb232) (o := .cells #[.int .i64 a0_0, .slice (some ad233) l0_1.length c0_1] 24 (0, 0)) (by (with_reducible repeat (first | refine kN ?_ _ | refine kD ?_ | refine kA ?_ _)); exact BK232.out) hb); have n1_ := Z0.mk (bT (by repeat (first | (with_reducible first | exact HB.out | apply below_alloc | apply bN | apply bD | refine bS ?_ GE232.out) | exact HB.out)) hb); have n2_ := Z0.mk (hbox); have n3_ := Z0.mk ((by rw [hg]; exact (bZ (by repeat (first | (with_reducible first | exact HB.out | apply below_alloc | apply bN | apply bD | refine bS ?_ GE232.out) | exact HB.out))) : w.heap.size ≤ gb234)); have n4_ := Z0.mk ((by rw [hg]; exact (bZ (by repeat (first | (with_reducible first | exact HB.out | apply below_alloc | apply bN | apply bD | refine bS ?_ GE232.out) | exact HB.out))) : w.heap.size ≤ gb234)); have n5_ := Z0.mk ((by rw [hg]; exact Nat.ne_of_lt (blk_lt (g := gb232) (o := .cells #[.int .i64 a0_0, .slice (some ad233) l0_1.length c0_1] 24 (0, 0)) (by (with_reducible repeat (first | refine kN ?_ _ | refine kD ?_ | refine kA ?_ _)); exact BK232.out)) : gb232 ≠ gb234)); have n6_ := Z0.mk ((by rw [hg]; exact Nat.ne_of_gt (blk_lt (g := gb232) (o := .cells #[.int .i64 a0_0, .slice (some ad233) l0_1.length c0_1] 24 (0, 0)) (by (with_reducible repeat (first | refine kN ?_ _ | refine kD ?_ | refine kA ?_ _)); exact BK232.out)) : gb234 ≠ gb232)); clear BK232; clear HB; have BK232 := n0_; have HB := n1_; have BK234 := n2_; have GW234 := n3_; have GE234 := n4_; have NB232_234 := n5_; have NB234_232 := n6_; clear n0_ n1_ n2_ n3_ n4_ n5_ n6_; clear hb hbox hg; have hnb51 := NB234_232.out; have hnc51 := NB232_234.out; have hcz52_0 : w50.cell? ⟨gb234, 0, none⟩ = some (.int .i64 0) := (kC BK234.out 0).trans rfl; have hcz52_1 : w50.cell? ⟨gb234, 1, none⟩ = some (.int .i64 0) := (kC BK234.out 1).trans rfl; have hcz52_2 : w50.cell? ⟨gb234, 2, none⟩ = some (.int .i64 0) := (kC BK234.out 2).trans rfl; have hcz52_3 : w50.cell? ⟨gb234, 3, none⟩ = some (.int .i64 0) := (kC BK234.out 3).trans rfl; have hfz52_0 := kF BK234.out 0; have hfz52_1 := kF BK234.out 1; have hfz52_2 := kF BK234.out 2; have hfz52_3 := kF BK234.out 3; have hcz53_0 : w50.cell? ⟨gb232, 0, none⟩ = some (.int .i64 a0_0) := (kC BK232.out 0).trans rfl; have hcz53_1 : w50.cell? ⟨gb232, 1, none⟩ = some (.slice (some ad233) l0_1.length c0_1) := (kC BK232.out 1).trans rfl; have hfz53_0 := kF BK232.out 0; have hfz53_1 := kF BK232.out 1))
                go_ret
                exact ⟨by first | rfl | (simp [errW_none, errW_some] <;> rfl) | (simp [*, errW_none, errW_some] <;> rfl), by repeat (first | (with_reducible first | exact HB.out | apply below_alloc | apply bN | apply bD | refine bS ?_ GE232.out | refine bS ?_ GE234.out) | exact HB.out)⟩
               ·rw [if_neg c48] at H
                have c48b0 : decide (1000 < ((rd_T37 l0_1 x3_2).f2)) = false := decide_eq_false c48
                clear c48
                by_cases c54 : ((rd_T37 l0_1 x3_2).f3) < 0
                ·rw [if_pos c54] at H
                 have c54b0 : decide (((rd_T37 l0_1 x3_2).f3) < 0) = true := decide_eq_true c54
                 clear c54
                 obtain rfl := Option.some.inj H
                 have hcz55_0 : wr.cell? ⟨gb232, 0, none⟩ = some (.int .i64 a0_0) := (kC BK232.out 0).trans rfl
                 have hcz55_1 : wr.cell? ⟨gb232, 1, none⟩ = some (.slice A0_1 l0_1.length c0_1) := (kC BK232.out 1).trans rfl
                 have hfz55_0 := kF BK232.out 0
                 have hfz55_1 := kF BK232.out 1
                 have p233 : 0 ≤ (x3_2 : Int) := of_decide_eq_true (by first | (with_reducible assumption) | assumption)
                 have q233 : x3_2 < (l0_1.length : Int) := of_decide_eq_true (by first | (with_reducible assumption) | assumption)
                 obtain ⟨ad233, e233, hx233_0, hx233_1, hx233_2, hx233_3⟩ := at_T37 HR0_1.out x3_2 p233 q233
                 cases e233
                 replace hx233_0 := (HB.out.cell (World.block_lt_of_cell? w _ hx233_0)).trans hx233_0
                 replace hx233_1 := (HB.out.cell (World.block_lt_of_cell? w _ hx233_1)).trans hx233_1
                 replace hx233_2 := (HB.out.cell (World.block_lt_of_cell? w _ hx233_2)).trans hx233_2
                 replace hx233_3 := (HB.out.cell (World.block_lt_of_cell? w _ hx233_3)).trans hx233_3
                 replace p233 := eq_true p233
                 replace q233 := eq_true q233
                 go_wp2_with (first | ((with_reducible refine gate_dst (N := 4) rfl ?_); refine bE ?hg (N := 4) ?hd (cs := #[.int .i64 0, .int .i64 0, .int .i64 0, .int .i64 0]) (t := 37) ?hr ?_; (case hd => rfl); (case hg => rfl); (case hr => first | (go_simp; done) | (go_simp; rfl)); intro gb234 hg w56 hbox hb; have n0_ := Z0.mk (kB (g := gb232) (o := .cells #[.int .i64 a0_0, .slice (some ad233) l0_1.length c0_1] 24 (0, 0)) (by (with_reducible repeat (first | refine kN ?_ _ | refine kD ?_ | refine kA ?_ _)); exact BK232.out) hb); have n1_ := Z0.mk (bT (by repeat (first | (with_reducible first | exact HB.out | apply below_alloc | apply bN | apply bD | refine bS ?_ GE232.out) | exact HB.out)) hb); have n2_ := Z0.mk (hbox); have n3_ := Z0.mk ((by rw [hg]; exact (bZ (by repeat (first | (with_reducible first | exact HB.out | apply below_alloc | apply bN | apply bD | refine bS ?_ GE232.out) | exact HB.out))) : w.heap.size ≤ gb234)); have n4_ := Z0.mk ((by rw [hg]; exact (bZ (by repeat (first | (with_reducible first | exact HB.out | apply below_alloc | apply bN | apply bD | refine bS ?_ GE232.out) | exact HB.out))) : w.heap.size ≤ gb234)); have n5_ := Z0.mk ((by rw [hg]; exact Nat.ne_of_lt (blk_lt (g := gb232) (o := .cells #[.int .i64 a0_0, .slice (some ad233) l0_1.length c0_1] 24 (0, 0)) (by (with_reducible repeat (first | refine kN ?_ _ | refine kD ?_ | refine kA ?_ _)); exact BK232.out)) : gb232 ≠ gb234)); have n6_ := Z0.mk ((by rw [hg]; exact Nat.ne_of_gt (blk_lt (g := gb232) (o := .cells #[.int .i64 a0_0, .slice (some ad233) l0_1.length c0_1] 24 (0, 0)) (by (with_reducible repeat (first | refine kN ?_ _ | refine kD ?_ | refine kA ?_ _)); exact BK232.out)) : gb234 ≠ gb232)); clear BK232; clear HB; have BK232 := n0_; have HB := n1_; have BK234 := n2_; have GW234 := n3_; have GE234 := n4_; have NB232_234 := n5_; have NB234_232 := n6_; clear n0_ n1_ n2_ n3_ n4_ n5_ n6_; clear hb hbox hg; have hnb57 := NB234_232.out; have hnc57 := NB232_234.out; have hcz58_0 : w56.cell? ⟨gb234, 0, none⟩ = some (.int .i64 0) := (kC BK234.out 0).trans rfl; have hcz58_1 : w56.cell? ⟨gb234, 1, none⟩ = some (.int .i64 0) := (kC BK234.out 1).trans rfl; have hcz58_2 : w56.cell? ⟨gb234, 2, none⟩ = some (.int .i64 0) := (kC BK234.out 2).trans rfl; have hcz58_3 : w56.cell? ⟨gb234, 3, none⟩ = some (.int .i64 0) := (kC BK234.out 3).trans rfl; have hfz58_0 := kF BK234.out 0; have hfz58_1 := kF BK234.out 1; have hfz58_2 := kF BK234.out 2; have hfz58_3 := kF BK234.out 3; have hcz59_0 : w56.cell? ⟨gb232, 0, none⟩ = some (.int .i64 a0_0) := (kC BK232.out 0).trans rfl; have hcz59_1 : w56.cell? ⟨gb232, 1, none⟩ = some (.slice (some ad233) l0_1.length c0_1) := (kC BK232.out 1).trans rfl; have hfz59_0 := kF BK232.out 0; have hfz59_1 := kF BK232.out 1))
                 go_ret
                 exact ⟨by first | rfl | (simp [errW_none, errW_some] <;> rfl) | (simp [*, errW_none, errW_some] <;> rfl), by repeat (first | (with_reducible first | exact HB.out | apply below_alloc | apply bN | apply bD | refine bS ?_ GE232.out | refine bS ?_ GE234.out) | exact HB.out)⟩
                ·rw [if_neg c54] at H
                 have c54b0 : decide (((rd_T37 l0_1 x3_2).f3) < 0) = false := decide_eq_false c54
                 clear c54
                 by_cases c60 : ((rd_T37 l0_1 x3_2).f3) > 1000000
                 ·rw [if_pos c60] at H
                  have c60b0 : decide (1000000 < ((rd_T37 l0_1 x3_2).f3)) = true := decide_eq_true c60
                  clear c60
                  obtain rfl := Option.some.inj H
                  have hcz61_0 : wr.cell? ⟨gb232, 0, none⟩ = some (.int .i64 a0_0) := (kC BK232.out 0).trans rfl
                  have hcz61_1 : wr.cell? ⟨gb232, 1, none⟩ = some (.slice A0_1 l0_1.length c0_1) := (kC BK232.out 1).trans rfl
                  have hfz61_0 := kF BK232.out 0
                  have hfz61_1 := kF BK232.out 1
                  have p233 : 0 ≤ (x3_2 : Int) := of_decide_eq_true (by first | (with_reducible assumption) | assumption)
                  have q233 : x3_2 < (l0_1.length : Int) := of_decide_eq_true (by first | (with_reducible assumption) | assumption)
                  obtain ⟨ad233, e233, hx233_0, hx233_1, hx233_2, hx233_3⟩ := at_T37 HR0_1.out x3_2 p233 q233
                  cases e233
                  replace hx233_0 := (HB.out.cell (World.block_lt_of_cell? w _ hx233_0)).trans hx233_0
                  replace hx233_1 := (HB.out.cell (World.block_lt_of_cell? w _ hx233_1)).trans hx233_1
                  replace hx233_2 := (HB.out.cell (World.block_lt_of_cell? w _ hx233_2)).trans hx233_2
                  replace hx233_3 := (HB.out.cell (World.block_lt_of_cell? w _ hx233_3)).trans hx233_3
                  replace p233 := eq_true p233
                  replace q233 := eq_true q233
                  go_wp2_with (first | ((with_reducible refine gate_dst (N := 4) rfl ?_); refine bE ?hg (N := 4) ?hd (cs := #[.int .i64 0, .int .i64 0, .int .i64 0, .int .i64 0]) (t := 37) ?hr ?_; (case hd => rfl); (case hg => rfl); (case hr => first | (go_simp; done) | (go_simp; rfl)); intro gb234 hg w62 hbox hb; have n0_ := Z0.mk (kB (g := gb232) (o := .cells #[.int .i64 a0_0, .slice (some ad233) l0_1.length c0_1] 24 (0, 0)) (by (with_reducible repeat (first | refine kN ?_ _ | refine kD ?_ | refine kA ?_ _)); exact BK232.out) hb); have n1_ := Z0.mk (bT (by repeat (first | (with_reducible first | exact HB.out | apply below_alloc | apply bN | apply bD | refine bS ?_ GE232.out) | exact HB.out)) hb); have n2_ := Z0.mk (hbox); have n3_ := Z0.mk ((by rw [hg]; exact (bZ (by repeat (first | (with_reducible first | exact HB.out | apply below_alloc | apply bN | apply bD | refine bS ?_ GE232.out) | exact HB.out))) : w.heap.size ≤ gb234)); have n4_ := Z0.mk ((by rw [hg]; exact (bZ (by repeat (first | (with_reducible first | exact HB.out | apply below_alloc | apply bN | apply bD | refine bS ?_ GE232.out) | exact HB.out))) : w.heap.size ≤ gb234)); have n5_ := Z0.mk ((by rw [hg]; exact Nat.ne_of_lt (blk_lt (g := gb232) (o := .cells #[.int .i64 a0_0, .slice (some ad233) l0_1.length c0_1] 24 (0, 0)) (by (with_reducible repeat (first | refine kN ?_ _ | refine kD ?_ | refine kA ?_ _)); exact BK232.out)) : gb232 ≠ gb234)); have n6_ := Z0.mk ((by rw [hg]; exact Nat.ne_of_gt (blk_lt (g := gb232) (o := .cells #[.int .i64 a0_0, .slice (some ad233) l0_1.length c0_1] 24 (0, 0)) (by (with_reducible repeat (first | refine kN ?_ _ | refine kD ?_ | refine kA ?_ _)); exact BK232.out)) : gb234 ≠ gb232)); clear BK232; clear HB; have BK232 := n0_; have HB := n1_; have BK234 := n2_; have GW234 := n3_; have GE234 := n4_; have NB232_234 := n5_; have NB234_232 := n6_; clear n0_ n1_ n2_ n3_ n4_ n5_ n6_; clear hb hbox hg; have hnb63 := NB234_232.out; have hnc63 := NB232_234.out; have hcz64_0 : w62.cell? ⟨gb234, 0, none⟩ = some (.int .i64 0) := (kC BK234.out 0).trans rfl; have hcz64_1 : w62.cell? ⟨gb234, 1, none⟩ = some (.int .i64 0) := (kC BK234.out 1).trans rfl; have hcz64_2 : w62.cell? ⟨gb234, 2, none⟩ = some (.int .i64 0) := (kC BK234.out 2).trans rfl; have hcz64_3 : w62.cell? ⟨gb234, 3, none⟩ = some (.int .i64 0) := (kC BK234.out 3).trans rfl; have hfz64_0 := kF BK234.out 0; have hfz64_1 := kF BK234.out 1; have hfz64_2 := kF BK234.out 2; have hfz64_3 := kF BK234.out 3; have hcz65_0 : w62.cell? ⟨gb232, 0, none⟩ = some (.int .i64 a0_0) := (kC BK232.out 0).trans rfl; have hcz65_1 : w62.cell? ⟨gb232, 1, none⟩ = some (.slice (some ad233) l0_1.length c0_1) := (kC BK232.out 1).trans rfl; have hfz65_0 := kF BK232.out 0; have hfz65_1 := kF BK232.out 1))
                  go_ret
                  exact ⟨by first | rfl | (simp [errW_none, errW_some] <;> rfl) | (simp [*, errW_none, errW_some] <;> rfl), by repeat (first | (with_reducible first | exact HB.out | apply below_alloc | apply bN | apply bD | refine bS ?_ GE232.out | refine bS ?_ GE234.out) | exact HB.out)⟩
                 ·rw [if_neg c60] at H
                  have c60b0 : decide (1000000 < ((rd_T37 l0_1 x3_2).f3)) = false := decide_eq_false c60
                  clear c60
                  have H' := Z0.mk H
                  clear H
                  have hcz66_0 : wr.cell? ⟨gb232, 0, none⟩ = some (.int .i64 a0_0) := (kC BK232.out 0).trans rfl
                  have hcz66_1 : wr.cell? ⟨gb232, 1, none⟩ = some (.slice A0_1 l0_1.length c0_1) := (kC BK232.out 1).trans rfl
                  have hfz66_0 := kF BK232.out 0
                  have hfz66_1 := kF BK232.out 1
                  have p233 : 0 ≤ (x3_2 : Int) := of_decide_eq_true (by first | (with_reducible assumption) | assumption)
                  have q233 : x3_2 < (l0_1.length : Int) := of_decide_eq_true (by first | (with_reducible assumption) | assumption)
                  obtain ⟨ad233, e233, hx233_0, hx233_1, hx233_2, hx233_3⟩ := at_T37 HR0_1.out x3_2 p233 q233
                  cases e233
                  replace hx233_0 := (HB.out.cell (World.block_lt_of_cell? w _ hx233_0)).trans hx233_0
                  replace hx233_1 := (HB.out.cell (World.block_lt_of_cell? w _ hx233_1)).trans hx233_1
                  replace hx233_2 := (HB.out.cell (World.block_lt_of_cell? w _ hx233_2)).trans hx233_2
                  replace hx233_3 := (HB.out.cell (World.block_lt_of_cell? w _ hx233_3)).trans hx233_3
                  replace p233 := eq_true p233
                  replace q233 := eq_true q233
                  go_wp2_with (first | ((with_reducible refine gate_dst (N := 4) rfl ?_); refine bE ?hg (N := 4) ?hd (cs := #[.int .i64 0, .int .i64 0, .int .i64 0, .int .i64 0]) (t := 37) ?hr ?_; (case hd => rfl); (case hg => rfl); (case hr => first | (go_simp; done) | (go_simp; rfl)); intro gb234 hg w67 hbox hb; have n0_ := Z0.mk (kB (g := gb232) (o := .cells #[.int .i64 a0_0, .slice (some ad233) l0_1.length c0_1] 24 (0, 0)) (by (with_reducible repeat (first | refine kN ?_ _ | refine kD ?_ | refine kA ?_ _)); exact BK232.out) hb); have n1_ := Z0.mk (bT (by repeat (first | (with_reducible first | exact HB.out | apply below_alloc | apply bN | apply bD | refine bS ?_ GE232.out) | exact HB.out)) hb); have n2_ := Z0.mk (hbox); have n3_ := Z0.mk ((by rw [hg]; exact (bZ (by repeat (first | (with_reducible first | exact HB.out | apply below_alloc | apply bN | apply bD | refine bS ?_ GE232.out) | exact HB.out))) : w.heap.size ≤ gb234)); have n4_ := Z0.mk ((by rw [hg]; exact (bZ (by repeat (first | (with_reducible first | exact HB.out | apply below_alloc | apply bN | apply bD | refine bS ?_ GE232.out) | exact HB.out))) : w.heap.size ≤ gb234)); have n5_ := Z0.mk ((by rw [hg]; exact Nat.ne_of_lt (blk_lt (g := gb232) (o := .cells #[.int .i64 a0_0, .slice (some ad233) l0_1.length c0_1] 24 (0, 0)) (by (with_reducible repeat (first | refine kN ?_ _ | refine kD ?_ | refine kA ?_ _)); exact BK232.out)) : gb232 ≠ gb234)); have n6_ := Z0.mk ((by rw [hg]; exact Nat.ne_of_gt (blk_lt (g := gb232) (o := .cells #[.int .i64 a0_0, .slice (some ad233) l0_1.length c0_1] 24 (0, 0)) (by (with_reducible repeat (first | refine kN ?_ _ | refine kD ?_ | refine kA ?_ _)); exact BK232.out)) : gb234 ≠ gb232)); clear BK232; clear HB; have BK232 := n0_; have HB := n1_; have BK234 := n2_; have GW234 := n3_; have GE234 := n4_; have NB232_234 := n5_; have NB234_232 := n6_; clear n0_ n1_ n2_ n3_ n4_ n5_ n6_; clear hb hbox hg; have hnb68 := NB234_232.out; have hnc68 := NB232_234.out; have hcz69_0 : w67.cell? ⟨gb234, 0, none⟩ = some (.int .i64 0) := (kC BK234.out 0).trans rfl; have hcz69_1 : w67.cell? ⟨gb234, 1, none⟩ = some (.int .i64 0) := (kC BK234.out 1).trans rfl; have hcz69_2 : w67.cell? ⟨gb234, 2, none⟩ = some (.int .i64 0) := (kC BK234.out 2).trans rfl; have hcz69_3 : w67.cell? ⟨gb234, 3, none⟩ = some (.int .i64 0) := (kC BK234.out 3).trans rfl; have hfz69_0 := kF BK234.out 0; have hfz69_1 := kF BK234.out 1; have hfz69_2 := kF BK234.out 2; have hfz69_3 := kF BK234.out 3; have hcz70_0 : w67.cell? ⟨gb232, 0, none⟩ = some (.int .i64 a0_0) := (kC BK232.out 0).trans rfl; have hcz70_1 : w67.cell? ⟨gb232, 1, none⟩ = some (.slice (some ad233) l0_1.length c0_1) := (kC BK232.out 1).trans rfl; have hfz70_0 := kF BK232.out 0; have hfz70_1 := kF BK232.out 1))
                  go_roundg k2
                  case measure => have := HJ1.out; have := HK2.out; omega
                  case rel => exact ⟨(wrap64 (x3_2 + 1)), (by first | rfl | (simp; done) | (simp [*]; done)), H', ⟨by have := HJ1.out; have := HK2.out; omega⟩, ⟨by (with_reducible repeat (first | refine kN ?_ _ | refine kD ?_ | refine kA ?_ _)); refine kR ?_ NB232_234.out _; (with_reducible repeat (first | refine kN ?_ _ | refine kD ?_ | refine kA ?_ _)); refine kR ?_ NB232_234.out _; (with_reducible repeat (first | refine kN ?_ _ | refine kD ?_ | refine kA ?_ _)); refine kR ?_ NB232_234.out _; (with_reducible repeat (first | refine kN ?_ _ | refine kD ?_ | refine kA ?_ _)); refine kR ?_ NB232_234.out _; (with_reducible repeat (first | refine kN ?_ _ | refine kD ?_ | refine kA ?_ _)); exact BK232.out⟩, ⟨by repeat (first | (with_reducible first | exact HB.out | apply below_alloc | apply bN | apply bD | refine bS ?_ GE232.out | refine bS ?_ GE234.out) | exact HB.out)⟩⟩
        ·rw [if_neg c12] at H
         exact absurd H (by simp)
       ·rw [if_neg c11] at H
        have c11b0 : decide (x3_2 < (l0_1.length : Int)) = false := decide_eq_false c11
        clear c11
        obtain rfl := Option.some.inj H
        have hcz71_0 : wr.cell? ⟨gb232, 0, none⟩ = some (.int .i64 a0_0) := (kC BK232.out 0).trans rfl
        have hcz71_1 : wr.cell? ⟨gb232, 1, none⟩ = some (.slice A0_1 l0_1.length c0_1) := (kC BK232.out 1).trans rfl
        have hfz71_0 := kF BK232.out 0
        have hfz71_1 := kF BK232.out 1
        go_wp2
        go_ret
        exact ⟨by first | rfl | (simp [errW_none, errW_some] <;> rfl) | (simp [*, errW_none, errW_some] <;> rfl), by repeat (first | (with_reducible first | exact HB.out | apply below_alloc | apply bN | apply bD | refine bS ?_ GE232.out) | exact HB.out)⟩
def qr14Outs.l0 : Nat → List Int → Int → Int → List (S37) → Option (Int)
 | 0, _, _, _, _ => none
 | k + 1, x1, x6, x236000, x236001 => if x6 < (x1.length : Int) then (if 0 ≤ x6 then (if (rd x1 x6) < 0 then (some 1) else (if (rd x1 x6) ≥ (x236001.length : Int) then (some 1) else (if x6 > 0 then (if 0 ≤ (wrap64 (x6 - 1)) then (if (wrap64 (x6 - 1)) < (x1.length : Int) then (if (rd x1 x6) ≤ (rd x1 (wrap64 (x6 - 1))) then (some 1) else (qr14Outs.l0 k x1 (wrap64 (x6 + 1)) x236000 x236001)) else (none)) else (none)) else (qr14Outs.l0 k x1 (wrap64 (x6 + 1)) x236000 x236001)))) else (none)) else (some 0)
def qr14Outs.f (k : Nat) (a0_0 : Int) (l0_1 : List (S37)) (l1 : List Int) : Option (Int) := (qr14Check.f k a0_0 l0_1).bind fun t236 => (if t236 = 0 then (qr14Outs.l0 k l1 0 a0_0 l0_1) else (some t236))
set_option maxHeartbeats 8000000 in
set_option maxRecDepth 100000 in
theorem qr14Outs.calls (k : Nat) (a0_0 : Int) (A0_1 : Option Addr) (c0_1 : Nat) (l0_1 : List (S37)) (A1 : Option Addr) (c1 : Nat) (l1 : List Int) (r : Int) (w : World) (hr0_1 : Kd.C k37 w A0_1 l0_1.length l0_1) (hc0_1 : l0_1.length ≤ c0_1) (hr1 : Kd.C (Kd.int .i64) w A1 l1.length l1) (hc1 : l1.length ≤ c1) (h : qr14Outs.f k a0_0 l0_1 l1 = some r) :
  Calls Try.prog 69 #[.agg #[.int .i64 a0_0, .slice A0_1 l0_1.length c0_1], .slice A1 l1.length c1] w fun e w' => e = .returned (.int .i64 r) ∧ Below w.heap.size w w' := by
 have hu24 := Try.underlying24
 have HR0_1 := Z0.mk hr0_1
 have HC0_1 := Z0.mk hc0_1
 clear hr0_1 hc0_1
 have HR1 := Z0.mk hr1
 have HC1 := Z0.mk hc1
 clear hr1 hc1
 have HB := Z0.mk (Below.refl w.heap.size w)
 have H : ((qr14Check.f k a0_0 l0_1).bind fun t236 => (if t236 = 0 then (qr14Outs.l0 k l1 0 a0_0 l0_1) else (some t236))) = some r := h
 clear h
 replace H := Option.bind_eq_some_iff.mp H
 obtain ⟨t236, A30, H⟩ := H
 replace H : (if t236 = 0 then (qr14Outs.l0 k l1 0 a0_0 l0_1) else (some t236)) = some r := H
 have A3 := Z0.mk A30
 clear A30
 by_cases c4 : t236 = 0
 ·rw [if_pos c4] at H
  have c4b0 : (t236 == 0) = true := beq_iff_eq.mpr c4
  have c4b1 : (t236 != 0) = false := bne_eq_false_iff_eq.mpr c4
  clear c4
  have H' := Z0.mk H
  clear H
  go_enter Try.func69, Try.ntmps69
  go_wp2_with (first | ((with_reducible refine gate_dst (N := 2) rfl ?_); (try (refine gG (by rfl) ?_; dsimp only)); refine bE ?hg (N := 2) ?hd (cs := #[.int .i64 a0_0, .slice A0_1 l0_1.length c0_1]) (t := 24) ?hr ?_; (case hd => rfl); (case hg => rfl); (case hr => first | (go_simp; done) | (go_simp; rfl)); intro gb235 hg w5 hbox hb; have n0_ := Z0.mk (bT (by repeat (first | (with_reducible first | exact HB.out | apply below_alloc | apply bN | apply bD) | exact HB.out)) hb); have n1_ := Z0.mk (hbox); have n2_ := Z0.mk ((by rw [hg]; exact (bZ (by repeat (first | (with_reducible first | exact HB.out | apply below_alloc | apply bN | apply bD) | exact HB.out))) : w.heap.size ≤ gb235)); have n3_ := Z0.mk ((by rw [hg]; exact (bZ (by repeat (first | (with_reducible first | exact HB.out | apply below_alloc | apply bN | apply bD) | exact HB.out))) : w.heap.size ≤ gb235)); clear HB; have HB := n0_; have BK235 := n1_; have GW235 := n2_; have GE235 := n3_; clear n0_ n1_ n2_ n3_; clear hb hbox hg; have hcz6_0 : w5.cell? ⟨gb235, 0, none⟩ = some (.int .i64 a0_0) := (kC BK235.out 0).trans rfl; have hcz6_1 : w5.cell? ⟨gb235, 1, none⟩ = some (.slice A0_1 l0_1.length c0_1) := (kC BK235.out 1).trans rfl; have hfz6_0 := kF BK235.out 0; have hfz6_1 := kF BK235.out 1) | (go_at_call 70; (with_reducible refine (qr14Check.calls k a0_0 _ _ l0_1 t236 _ ?side1 ?side2 A3.out).mono ?_); (case side1 => repeat (first | exact (Kd.C_below HR0_1.out HB.out) | (with_reducible refine Kd.C_alloc ?_ _) | (with_reducible refine Kd.C_drewN ?_ _) | (with_reducible refine Kd.C_drew ?_))); (case side2 => exact HC0_1.out); rintro e w7 ⟨rfl, hb⟩; have n0_ := Z0.mk (kB (g := gb235) (o := .cells #[.int .i64 a0_0, .slice A0_1 l0_1.length c0_1] 24 (0, 0)) (by (with_reducible repeat (first | refine kN ?_ _ | refine kD ?_ | refine kA ?_ _)); exact BK235.out) hb); have n1_ := Z0.mk (bT (by repeat (first | (with_reducible first | exact HB.out | apply below_alloc | apply bN | apply bD | refine bS ?_ GE235.out) | exact HB.out)) hb); clear BK235; clear HB; have BK235 := n0_; have HB := n1_; clear n0_ n1_; (try clear hb); (try clear hb2); (try clear hk); (try clear hi)))
  repeat (go_quiet (first | ((with_reducible refine gate_dst (N := 2) rfl ?_); (try (refine gG (by rfl) ?_; dsimp only)); refine bE ?hg (N := 2) ?hd (cs := #[.int .i64 a0_0, .slice A0_1 l0_1.length c0_1]) (t := 24) ?hr ?_; (case hd => rfl); (case hg => rfl); (case hr => first | (go_simp; done) | (go_simp; rfl)); intro gb235 hg w5 hbox hb; have n0_ := Z0.mk (bT (by repeat (first | (with_reducible first | exact HB.out | apply below_alloc | apply bN | apply bD) | exact HB.out)) hb); have n1_ := Z0.mk (hbox); have n2_ := Z0.mk ((by rw [hg]; exact (bZ (by repeat (first | (with_reducible first | exact HB.out | apply below_alloc | apply bN | apply bD) | exact HB.out))) : w.heap.size ≤ gb235)); have n3_ := Z0.mk ((by rw [hg]; exact (bZ (by repeat (first | (with_reducible first | exact HB.out | apply below_alloc | apply bN | apply bD) | exact HB.out))) : w.heap.size ≤ gb235)); clear HB; have HB := n0_; have BK235 := n1_; have GW235 := n2_; have GE235 := n3_; clear n0_ n1_ n2_ n3_; clear hb hbox hg; have hcz6_0 : w5.cell? ⟨gb235, 0, none⟩ = some (.int .i64 a0_0) := (kC BK235.out 0).trans rfl; have hcz6_1 : w5.cell? ⟨gb235, 1, none⟩ = some (.slice A0_1 l0_1.length c0_1) := (kC BK235.out 1).trans rfl; have hfz6_0 := kF BK235.out 0; have hfz6_1 := kF BK235.out 1) | (go_at_call 70; (with_reducible refine (qr14Check.calls k a0_0 _ _ l0_1 t236 _ ?side1 ?side2 A3.out).mono ?_); (case side1 => repeat (first | exact (Kd.C_below HR0_1.out HB.out) | (with_reducible refine Kd.C_alloc ?_ _) | (with_reducible refine Kd.C_drewN ?_ _) | (with_reducible refine Kd.C_drew ?_))); (case side2 => exact HC0_1.out); rintro e w7 ⟨rfl, hb⟩; have n0_ := Z0.mk (kB (g := gb235) (o := .cells #[.int .i64 a0_0, .slice A0_1 l0_1.length c0_1] 24 (0, 0)) (by (with_reducible repeat (first | refine kN ?_ _ | refine kD ?_ | refine kA ?_ _)); exact BK235.out) hb); have n1_ := Z0.mk (bT (by repeat (first | (with_reducible first | exact HB.out | apply below_alloc | apply bN | apply bD | refine bS ?_ GE235.out) | exact HB.out)) hb); clear BK235; clear HB; have BK235 := n0_; have HB := n1_; clear n0_ n1_; (try clear hb); (try clear hb2); (try clear hk); (try clear hi))); try go_wp2_with (first | ((with_reducible refine gate_dst (N := 2) rfl ?_); (try (refine gG (by rfl) ?_; dsimp only)); refine bE ?hg (N := 2) ?hd (cs := #[.int .i64 a0_0, .slice A0_1 l0_1.length c0_1]) (t := 24) ?hr ?_; (case hd => rfl); (case hg => rfl); (case hr => first | (go_simp; done) | (go_simp; rfl)); intro gb235 hg w5 hbox hb; have n0_ := Z0.mk (bT (by repeat (first | (with_reducible first | exact HB.out | apply below_alloc | apply bN | apply bD) | exact HB.out)) hb); have n1_ := Z0.mk (hbox); have n2_ := Z0.mk ((by rw [hg]; exact (bZ (by repeat (first | (with_reducible first | exact HB.out | apply below_alloc | apply bN | apply bD) | exact HB.out))) : w.heap.size ≤ gb235)); have n3_ := Z0.mk ((by rw [hg]; exact (bZ (by repeat (first | (with_reducible first | exact HB.out | apply below_alloc | apply bN | apply bD) | exact HB.out))) : w.heap.size ≤ gb235)); clear HB; have HB := n0_; have BK235 := n1_; have GW235 := n2_; have GE235 := n3_; clear n0_ n1_ n2_ n3_; clear hb hbox hg; have hcz6_0 : w5.cell? ⟨gb235, 0, none⟩ = some (.int .i64 a0_0) := (kC BK235.out 0).trans rfl; have hcz6_1 : w5.cell? ⟨gb235, 1, none⟩ = some (.slice A0_1 l0_1.length c0_1) := (kC BK235.out 1).trans rfl; have hfz6_0 := kF BK235.out 0; have hfz6_1 := kF BK235.out 1) | (go_at_call 70; (with_reducible refine (qr14Check.calls k a0_0 _ _ l0_1 t236 _ ?side1 ?side2 A3.out).mono ?_); (case side1 => repeat (first | exact (Kd.C_below HR0_1.out HB.out) | (with_reducible refine Kd.C_alloc ?_ _) | (with_reducible refine Kd.C_drewN ?_ _) | (with_reducible refine Kd.C_drew ?_))); (case side2 => exact HC0_1.out); rintro e w7 ⟨rfl, hb⟩; have n0_ := Z0.mk (kB (g := gb235) (o := .cells #[.int .i64 a0_0, .slice A0_1 l0_1.length c0_1] 24 (0, 0)) (by (with_reducible repeat (first | refine kN ?_ _ | refine kD ?_ | refine kA ?_ _)); exact BK235.out) hb); have n1_ := Z0.mk (bT (by repeat (first | (with_reducible first | exact HB.out | apply below_alloc | apply bN | apply bD | refine bS ?_ GE235.out) | exact HB.out)) hb); clear BK235; clear HB; have BK235 := n0_; have HB := n1_; clear n0_ n1_; (try clear hb); (try clear hb2); (try clear hk); (try clear hi))))
  go_loopg [6] k (fun kq v6 w' => ∃ (x6_1 : Int), v6 = .int .i64 x6_1 ∧ Z0 (qr14Outs.l0 kq l1 x6_1 a0_0 l0_1 = some r) ∧ Z0 (kq ≤ k) ∧ Z0 (w'.heap[gb235]? = some (.cells #[.int .i64 a0_0, (.slice A0_1 l0_1.length c0_1)] 24 (0, 0))) ∧ Z0 (Below w.heap.size w w'))
  case atStart => exact ⟨(0), (by first | rfl | (simp; done) | (simp [*]; done)), H', ⟨Nat.le_refl _⟩, ⟨by (with_reducible repeat (first | refine kN ?_ _ | refine kD ?_ | refine kA ?_ _)); exact BK235.out⟩, ⟨by repeat (first | (with_reducible first | exact HB.out | apply below_alloc | apply bN | apply bD | refine bS ?_ GE235.out) | exact HB.out)⟩⟩
  case round =>
   clear H'; (try clear c1); (try clear p2); (try clear c4); (try clear c4b0); (try clear c4b1); (try clear c6); (try clear hcz6_0); (try clear hcz6_1); (try clear hfz6_0); (try clear hfz6_1)
   obtain ⟨x6_1, rfl, HA, HK1, BK235, HB⟩ := hrel
   cases gk with
   | zero => exact absurd HA.out (by simp [qr14Outs.l0])
   | succ k1 =>
    have H := HA.out
    clear HA
    simp only [qr14Outs.l0] at H
    by_cases c8 : x6_1 < (l1.length : Int)
    ·rw [if_pos c8] at H
     have c8b0 : decide (x6_1 < (l1.length : Int)) = true := decide_eq_true c8
     clear c8
     by_cases c9 : 0 ≤ x6_1
     ·rw [if_pos c9] at H
      have c9b0 : decide (0 ≤ x6_1) = true := decide_eq_true c9
      clear c9
      by_cases c10 : (rd l1 x6_1) < 0
      ·rw [if_pos c10] at H
       have c10b0 : decide ((rd l1 x6_1) < 0) = true := decide_eq_true c10
       clear c10
       obtain rfl := Option.some.inj H
       have p237 : 0 ≤ (x6_1 : Int) := of_decide_eq_true (by first | (with_reducible assumption) | assumption)
       have q237 : x6_1 < (l1.length : Int) := of_decide_eq_true (by first | (with_reducible assumption) | assumption)
       obtain ⟨ad237, e237, hx237_0⟩ := Kd.at_int HR1.out x6_1 p237 q237
       cases e237
       replace hx237_0 := (HB.out.cell (World.block_lt_of_cell? w _ hx237_0)).trans hx237_0
       replace p237 := eq_true p237
       replace q237 := eq_true q237
       go_wp2
       repeat (go_quiet (fail); try go_wp2)
       go_ret
       exact ⟨by first | rfl | (simp [errW_none, errW_some] <;> rfl) | (simp [*, errW_none, errW_some] <;> rfl), by repeat (first | (with_reducible first | exact HB.out | apply below_alloc | apply bN | apply bD | refine bS ?_ GE235.out) | exact HB.out)⟩
      ·rw [if_neg c10] at H
       have c10b0 : decide ((rd l1 x6_1) < 0) = false := decide_eq_false c10
       clear c10
       by_cases c11 : (rd l1 x6_1) ≥ (l0_1.length : Int)
       ·rw [if_pos c11] at H
        have c11b0 : decide ((l0_1.length : Int) ≤ (rd l1 x6_1)) = true := decide_eq_true c11
        clear c11
        obtain rfl := Option.some.inj H
        have p237 : 0 ≤ (x6_1 : Int) := of_decide_eq_true (by first | (with_reducible assumption) | assumption)
        have q237 : x6_1 < (l1.length : Int) := of_decide_eq_true (by first | (with_reducible assumption) | assumption)
        obtain ⟨ad237, e237, hx237_0⟩ := Kd.at_int HR1.out x6_1 p237 q237
        cases e237
        replace hx237_0 := (HB.out.cell (World.block_lt_of_cell? w _ hx237_0)).trans hx237_0
        replace p237 := eq_true p237
        replace q237 := eq_true q237
        have p238 : 0 ≤ (x6_1 : Int) := of_decide_eq_true (by first | (with_reducible assumption) | assumption)
        have q238 : x6_1 < (l1.length : Int) := of_decide_eq_true (by first | (with_reducible assumption) | assumption)
        obtain ⟨ad238, e238, hx238_0⟩ := Kd.at_int HR1.out x6_1 p238 q238
        obtain rfl : ad237 = ad238 := (by injection e238)
        replace hx238_0 := (HB.out.cell (World.block_lt_of_cell? w _ hx238_0)).trans hx238_0
        replace p238 := eq_true p238
        replace q238 := eq_true q238
        have hcz12_0 : wr.cell? ⟨gb235, 0, none⟩ = some (.int .i64 a0_0) := (kC BK235.out 0).trans rfl
        have hcz12_1 : wr.cell? ⟨gb235, 1, none⟩ = some (.slice A0_1 l0_1.length c0_1) := (kC BK235.out 1).trans rfl
        have hfz12_0 := kF BK235.out 0
        have hfz12_1 := kF BK235.out 1
        go_wp2
        repeat (go_quiet (fail); try go_wp2)
        go_ret
        exact ⟨by first | rfl | (simp [errW_none, errW_some] <;> rfl) | (simp [*, errW_none, errW_some] <;> rfl), by repeat (first | (with_reducible first | exact HB.out | apply below_alloc | apply bN | apply bD | refine bS ?_ GE235.out) | exact HB.out)⟩
       ·rw [if_neg c11] at H
        have c11b0 : decide ((l0_1.length : Int) ≤ (rd l1 x6_1)) = false := decide_eq_false c11
        clear c11
        by_cases c13 : x6_1 > 0
        ·rw [if_pos c13] at H
         have c13b0 : decide (0 < x6_1) = true := decide_eq_true c13
         clear c13
         obtain ⟨ji14, hji14⟩ : ∃ j_ : Int, (wrap64 (x6_1 - 1)) = j_ := ⟨_, rfl⟩
         replace H : (if 0 ≤ (ji14) then (if (ji14) < (l1.length : Int) then (if (rd l1 x6_1) ≤ (rd l1 (ji14)) then (some 1) else (qr14Outs.l0 k1 l1 (wrap64 (x6_1 + 1)) a0_0 l0_1)) else (none)) else (none)) = some r := by first | (rw [hji14] at H; exact H) | (simp only [hji14] at H ⊢; exact H)
         have hji14w : (IntKind.i64.wrap (x6_1 - 1)) = ji14 := (i64_w _).trans hji14
         by_cases c15 : 0 ≤ (ji14)
         ·rw [if_pos c15] at H
          have c15b0 : decide (0 ≤ (ji14)) = true := decide_eq_true c15
          clear c15
          by_cases c16 : (ji14) < (l1.length : Int)
          ·rw [if_pos c16] at H
           have c16b0 : decide ((ji14) < (l1.length : Int)) = true := decide_eq_true c16
           clear c16
           by_cases c17 : (rd l1 x6_1) ≤ (rd l1 (ji14))
           ·rw [if_pos c17] at H
            have c17b0 : decide ((rd l1 x6_1) ≤ (rd l1 (ji14))) = true := decide_eq_true c17
            clear c17
            obtain rfl := Option.some.inj H
            have p237 : 0 ≤ (x6_1 : Int) := of_decide_eq_true (by first | (with_reducible assumption) | assumption)
            have q237 : x6_1 < (l1.length : Int) := of_decide_eq_true (by first | (with_reducible assumption) | assumption)
            obtain ⟨ad237, e237, hx237_0⟩ := Kd.at_int HR1.out x6_1 p237 q237
            cases e237
            replace hx237_0 := (HB.out.cell (World.block_lt_of_cell? w _ hx237_0)).trans hx237_0
            replace p237 := eq_true p237
            replace q237 := eq_true q237
            have p238 : 0 ≤ (x6_1 : Int) := of_decide_eq_true (by first | (with_reducible assumption) | assumption)
            have q238 : x6_1 < (l1.length : Int) := of_decide_eq_true (by first | (with_reducible assumption) | assumption)
            obtain ⟨ad238, e238, hx238_0⟩ := Kd.at_int HR1.out x6_1 p238 q238
            obtain rfl : ad237 = ad238 := (by injection e238)
            replace hx238_0 := (HB.out.cell (World.block_lt_of_cell? w _ hx238_0)).trans hx238_0
            replace p238 := eq_true p238
            replace q238 := eq_true q238
            have hcz18_0 : wr.cell? ⟨gb235, 0, none⟩ = some (.int .i64 a0_0) := (kC BK235.out 0).trans rfl
            have hcz18_1 : wr.cell? ⟨gb235, 1, none⟩ = some (.slice A0_1 l0_1.length c0_1) := (kC BK235.out 1).trans rfl
            have hfz18_0 := kF BK235.out 0
            have hfz18_1 := kF BK235.out 1
            have p239 : 0 ≤ (x6_1 : Int) := of_decide_eq_true (by first | (with_reducible assumption) | assumption)
            have q239 : x6_1 < (l1.length : Int) := of_decide_eq_true (by first | (with_reducible assumption) | assumption)
            obtain ⟨ad239, e239, hx239_0⟩ := Kd.at_int HR1.out x6_1 p239 q239
            obtain rfl : ad237 = ad239 := (by injection e239)
            replace hx239_0 := (HB.out.cell (World.block_lt_of_cell? w _ hx239_0)).trans hx239_0
            replace p239 := eq_true p239
            replace q239 := eq_true q239
            have p240 : 0 ≤ ((ji14) : Int) := of_decide_eq_true (by first | (with_reducible assumption) | assumption)
            have q240 : (ji14) < (l1.length : Int) := of_decide_eq_true (by first | (with_reducible assumption) | assumption)
            obtain ⟨ad240, e240, hx240_0⟩ := Kd.at_int HR1.out (ji14) p240 q240
            obtain rfl : ad237 = ad240 := (by injection e240)
            replace hx240_0 := (HB.out.cell (World.block_lt_of_cell? w _ hx240_0)).trans hx240_0
            replace p240 := eq_true p240
            replace q240 := eq_true q240
            go_wp2
            repeat (go_quiet (fail); try go_wp2)
            go_ret
            exact ⟨by first | rfl | (simp [errW_none, errW_some] <;> rfl) | (simp only [← hji14]; first | rfl | (simp [errW_none, errW_some] <;> rfl)) | (simp [*, errW_none, errW_some] <;> rfl), by repeat (first | (with_reducible first | exact HB.out | apply below_alloc | apply bN | apply bD | refine bS ?_ GE235.out) | exact HB.out)⟩
           ·rw [if_neg c17] at H
            have c17b0 : decide ((rd l1 x6_1) ≤ (rd l1 (ji14))) = false := decide_eq_false c17
            clear c17
            have H' := Z0.mk H
            clear H
            have p237 : 0 ≤ (x6_1 : Int) := of_decide_eq_true (by first | (with_reducible assumption) | assumption)
            have q237 : x6_1 < (l1.length : Int) := of_decide_eq_true (by first | (with_reducible assumption) | assumption)
            obtain ⟨ad237, e237, hx237_0⟩ := Kd.at_int HR1.out x6_1 p237 q237
            cases e237
            replace hx237_0 := (HB.out.cell (World.block_lt_of_cell? w _ hx237_0)).trans hx237_0
            replace p237 := eq_true p237
            replace q237 := eq_true q237
            have p238 : 0 ≤ (x6_1 : Int) := of_decide_eq_true (by first | (with_reducible assumption) | assumption)
            have q238 : x6_1 < (l1.length : Int) := of_decide_eq_true (by first | (with_reducible assumption) | assumption)
            obtain ⟨ad238, e238, hx238_0⟩ := Kd.at_int HR1.out x6_1 p238 q238
            obtain rfl : ad237 = ad238 := (by injection e238)
            replace hx238_0 := (HB.out.cell (World.block_lt_of_cell? w _ hx238_0)).trans hx238_0
            replace p238 := eq_true p238
            replace q238 := eq_true q238
            have hcz19_0 : wr.cell? ⟨gb235, 0, none⟩ = some (.int .i64 a0_0) := (kC BK235.out 0).trans rfl
            have hcz19_1 : wr.cell? ⟨gb235, 1, none⟩ = some (.slice A0_1 l0_1.length c0_1) := (kC BK235.out 1).trans rfl
            have hfz19_0 := kF BK235.out 0
            have hfz19_1 := kF BK235.out 1
            have p239 : 0 ≤ (x6_1 : Int) := of_decide_eq_true (by first | (with_reducible assumption) | assumption)
            have q239 : x6_1 < (l1.length : Int) := of_decide_eq_true (by first | (with_reducible assumption) | assumption)
            obtain ⟨ad239, e239, hx239_0⟩ := Kd.at_int HR1.out x6_1 p239 q239
            obtain rfl : ad237 = ad239 := (by injection e239)
            replace hx239_0 := (HB.out.cell (World.block_lt_of_cell? w _ hx239_0)).trans hx239_0
            replace p239 := eq_true p239
            replace q239 := eq_true q239
            have p240 : 0 ≤ ((ji14) : Int) := of_decide_eq_true (by first | (with_reducible assumption) | assumption)
            have q240 : (ji14) < (l1.length : Int) := of_decide_eq_true (by first | (with_reducible assumption) | assumption)
            obtain ⟨ad240, e240, hx240_0⟩ := Kd.at_int HR1.out (ji14) p240 q240
            obtain rfl : ad237 = ad240 := (by injection e240)
            replace hx240_0 := (HB.out.cell (World.block_lt_of_cell? w _ hx240_0)).trans hx240_0
            replace p240 := eq_true p240
            replace q240 := eq_true q240
            go_wp2
            repeat (go_quiet (fail); try go_wp2)
            go_roundg k1
            case measure => have := HK1.out; omega
            case rel => exact ⟨(wrap64 (x6_1 + 1)), (by first | rfl | (simp; done) | (simp [*]; done)), H', ⟨by have := HK1.out; omega⟩, ⟨by (with_reducible repeat (first | refine kN ?_ _ | refine kD ?_ | refine kA ?_ _)); exact BK235.out⟩, ⟨by repeat (first | (with_reducible first | exact HB.out | apply below_alloc | apply bN | apply bD | refine bS ?_ GE235.out) | exact HB.out)⟩⟩
          ·rw [if_neg c16] at H
           exact absurd H (by simp)
         ·rw [if_neg c15] at H
          exact absurd H (by simp)
        ·rw [if_neg c13] at H
         have c13b0 : decide (0 < x6_1) = false := decide_eq_false c13
         clear c13
         have H' := Z0.mk H
         clear H
         have p237 : 0 ≤ (x6_1 : Int) := of_decide_eq_true (by first | (with_reducible assumption) | assumption)
         have q237 : x6_1 < (l1.length : Int) := of_decide_eq_true (by first | (with_reducible assumption) | assumption)
         obtain ⟨ad237, e237, hx237_0⟩ := Kd.at_int HR1.out x6_1 p237 q237
         cases e237
         replace hx237_0 := (HB.out.cell (World.block_lt_of_cell? w _ hx237_0)).trans hx237_0
         replace p237 := eq_true p237
         replace q237 := eq_true q237
         have p238 : 0 ≤ (x6_1 : Int) := of_decide_eq_true (by first | (with_reducible assumption) | assumption)
         have q238 : x6_1 < (l1.length : Int) := of_decide_eq_true (by first | (with_reducible assumption) | assumption)
         obtain ⟨ad238, e238, hx238_0⟩ := Kd.at_int HR1.out x6_1 p238 q238
         obtain rfl : ad237 = ad238 := (by injection e238)
         replace hx238_0 := (HB.out.cell (World.block_lt_of_cell? w _ hx238_0)).trans hx238_0
         replace p238 := eq_true p238
         replace q238 := eq_true q238
         have hcz20_0 : wr.cell? ⟨gb235, 0, none⟩ = some (.int .i64 a0_0) := (kC BK235.out 0).trans rfl
         have hcz20_1 : wr.cell? ⟨gb235, 1, none⟩ = some (.slice A0_1 l0_1.length c0_1) := (kC BK235.out 1).trans rfl
         have hfz20_0 := kF BK235.out 0
         have hfz20_1 := kF BK235.out 1
         go_wp2
         repeat (go_quiet (fail); try go_wp2)
         go_roundg k1
         case measure => have := HK1.out; omega
         case rel => exact ⟨(wrap64 (x6_1 + 1)), (by first | rfl | (simp; done) | (simp [*]; done)), H', ⟨by have := HK1.out; omega⟩, ⟨by (with_reducible repeat (first | refine kN ?_ _ | refine kD ?_ | refine kA ?_ _)); exact BK235.out⟩, ⟨by repeat (first | (with_reducible first | exact HB.out | apply below_alloc | apply bN | apply bD | refine bS ?_ GE235.out) | exact HB.out)⟩⟩
     ·rw [if_neg c9] at H
      exact absurd H (by simp)
    ·rw [if_neg c8] at H
     have c8b0 : decide (x6_1 < (l1.length : Int)) = false := decide_eq_false c8
     clear c8
     obtain rfl := Option.some.inj H
     go_wp2
     repeat (go_quiet (fail); try go_wp2)
     go_ret
     exact ⟨by first | rfl | (simp [errW_none, errW_some] <;> rfl) | (simp [*, errW_none, errW_some] <;> rfl), by repeat (first | (with_reducible first | exact HB.out | apply below_alloc | apply bN | apply bD | refine bS ?_ GE235.out) | exact HB.out)⟩
 ·rw [if_neg c4] at H
  have c4b0 : (t236 == 0) = false := beq_eq_false_iff_ne.mpr c4
  have c4b1 : (t236 != 0) = true := bne_iff_ne.mpr c4
  obtain rfl := Option.some.inj H
  go_enter Try.func69, Try.ntmps69
  go_wp2_with (first | ((with_reducible refine gate_dst (N := 2) rfl ?_); (try (refine gG (by rfl) ?_; dsimp only)); refine bE ?hg (N := 2) ?hd (cs := #[.int .i64 a0_0, .slice A0_1 l0_1.length c0_1]) (t := 24) ?hr ?_; (case hd => rfl); (case hg => rfl); (case hr => first | (go_simp; done) | (go_simp; rfl)); intro gb235 hg w21 hbox hb; have n0_ := Z0.mk (bT (by repeat (first | (with_reducible first | exact HB.out | apply below_alloc | apply bN | apply bD) | exact HB.out)) hb); have n1_ := Z0.mk (hbox); have n2_ := Z0.mk ((by rw [hg]; exact (bZ (by repeat (first | (with_reducible first | exact HB.out | apply below_alloc | apply bN | apply bD) | exact HB.out))) : w.heap.size ≤ gb235)); have n3_ := Z0.mk ((by rw [hg]; exact (bZ (by repeat (first | (with_reducible first | exact HB.out | apply below_alloc | apply bN | apply bD) | exact HB.out))) : w.heap.size ≤ gb235)); clear HB; have HB := n0_; have BK235 := n1_; have GW235 := n2_; have GE235 := n3_; clear n0_ n1_ n2_ n3_; clear hb hbox hg; have hcz22_0 : w21.cell? ⟨gb235, 0, none⟩ = some (.int .i64 a0_0) := (kC BK235.out 0).trans rfl; have hcz22_1 : w21.cell? ⟨gb235, 1, none⟩ = some (.slice A0_1 l0_1.length c0_1) := (kC BK235.out 1).trans rfl; have hfz22_0 := kF BK235.out 0; have hfz22_1 := kF BK235.out 1) | (go_at_call 70; (with_reducible refine (qr14Check.calls k a0_0 _ _ l0_1 t236 _ ?side1 ?side2 A3.out).mono ?_); (case side1 => repeat (first | exact (Kd.C_below HR0_1.out HB.out) | (with_reducible refine Kd.C_alloc ?_ _) | (with_reducible refine Kd.C_drewN ?_ _) | (with_reducible refine Kd.C_drew ?_))); (case side2 => exact HC0_1.out); rintro e w23 ⟨rfl, hb⟩; have n0_ := Z0.mk (kB (g := gb235) (o := .cells #[.int .i64 a0_0, .slice A0_1 l0_1.length c0_1] 24 (0, 0)) (by (with_reducible repeat (first | refine kN ?_ _ | refine kD ?_ | refine kA ?_ _)); exact BK235.out) hb); have n1_ := Z0.mk (bT (by repeat (first | (with_reducible first | exact HB.out | apply below_alloc | apply bN | apply bD | refine bS ?_ GE235.out) | exact HB.out)) hb); clear BK235; clear HB; have BK235 := n0_; have HB := n1_; clear n0_ n1_; (try clear hb); (try clear hb2); (try clear hk); (try clear hi)))
  repeat (go_quiet (first | ((with_reducible refine gate_dst (N := 2) rfl ?_); (try (refine gG (by rfl) ?_; dsimp only)); refine bE ?hg (N := 2) ?hd (cs := #[.int .i64 a0_0, .slice A0_1 l0_1.length c0_1]) (t := 24) ?hr ?_; (case hd => rfl); (case hg => rfl); (case hr => first | (go_simp; done) | (go_simp; rfl)); intro gb235 hg w21 hbox hb; have n0_ := Z0.mk (bT (by repeat (first | (with_reducible first | exact HB.out | apply below_alloc | apply bN | apply bD) | exact HB.out)) hb); have n1_ := Z0.mk (hbox); have n2_ := Z0.mk ((by rw [hg]; exact (bZ (by repeat (first | (with_reducible first | exact HB.out | apply below_alloc | apply bN | apply bD) | exact HB.out))) : w.heap.size ≤ gb235)); have n3_ := Z0.mk ((by rw [hg]; exact (bZ (by repeat (first | (with_reducible first | exact HB.out | apply below_alloc | apply bN | apply bD) | exact HB.out))) : w.heap.size ≤ gb235)); clear HB; have HB := n0_; have BK235 := n1_; have GW235 := n2_; have GE235 := n3_; clear n0_ n1_ n2_ n3_; clear hb hbox hg; have hcz22_0 : w21.cell? ⟨gb235, 0, none⟩ = some (.int .i64 a0_0) := (kC BK235.out 0).trans rfl; have hcz22_1 : w21.cell? ⟨gb235, 1, none⟩ = some (.slice A0_1 l0_1.length c0_1) := (kC BK235.out 1).trans rfl; have hfz22_0 := kF BK235.out 0; have hfz22_1 := kF BK235.out 1) | (go_at_call 70; (with_reducible refine (qr14Check.calls k a0_0 _ _ l0_1 t236 _ ?side1 ?side2 A3.out).mono ?_); (case side1 => repeat (first | exact (Kd.C_below HR0_1.out HB.out) | (with_reducible refine Kd.C_alloc ?_ _) | (with_reducible refine Kd.C_drewN ?_ _) | (with_reducible refine Kd.C_drew ?_))); (case side2 => exact HC0_1.out); rintro e w23 ⟨rfl, hb⟩; have n0_ := Z0.mk (kB (g := gb235) (o := .cells #[.int .i64 a0_0, .slice A0_1 l0_1.length c0_1] 24 (0, 0)) (by (with_reducible repeat (first | refine kN ?_ _ | refine kD ?_ | refine kA ?_ _)); exact BK235.out) hb); have n1_ := Z0.mk (bT (by repeat (first | (with_reducible first | exact HB.out | apply below_alloc | apply bN | apply bD | refine bS ?_ GE235.out) | exact HB.out)) hb); clear BK235; clear HB; have BK235 := n0_; have HB := n1_; clear n0_ n1_; (try clear hb); (try clear hb2); (try clear hk); (try clear hi))); try go_wp2_with (first | ((with_reducible refine gate_dst (N := 2) rfl ?_); (try (refine gG (by rfl) ?_; dsimp only)); refine bE ?hg (N := 2) ?hd (cs := #[.int .i64 a0_0, .slice A0_1 l0_1.length c0_1]) (t := 24) ?hr ?_; (case hd => rfl); (case hg => rfl); (case hr => first | (go_simp; done) | (go_simp; rfl)); intro gb235 hg w21 hbox hb; have n0_ := Z0.mk (bT (by repeat (first | (with_reducible first | exact HB.out | apply below_alloc | apply bN | apply bD) | exact HB.out)) hb); have n1_ := Z0.mk (hbox); have n2_ := Z0.mk ((by rw [hg]; exact (bZ (by repeat (first | (with_reducible first | exact HB.out | apply below_alloc | apply bN | apply bD) | exact HB.out))) : w.heap.size ≤ gb235)); have n3_ := Z0.mk ((by rw [hg]; exact (bZ (by repeat (first | (with_reducible first | exact HB.out | apply below_alloc | apply bN | apply bD) | exact HB.out))) : w.heap.size ≤ gb235)); clear HB; have HB := n0_; have BK235 := n1_; have GW235 := n2_; have GE235 := n3_; clear n0_ n1_ n2_ n3_; clear hb hbox hg; have hcz22_0 : w21.cell? ⟨gb235, 0, none⟩ = some (.int .i64 a0_0) := (kC BK235.out 0).trans rfl; have hcz22_1 : w21.cell? ⟨gb235, 1, none⟩ = some (.slice A0_1 l0_1.length c0_1) := (kC BK235.out 1).trans rfl; have hfz22_0 := kF BK235.out 0; have hfz22_1 := kF BK235.out 1) | (go_at_call 70; (with_reducible refine (qr14Check.calls k a0_0 _ _ l0_1 t236 _ ?side1 ?side2 A3.out).mono ?_); (case side1 => repeat (first | exact (Kd.C_below HR0_1.out HB.out) | (with_reducible refine Kd.C_alloc ?_ _) | (with_reducible refine Kd.C_drewN ?_ _) | (with_reducible refine Kd.C_drew ?_))); (case side2 => exact HC0_1.out); rintro e w23 ⟨rfl, hb⟩; have n0_ := Z0.mk (kB (g := gb235) (o := .cells #[.int .i64 a0_0, .slice A0_1 l0_1.length c0_1] 24 (0, 0)) (by (with_reducible repeat (first | refine kN ?_ _ | refine kD ?_ | refine kA ?_ _)); exact BK235.out) hb); have n1_ := Z0.mk (bT (by repeat (first | (with_reducible first | exact HB.out | apply below_alloc | apply bN | apply bD | refine bS ?_ GE235.out) | exact HB.out)) hb); clear BK235; clear HB; have BK235 := n0_; have HB := n1_; clear n0_ n1_; (try clear hb); (try clear hb2); (try clear hk); (try clear hi))))
  go_ret
  exact ⟨by first | rfl | (simp [errW_none, errW_some] <;> rfl) | (simp [*, errW_none, errW_some] <;> rfl), by repeat (first | (with_reducible first | exact HB.out | apply below_alloc | apply bN | apply bD | refine bS ?_ GE235.out) | exact HB.out)⟩
def qr14In.l0 : Nat → List Int → List Int → Int → Int → List (S37) → Option (List Int)
 | 0, _, _, _, _, _ => none
 | k + 1, x1, x5, x6, x243000, x243001 => if x6 < (x243001.length : Int) then ((qr14Has.f k x1 x6).bind fun t243 => (if t243 = true then (qr14In.l0 k x1 x5 (wrap64 (x6 + 1)) x243000 x243001) else (if x5.length < 17592186044416 then (qr14In.l0 k x1 (x5 ++ [x6]) (wrap64 (x6 + 1)) x243000 x243001) else (none)))) else (some x5)
def qr14In.f (k : Nat) (a0_0 : Int) (l0_1 : List (S37)) (l1 : List Int) : Option (List Int) := qr14In.l0 k l1 ([] : List Int) 0 a0_0 l0_1
set_option maxHeartbeats 8000000 in
set_option maxRecDepth 100000 in
theorem qr14In.calls (k : Nat) (a0_0 : Int) (A0_1 : Option Addr) (c0_1 : Nat) (l0_1 : List (S37)) (A1 : Option Addr) (c1 : Nat) (l1 : List Int) (r : List Int) (w : World) (hr0_1 : Kd.C k37 w A0_1 l0_1.length l0_1) (hc0_1 : l0_1.length ≤ c0_1) (hr1 : Kd.C (Kd.int .i64) w A1 l1.length l1) (hc1 : l1.length ≤ c1) (h : qr14In.f k a0_0 l0_1 l1 = some r) :
  Calls Try.prog 72 #[.agg #[.int .i64 a0_0, .slice A0_1 l0_1.length c0_1], .slice A1 l1.length c1] w fun e w' => ∃ v0_ : Value, e = .returned (v0_) ∧ Kd.R (Kd.int .i64) 3 w' w.heap.size (fun _ => True) v0_ r ∧ Below w.heap.size w w' := by
 have hu24 := Try.underlying24
 have HR0_1 := Z0.mk hr0_1
 have HC0_1 := Z0.mk hc0_1
 clear hr0_1 hc0_1
 have HR1 := Z0.mk hr1
 have HC1 := Z0.mk hc1
 clear hr1 hc1
 have HB := Z0.mk (Below.refl w.heap.size w)
 have H : (qr14In.l0 k l1 ([] : List Int) 0 a0_0 l0_1) = some r := h
 clear h
 have H' := Z0.mk H
 clear H
 go_enter Try.func72, Try.ntmps72
 go_wp2_with (first | ((with_reducible refine gate_dst (N := 2) rfl ?_); refine bE ?hg (N := 2) ?hd (cs := #[.int .i64 a0_0, .slice A0_1 l0_1.length c0_1]) (t := 24) ?hr ?_; (case hd => rfl); (case hg => rfl); (case hr => first | (go_simp; done) | (go_simp; rfl)); intro gb242 hg w3 hbox hb; have n0_ := Z0.mk (bT (by repeat (first | (with_reducible first | exact HB.out | apply below_alloc | apply bN | apply bD) | exact HB.out)) hb); have n1_ := Z0.mk (hbox); have n2_ := Z0.mk ((by rw [hg]; exact (bZ (by repeat (first | (with_reducible first | exact HB.out | apply below_alloc | apply bN | apply bD) | exact HB.out))) : w.heap.size ≤ gb242)); have n3_ := Z0.mk ((by rw [hg]; exact (bZ (by repeat (first | (with_reducible first | exact HB.out | apply below_alloc | apply bN | apply bD) | exact HB.out))) : w.heap.size ≤ gb242)); clear HB; have HB := n0_; have BK242 := n1_; have GW242 := n2_; have GE242 := n3_; clear n0_ n1_ n2_ n3_; clear hb hbox hg))
 go_loopg [5, 6] k (fun kq v5 v6 w' => ∃ (x5_1 : List Int) (x6_1 : Int), v6 = .int .i64 x6_1 ∧ Z0 (qr14In.l0 kq l1 x5_1 x6_1 a0_0 l0_1 = some r) ∧ Z0 (kq ≤ k) ∧ Z0 (Kd.R (Kd.int .i64) 3 w' w.heap.size (fun _ => True) v5 x5_1) ∧ Z0 (w'.heap[gb242]? = some (.cells #[.int .i64 a0_0, (.slice A0_1 l0_1.length c0_1)] 24 (0, 0))) ∧ Z0 (Below w.heap.size w w'))
 case atStart => exact ⟨(([] : List Int)), (0), (by first | rfl | (simp; done) | (simp [*]; done)), H', ⟨Nat.le_refl _⟩, ⟨by first | exact Kd.R_nil _ _ _ _ _ | exact Kd.N_nil _ _ _ _ _ | exact Kd.V_nil _ _ _ _ _ | exact Kd.Q_nil _ _ _ _ _ | exact Kd.S_nil _ _ _ _ _⟩, ⟨by (with_reducible repeat (first | refine kN ?_ _ | refine kD ?_ | refine kA ?_ _)); exact BK242.out⟩, ⟨by repeat (first | (with_reducible first | exact HB.out | apply below_alloc | apply bN | apply bD | refine bS ?_ GE242.out) | exact HB.out)⟩⟩
 case round =>
  clear H'; (try clear c1); (try clear p2)
  obtain ⟨x5_1, x6_1, rfl, HA, HK1, HO_5, BK242, HB⟩ := hrel
  cases gk with
  | zero => exact absurd HA.out (by simp [qr14In.l0])
  | succ k1 =>
   have H := HA.out
   clear HA
   simp only [qr14In.l0] at H
   by_cases c4 : x6_1 < (l0_1.length : Int)
   ·rw [if_pos c4] at H
    have c4b0 : decide (x6_1 < (l0_1.length : Int)) = true := decide_eq_true c4
    clear c4
    replace H := Option.bind_eq_some_iff.mp H
    obtain ⟨t243, A50, H⟩ := H
    replace H : (if t243 = true then (qr14In.l0 k1 l1 x5_1 (wrap64 (x6_1 + 1)) a0_0 l0_1) else (if x5_1.length < 17592186044416 then (qr14In.l0 k1 l1 (x5_1 ++ [x6_1]) (wrap64 (x6_1 + 1)) a0_0 l0_1) else (none))) = some r := H
    have A5 := Z0.mk A50
    clear A50
    by_cases c6 : t243 = true
    ·subst c6
     have H1 : (qr14In.l0 k1 l1 x5_1 (wrap64 (x6_1 + 1)) a0_0 l0_1) = some r := by rw [if_pos rfl] at H; exact H
     clear H
     have H := H1
     clear H1
     have H' := Z0.mk H
     clear H
     have hcz7_0 : wr.cell? ⟨gb242, 0, none⟩ = some (.int .i64 a0_0) := (kC BK242.out 0).trans rfl
     have hcz7_1 : wr.cell? ⟨gb242, 1, none⟩ = some (.slice A0_1 l0_1.length c0_1) := (kC BK242.out 1).trans rfl
     have hfz7_0 := kF BK242.out 0
     have hfz7_1 := kF BK242.out 1
     go_wp2_with (first | ((with_reducible refine gC (f := 97) rfl ?_); refine gL (some 16) rfl rfl Try.func97 (by kernel_rfl) rfl #[.slice A1 l1.length c1, .int .i64 x6_1] rfl (by (try simp only [List.map_toArray, List.map_cons, List.map_nil]); first | done | rfl | (simp only [List.length_drop, List.length_take]; rfl)) ?_; (with_reducible refine (qr14Has.calls k1 _ _ l1 x6_1 true _ ?side1 ?side2 A5.out).mono ?_); (case side1 => repeat (first | exact (Kd.C_below HR1.out HB.out) | (with_reducible refine Kd.C_alloc ?_ _) | (with_reducible refine Kd.C_drewN ?_ _) | (with_reducible refine Kd.C_drew ?_))); (case side2 => exact HC1.out); rintro e w' ⟨rfl, ⟨nd, rfl⟩⟩; refine ⟨_, rfl, ?_⟩))
     go_roundg k1
     case measure => have := HK1.out; omega
     case rel => exact ⟨(x5_1), (wrap64 (x6_1 + 1)), (by first | rfl | (simp; done) | (simp [*]; done)), H', ⟨by have := HK1.out; omega⟩, ⟨by (with_reducible repeat (first | apply Kd.R_alloc | apply Kd.R_drewN | apply Kd.R_drew)); exact HO_5.out⟩, ⟨by (with_reducible repeat (first | refine kN ?_ _ | refine kD ?_ | refine kA ?_ _)); exact BK242.out⟩, ⟨by repeat (first | (with_reducible first | exact HB.out | apply below_alloc | apply bN | apply bD | refine bS ?_ GE242.out) | exact HB.out)⟩⟩
    ·replace c6 := Bool.eq_false_iff.mpr c6
     subst c6
     have H1 : (if x5_1.length < 17592186044416 then (qr14In.l0 k1 l1 (x5_1 ++ [x6_1]) (wrap64 (x6_1 + 1)) a0_0 l0_1) else (none)) = some r := by rw [if_neg (show ¬ (false = true) by decide)] at H; exact H
     clear H
     have H := H1
     clear H1
     by_cases c8 : x5_1.length < 17592186044416
     ·rw [if_pos c8] at H
      have LMc8 := Z0.mk c8
      clear c8
      obtain ⟨y244, hy244⟩ : ∃ y_ : List Int, y_ = (x5_1 ++ [x6_1]) := ⟨_, rfl⟩
      replace H : (qr14In.l0 k1 l1 y244 (wrap64 (x6_1 + 1)) a0_0 l0_1) = some r := by first | (rw [hy244]; with_reducible exact H) | (have H2_ := (Option.bind_some _ _).symm.trans H; rw [hy244]; with_reducible exact H2_) | (have H2_ := (Option.bind_some _ _).symm.trans H; with_reducible exact H2_) | with_reducible exact H | (rw [hy244]; exact H) | exact H
      have Ny244 := Z0.mk hy244
      clear hy244
      have H' := Z0.mk H
      clear H
      have hcz9_0 : wr.cell? ⟨gb242, 0, none⟩ = some (.int .i64 a0_0) := (kC BK242.out 0).trans rfl
      have hcz9_1 : wr.cell? ⟨gb242, 1, none⟩ = some (.slice A0_1 l0_1.length c0_1) := (kC BK242.out 1).trans rfl
      have hfz9_0 := kF BK242.out 0
      have hfz9_1 := kF BK242.out 1
      go_wp2_with (first | ((with_reducible refine gC (f := 97) rfl ?_); refine gL (some 16) rfl rfl Try.func97 (by kernel_rfl) rfl #[.slice A1 l1.length c1, .int .i64 x6_1] rfl (by (try simp only [List.map_toArray, List.map_cons, List.map_nil]); first | done | rfl | (simp only [List.length_drop, List.length_take]; rfl)) ?_; (with_reducible refine (qr14Has.calls k1 _ _ l1 x6_1 false _ ?side1 ?side2 A5.out).mono ?_); (case side1 => repeat (first | exact (Kd.C_below HR1.out HB.out) | (with_reducible refine Kd.C_alloc ?_ _) | (with_reducible refine Kd.C_drewN ?_ _) | (with_reducible refine Kd.C_drew ?_))); (case side2 => exact HC1.out); rintro e w' ⟨rfl, ⟨nd, rfl⟩⟩; refine ⟨_, rfl, ?_⟩) | ((with_reducible refine gate_builtin (b := .append) (xs := #[.tmp 18, .tmp 20]) rfl ?_); at_builtin; refine Kd.R_append (Kd.int .i64) (w0 := w) w.heap.size rfl (.tmp 18) (.tmp 20) 25 3 (.int .i64 0) 8 rfl Try.underlying25 info3 rfl (by decide) (by omega) u5 x5_1 x6_1 [.int .i64 x6_1] (fun _ => True) (fun _ => False) rfl rfl ?aP (fun _ hk => hk.elim) ?aF ?aO ?aB ?aS ?aL ?_; (case aP => exact rfl); (case aB => exact (by repeat (first | (with_reducible first | exact HB.out | apply below_alloc | apply bN | apply bD | refine bS ?_ GE242.out) | exact HB.out))); (case aF => exact (fun _ _ => trivial)); (case aO => exact (by (with_reducible repeat (first | apply Kd.R_alloc | apply Kd.R_drewN | apply Kd.R_drew)); exact HO_5.out)); (case aS => exact (bZ (by repeat (first | (with_reducible first | exact HB.out | apply below_alloc | apply bN | apply bD | refine bS ?_ GE242.out) | exact HB.out)))); (case aL => have := LMc8.out; omega); intro v245 w10 ho hb hg hat; rw [← Ny244.out] at ho; have n0_ := Z0.mk (blk_grown (g := gb242) (o := .cells #[.int .i64 a0_0, .slice A0_1 l0_1.length c0_1] 24 (0, 0)) (by (with_reducible repeat (first | refine kN ?_ _ | refine kD ?_ | refine kA ?_ _)); exact BK242.out) hg (Kd.R_ne HO_5.out BK242.out (by decide))); have n1_ := Z0.mk (hb); have n2_ := Z0.mk (ho); clear BK242; clear HB; clear HO_5; have BK242 := n0_; have HB := n1_; have HO246 := n2_; clear n0_ n1_ n2_; clear ho hb hg hat))
      go_roundg k1
      case measure => have := HK1.out; omega
      case rel => exact ⟨(y244), (wrap64 (x6_1 + 1)), (by first | rfl | (simp; done) | (simp [*]; done)), H', ⟨by have := HK1.out; omega⟩, ⟨by (with_reducible repeat (first | apply Kd.R_alloc | apply Kd.R_drewN | apply Kd.R_drew)); exact HO246.out⟩, ⟨by (with_reducible repeat (first | refine kN ?_ _ | refine kD ?_ | refine kA ?_ _)); exact BK242.out⟩, ⟨by repeat (first | (with_reducible first | exact HB.out | apply below_alloc | apply bN | apply bD | refine bS ?_ GE242.out) | exact HB.out)⟩⟩
     ·rw [if_neg c8] at H
      exact absurd H (by simp)
   ·rw [if_neg c4] at H
    have c4b0 : decide (x6_1 < (l0_1.length : Int)) = false := decide_eq_false c4
    clear c4
    obtain rfl := Option.some.inj H
    have hcz11_0 : wr.cell? ⟨gb242, 0, none⟩ = some (.int .i64 a0_0) := (kC BK242.out 0).trans rfl
    have hcz11_1 : wr.cell? ⟨gb242, 1, none⟩ = some (.slice A0_1 l0_1.length c0_1) := (kC BK242.out 1).trans rfl
    have hfz11_0 := kF BK242.out 0
    have hfz11_1 := kF BK242.out 1
    go_wp2
    go_ret
    exact ⟨_, by first | rfl | (simp [errW_none, errW_some] <;> rfl) | (simp [*, errW_none, errW_some] <;> rfl), by (with_reducible repeat (first | apply Kd.R_alloc | apply Kd.R_drewN | apply Kd.R_drew)); exact HO_5.out, by repeat (first | (with_reducible first | exact HB.out | apply below_alloc | apply bN | apply bD | refine bS ?_ GE242.out) | exact HB.out)⟩
end Go.Proofs.Ytdpgdelimffjpaa.P
