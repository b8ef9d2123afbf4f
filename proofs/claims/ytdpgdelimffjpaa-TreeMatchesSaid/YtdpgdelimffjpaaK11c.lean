/- Texts of this claim, merged: the words that print.sh and the prover's driver wrote, and hand-proved contracts and lemmas, less what this claim does not name. Lean checks them. -/
import Derived.Lib.Hide
import Derived.Defers
import Derived.Deep.LoopGhost
import Derived.BigQuiet
import Derived.BigRegion
import Derived.Outline
import Derived.Test.YtdpgdelimffjpaaK11a
import Derived.Test.YtdpgdelimffjpaaK11b
namespace Go.Proofs.Ytdpgdelimffjpaa.P
open Go.RowKit Go.Proofs.YtdpgdelimffjpaaW.PrintWords Go.Proofs.YtdpgdelimffjpaaW.PrintLast Go.Proofs.YtdpgdelimffjpaaW.PrintMore
attribute [local go_sem] max2_int min2_int max_two min_two max_three min_three max_four min_four
set_option linter.unusedVariables false
set_option linter.unusedSimpArgs false
def tTree.l0 : Nat → List Int → Int → List Int → Int → Int → Int → List (S37) → Option (List Int × Int)
 | 0, _, _, _, _, _, _, _ => none
 | k + 1, x4, x5, x17, x18, x19, x584000, x584001 => if x19 < x18 then (if 0 ≤ x19 then (if x19 < (x17.length : Int) then ((tout.f k x584000 x584001 x4).bind fun t589 => (if 0 ≤ (rd x17 x19) then (if (rd x17 x19) < (x584001.length : Int) then ((iConnected.f x584000 x584001 t589 ((rd_T37 x584001 (rd x17 x19)).f0) ((rd_T37 x584001 (rd x17 x19)).f1)).bind fun bt594 => (if bt594.1 = true then (tTree.l0 k x4 x5 x17 x18 (wrap64 (x19 + 1)) x584000 x584001) else (if x4.length < 17592186044416 then (tTree.l0 k (x4 ++ [rd x17 x19]) x5 x17 x18 (wrap64 (x19 + 1)) x584000 x584001) else (none)))) else (none)) else (none))) else (none)) else (none)) else (some (x4, x5))
def tTree.f (k : Nat) (a0_0 : Int) (l0_1 : List (S37)) (l1 : List Int) : Option (List Int × Int) := (nIn.f a0_0 l0_1 l1).bind fun bt584 => (tTree.l0 k ([] : List Int) bt584.2 bt584.1 (bt584.1.length : Int) 0 a0_0 l0_1)
def tTree.T5 : Bool × List (List Nat × List Nat) := (true, [([], []), ([], []), ([], []), ([1, 2], [1, 2]), ([], []), ([4], [4]), ([], []), ([5, 6], [5, 6]), ([7], [7]), ([8], [8]), ([], []), ([10], [10]), ([], []), ([11, 12], [11, 12]), ([13], [13]), ([14], [14]), ([0, 3, 9, 15, 3], [0, 3, 9, 15]), ([16], [16]), ([17], [17]), ([17], [17]), ([18, 16, 0, 1, 2, 3, 4, 5, 6, 7, 8, 9, 10, 11, 12, 13, 14, 15, 16, 17, 18], [18]), ([19, 20, 0, 1, 2, 3, 4, 5, 6, 7, 8, 9, 10, 11, 12, 13, 14, 15, 16, 17, 18, 19, 20], [19])])
def tTree.B5 : List Nat := [0, 0, 0, 6, 0, 16, 0, 112, 240, 496, 0, 1024, 0, 7168, 15360, 31744, 65535, 131071, 262143, 262143, 524287, 2097151]
theorem tTree.tab5 : rtab .any (opsOf Try.f56 5) = tTree.T5 := by kernel_rfl
theorem tTree.bits5 : waitsOk tTree.T5.2 tTree.B5 = true := by kernel_rfl
set_option maxHeartbeats 8000000 in
set_option maxRecDepth 100000 in
theorem tTree.calls (k : Nat) (a0_0 : Int) (A0_1 : Option Addr) (c0_1 : Nat) (l0_1 : List (S37)) (A1 : Option Addr) (c1 : Nat) (l1 : List Int) (r1 : List Int) (r2 : Int) (w : World) (hr0_1 : Kd.C k37 w A0_1 l0_1.length l0_1) (hc0_1 : l0_1.length ≤ c0_1) (hr1 : Kd.C (Kd.int .i64) w A1 l1.length l1) (hc1 : l1.length ≤ c1) (h : tTree.f k a0_0 l0_1 l1 = some (r1, r2)) :
  Calls Try.prog 56 #[.agg #[.int .i64 a0_0, .slice A0_1 l0_1.length c0_1], .slice A1 l1.length c1] w fun e w' => ∃ v0_ : Value, e = .returned (.tuple #[v0_, .int .i64 r2]) ∧ Kd.R (Kd.int .i64) 3 w' w.heap.size (fun _ => True) v0_ r1 ∧ Below w.heap.size w w' := by
 have hu24 := Try.underlying24
 have HR0_1 := Z0.mk hr0_1
 have HC0_1 := Z0.mk hc0_1
 clear hr0_1 hc0_1
 have HR1 := Z0.mk hr1
 have HC1 := Z0.mk hc1
 clear hr1 hc1
 have HB := Z0.mk (Below.refl w.heap.size w)
 have H : ((nIn.f a0_0 l0_1 l1).bind fun bt584 => (tTree.l0 k ([] : List Int) bt584.2 bt584.1 (bt584.1.length : Int) 0 a0_0 l0_1)) = some (r1, r2) := h
 clear h
 replace H := Option.bind_eq_some_iff.mp H
 obtain ⟨⟨t584, t587⟩, A30, H⟩ := H
 replace H : (tTree.l0 k ([] : List Int) t587 t584 (t584.length : Int) 0 a0_0 l0_1) = some (r1, r2) := H
 have A3 := Z0.mk A30
 clear A30
 have H' := Z0.mk H
 clear H
 go_enter Try.func56, Try.ntmps56
 go_wp2_with (first | ((with_reducible refine gate_dst (N := 2) rfl ?_); refine bE ?hg (N := 2) ?hd (cs := #[.int .i64 a0_0, .slice A0_1 l0_1.length c0_1]) (t := 24) ?hr ?_; (case hd => rfl); (case hg => rfl); (case hr => first | (go_simp; done) | (go_simp; rfl)); intro gb583 hg w4 hbox hb; have n0_ := Z0.mk (bT (by repeat (first | (with_reducible first | exact HB.out | apply below_alloc | apply bN | apply bD) | exact HB.out)) hb); have n1_ := Z0.mk (hbox); have n2_ := Z0.mk ((by rw [hg]; exact (bZ (by repeat (first | (with_reducible first | exact HB.out | apply below_alloc | apply bN | apply bD) | exact HB.out))) : w.heap.size ≤ gb583)); have n3_ := Z0.mk ((by rw [hg]; exact (bZ (by repeat (first | (with_reducible first | exact HB.out | apply below_alloc | apply bN | apply bD) | exact HB.out))) : w.heap.size ≤ gb583)); clear HB; have HB := n0_; have BK583 := n1_; have GW583 := n2_; have GE583 := n3_; clear n0_ n1_ n2_ n3_; clear hb hbox hg; have hcz5_0 : w4.cell? ⟨gb583, 0, none⟩ = some (.int .i64 a0_0) := (kC BK583.out 0).trans rfl; have hcz5_1 : w4.cell? ⟨gb583, 1, none⟩ = some (.slice A0_1 l0_1.length c0_1) := (kC BK583.out 1).trans rfl; have hfz5_0 := kF BK583.out 0; have hfz5_1 := kF BK583.out 1) | ((with_reducible refine gC (f := 59) rfl ?_); refine gL (some 14) rfl rfl Try.func59 (by kernel_rfl) rfl #[.agg #[.int .i64 a0_0, .slice A0_1 l0_1.length c0_1], .slice A1 l1.length c1] rfl (by (try simp only [List.map_toArray, List.map_cons, List.map_nil]); first | done | rfl | (simp only [List.length_drop, List.length_take]; rfl)) ?_; (with_reducible refine (nIn.calls a0_0 _ _ l0_1 _ _ l1 t584 t587 _ ?side1 ?side2 ?side3 ?side4 A3.out).mono ?_); (case side1 => repeat (first | exact (Kd.C_below HR0_1.out HB.out) | (with_reducible refine Kd.C_alloc ?_ _) | (with_reducible refine Kd.C_drewN ?_ _) | (with_reducible refine Kd.C_drew ?_))); (case side2 => exact HC0_1.out); (case side3 => repeat (first | exact (Kd.C_below HR1.out HB.out) | (with_reducible refine Kd.C_alloc ?_ _) | (with_reducible refine Kd.C_drewN ?_ _) | (with_reducible refine Kd.C_drew ?_))); (case side4 => exact HC1.out); rintro e w6 ⟨v585, rfl, ho0, hb⟩; refine ⟨_, rfl, ?_⟩; have n0_ := Z0.mk (Kd.R_lower ho0 (bZ (by repeat (first | (with_reducible first | exact HB.out | apply below_alloc | apply bN | apply bD | refine bS ?_ GE583.out) | exact HB.out)))); have n1_ := Z0.mk (kB (g := gb583) (o := .cells #[.int .i64 a0_0, .slice A0_1 l0_1.length c0_1] 24 (0, 0)) (by (with_reducible repeat (first | refine kN ?_ _ | refine kD ?_ | refine kA ?_ _)); exact BK583.out) hb); have n2_ := Z0.mk (bT (by repeat (first | (with_reducible first | exact HB.out | apply below_alloc | apply bN | apply bD | refine bS ?_ GE583.out) | exact HB.out)) hb); clear BK583; clear HB; have HO586 := n0_; have BK583 := n1_; have HB := n2_; clear n0_ n1_ n2_; (try clear hb); (try clear hb2); (try clear hk); (try clear hi); (try clear ho0); obtain ⟨Ao7, co7, eo7⟩ := Kd.R_slice HO586.out; subst eo7))
 go_loopg [4, 19] k (fun kq v4 v19 w' => ∃ (x4_1 : List Int) (x19_1 : Int), v19 = .int .i64 x19_1 ∧ Z0 (tTree.l0 kq x4_1 t587 t584 (t584.length : Int) x19_1 a0_0 l0_1 = some (r1, r2)) ∧ Z0 (kq ≤ k) ∧ Z0 (Kd.R (Kd.int .i64) 3 w' w.heap.size (fun k_ => some k_ ≠ ((.slice Ao7 t584.length co7) : Value).ownBlock) v4 x4_1) ∧ Z0 (Kd.R (Kd.int .i64) 3 w' w.heap.size (fun k_ => some k_ ≠ (v4 : Value).ownBlock) (.slice Ao7 t584.length co7) t584) ∧ Z0 (w'.heap[gb583]? = some (.cells #[.int .i64 a0_0, (.slice A0_1 l0_1.length c0_1)] 24 (0, 0))) ∧ Z0 (Below w.heap.size w w'))
 case atStart => exact ⟨(([] : List Int)), (0), (by first | rfl | (simp; done) | (simp [*]; done)), H', ⟨Nat.le_refl _⟩, ⟨by first | exact Kd.R_nil _ _ _ _ _ | exact Kd.N_nil _ _ _ _ _ | exact Kd.V_nil _ _ _ _ _ | exact Kd.Q_nil _ _ _ _ _ | exact Kd.S_nil _ _ _ _ _⟩, ⟨by (with_reducible repeat (first | apply Kd.R_alloc | apply Kd.R_drewN | apply Kd.R_drew)); exact Kd.R_mono HO586.out (fun _ hk => (by simp [Value.ownBlock]))⟩, ⟨by (with_reducible repeat (first | refine kN ?_ _ | refine kD ?_ | refine kA ?_ _)); exact BK583.out⟩, ⟨by repeat (first | (with_reducible first | exact HB.out | apply below_alloc | apply bN | apply bD | refine bS ?_ GE583.out) | exact HB.out)⟩⟩
 case round =>
  clear H'; (try clear c1); (try clear p2); (try clear c5); (try clear hcz5_0); (try clear hcz5_1); (try clear hfz5_0); (try clear hfz5_1)
  obtain ⟨x4_1, x19_1, rfl, HA, HK1, HO_4, HO_17, BK583, HB⟩ := hrel
  cases gk with
  | zero => exact absurd HA.out (by simp [tTree.l0])
  | succ k1 =>
   have H := HA.out
   clear HA
   simp only [tTree.l0] at H
   by_cases c8 : x19_1 < (t584.length : Int)
   ·rw [if_pos c8] at H
    have c8b0 : decide (x19_1 < (t584.length : Int)) = true := decide_eq_true c8
    clear c8
    by_cases c9 : 0 ≤ x19_1
    ·rw [if_pos c9] at H
     have c9b0 : decide (0 ≤ x19_1) = true := decide_eq_true c9
     clear c9
     by_cases c10 : x19_1 < (t584.length : Int)
     ·rw [if_pos c10] at H
      have c10b0 : decide (x19_1 < (t584.length : Int)) = true := decide_eq_true c10
      clear c10
      replace H := Option.bind_eq_some_iff.mp H
      obtain ⟨t589, A110, H⟩ := H
      replace H : (if 0 ≤ (rd t584 x19_1) then (if (rd t584 x19_1) < (l0_1.length : Int) then ((iConnected.f a0_0 l0_1 t589 ((rd_T37 l0_1 (rd t584 x19_1)).f0) ((rd_T37 l0_1 (rd t584 x19_1)).f1)).bind fun bt594 => (if bt594.1 = true then (tTree.l0 k1 x4_1 t587 t584 (t584.length : Int) (wrap64 (x19_1 + 1)) a0_0 l0_1) else (if x4_1.length < 17592186044416 then (tTree.l0 k1 (x4_1 ++ [rd t584 x19_1]) t587 t584 (t584.length : Int) (wrap64 (x19_1 + 1)) a0_0 l0_1) else (none)))) else (none)) else (none)) = some (r1, r2) := H
      have A11 := Z0.mk A110
      clear A110
      by_cases c12 : 0 ≤ (rd t584 x19_1)
      ·rw [if_pos c12] at H
       have c12b0 : decide (0 ≤ (rd t584 x19_1)) = true := decide_eq_true c12
       clear c12
       by_cases c13 : (rd t584 x19_1) < (l0_1.length : Int)
       ·rw [if_pos c13] at H
        have c13b0 : decide ((rd t584 x19_1) < (l0_1.length : Int)) = true := decide_eq_true c13
        clear c13
        replace H := Option.bind_eq_some_iff.mp H
        obtain ⟨⟨t594, t595⟩, A140, H⟩ := H
        replace H : (if t594 = true then (tTree.l0 k1 x4_1 t587 t584 (t584.length : Int) (wrap64 (x19_1 + 1)) a0_0 l0_1) else (if x4_1.length < 17592186044416 then (tTree.l0 k1 (x4_1 ++ [rd t584 x19_1]) t587 t584 (t584.length : Int) (wrap64 (x19_1 + 1)) a0_0 l0_1) else (none))) = some (r1, r2) := H
        have A14 := Z0.mk A140
        clear A140
        by_cases c15 : t594 = true
        ·subst c15
         have H1 : (tTree.l0 k1 x4_1 t587 t584 (t584.length : Int) (wrap64 (x19_1 + 1)) a0_0 l0_1) = some (r1, r2) := by rw [if_pos rfl] at H; exact H
         clear H
         have H := H1
         clear H1
         have H' := Z0.mk H
         clear H
         have p588 : 0 ≤ (x19_1 : Int) := of_decide_eq_true (by first | (with_reducible assumption) | assumption)
         have q588 : x19_1 < (t584.length : Int) := of_decide_eq_true (by first | (with_reducible assumption) | assumption)
         obtain ⟨ad588, e588, hx588_0⟩ := Kd.at_int (Kd.R_reads' HO_17.out).2.2 x19_1 p588 q588
         cases e588
         replace p588 := eq_true p588
         replace q588 := eq_true q588
         try go_wp2
         have n0_ := Z0.mk (Kd.R_drew HO_4.out)
         have n1_ := Z0.mk (Kd.R_drew HO_17.out)
         have n2_ := Z0.mk (kD BK583.out)
         have n3_ := Z0.mk (bD HB.out)
         clear HO_4; clear HO_17; clear BK583; clear HB
         have HO_4 := n0_
         have HO_17 := n1_
         have BK583 := n2_
         have HB := n3_
         clear n0_ n1_ n2_ n3_
         have p592 : 0 ≤ ((rd t584 x19_1) : Int) := of_decide_eq_true (by first | (with_reducible assumption) | assumption)
         have q592 : (rd t584 x19_1) < (l0_1.length : Int) := of_decide_eq_true (by first | (with_reducible assumption) | assumption)
         obtain ⟨ad592, e592, hx592_0, hx592_1, hx592_2, hx592_3⟩ := at_T37 HR0_1.out (rd t584 x19_1) p592 q592
         have hw592_3 := hx592_3
         have hw592_2 := hx592_2
         have hw592_1 := hx592_1
         have hw592_0 := hx592_0
         cases e592
         replace hx592_0 := (HB.out.cell (wlt0 w _ hx592_0)).trans hx592_0
         replace hx592_1 := (HB.out.cell (wlt0 w _ hx592_1)).trans hx592_1
         replace hx592_2 := (HB.out.cell (wlt0 w _ hx592_2)).trans hx592_2
         replace hx592_3 := (HB.out.cell (wlt0 w _ hx592_3)).trans hx592_3
         replace p592 := eq_true p592
         replace q592 := eq_true q592
         have p593 : 0 ≤ ((rd t584 x19_1) : Int) := of_decide_eq_true (by first | (with_reducible assumption) | assumption)
         have q593 : (rd t584 x19_1) < (l0_1.length : Int) := of_decide_eq_true (by first | (with_reducible assumption) | assumption)
         obtain ⟨ad593, e593, hx593_0, hx593_1, hx593_2, hx593_3⟩ := at_T37 HR0_1.out (rd t584 x19_1) p593 q593
         have hw593_3 := hx593_3
         have hw593_2 := hx593_2
         have hw593_1 := hx593_1
         have hw593_0 := hx593_0
         obtain rfl : ad592 = ad593 := (by injection e593)
         replace hx593_0 := (HB.out.cell (wlt0 w _ hx593_0)).trans hx593_0
         replace hx593_1 := (HB.out.cell (wlt0 w _ hx593_1)).trans hx593_1
         replace hx593_2 := (HB.out.cell (wlt0 w _ hx593_2)).trans hx593_2
         replace hx593_3 := (HB.out.cell (wlt0 w _ hx593_3)).trans hx593_3
         replace p593 := eq_true p593
         replace q593 := eq_true q593
         obtain ⟨Ao17, co17, eo17⟩ := Kd.R_slice HO_4.out
         (first | subst eo17 | (injection eo17 with f1_ f2_ f3_; have f4_ := f1_.symm; have f5_ := f3_.symm; clear f1_ f2_ f3_; subst f4_; subst f5_))
         refine start_ (n := 22) (S := fun w' => w'.cell? ⟨gb583, 0, none⟩ = some (.int .i64 a0_0) ∧ w'.cell? ⟨gb583, 1, none⟩ = some (.slice (some ad592) l0_1.length c0_1) ∧ w'.cell? (ad592.add (((rd t584 x19_1)).toNat * 4)) = some (.int .i64 ((rd_T37 l0_1 (rd t584 x19_1)).f0)) ∧ w'.cell? ⟨(ad592.add (((rd t584 x19_1)).toNat * 4)).block, (ad592.add (((rd t584 x19_1)).toNat * 4)).off + 1, none⟩ = some (.int .i64 ((rd_T37 l0_1 (rd t584 x19_1)).f1)) ∧ w'.cell? ⟨(ad592.add (((rd t584 x19_1)).toNat * 4)).block, (ad592.add (((rd t584 x19_1)).toNat * 4)).off + 2, none⟩ = some (.int .i64 ((rd_T37 l0_1 (rd t584 x19_1)).f2)) ∧ w'.cell? ⟨(ad592.add (((rd t584 x19_1)).toNat * 4)).block, (ad592.add (((rd t584 x19_1)).toNat * 4)).off + 3, none⟩ = some (.int .i64 ((rd_T37 l0_1 (rd t584 x19_1)).f3)) ∧ w'.cell? (ad592.add (((rd t584 x19_1)).toNat * 4)) = some (.int .i64 ((rd_T37 l0_1 (rd t584 x19_1)).f0)) ∧ w'.cell? ⟨(ad592.add (((rd t584 x19_1)).toNat * 4)).block, (ad592.add (((rd t584 x19_1)).toNat * 4)).off + 1, none⟩ = some (.int .i64 ((rd_T37 l0_1 (rd t584 x19_1)).f1)) ∧ w'.cell? ⟨(ad592.add (((rd t584 x19_1)).toNat * 4)).block, (ad592.add (((rd t584 x19_1)).toNat * 4)).off + 2, none⟩ = some (.int .i64 ((rd_T37 l0_1 (rd t584 x19_1)).f2)) ∧ w'.cell? ⟨(ad592.add (((rd t584 x19_1)).toNat * 4)).block, (ad592.add (((rd t584 x19_1)).toNat * 4)).off + 3, none⟩ = some (.int .i64 ((rd_T37 l0_1 (rd t584 x19_1)).f3))) (ds := []) #[false,false,false,false,false,false,false,false,false,false,false,false,false,false,false,false,false,false,false,false,false,false] (by kernel_rfl) rfl rfl ⟨(kC BK583.out 0).trans rfl, (kC BK583.out 1).trans rfl, ((HB.out.cell (wlt0 w _ hw592_0)).trans hw592_0), ((HB.out.cell (wlt0 w _ hw592_1)).trans hw592_1), ((HB.out.cell (wlt0 w _ hw592_2)).trans hw592_2), ((HB.out.cell (wlt0 w _ hw592_3)).trans hw592_3), ((HB.out.cell (wlt0 w _ hw593_0)).trans hw593_0), ((HB.out.cell (wlt0 w _ hw593_1)).trans hw593_1), ((HB.out.cell (wlt0 w _ hw593_2)).trans hw593_2), ((HB.out.cell (wlt0 w _ hw593_3)).trans hw593_3)⟩ (fun hHeld => ?_); refine with_tabW tTree.tab5 tTree.bits5 (fun HT_ HW_ => ?_)
         generalize wr.drew = w16 at HO_4 HO_17 BK583 HB hx592_0 hx592_1 hx592_2 hx592_3 hx593_0 hx593_1 hx593_2 hx593_3 hHeld ⊢
         refine pure_ (i := 2) (N := some 26) (v := ?_) (a' := ?_) #[false,false,true,false,false,false,false,false,false,false,false,false,false,false,false,false,false,false,false,false,false,false] rfl rfl (any_of HT_.out (by kernel_rfl)) (fun _ _ _ h => h) (Or.inl ⟨by rfl, ?_⟩) ?_ ?_
         rotate_left; (intro w'; go_simp; with_reducible rfl); rotate_left; (simp only [Act.put, List.setIfInBounds_toArray, List.set_cons_zero, List.set_cons_succ, i64_w, i32_w]; rfl)
         refine pure_ (i := 4) (N := some 28) (v := ?_) (a' := ?_) #[false,false,true,false,true,false,false,false,false,false,false,false,false,false,false,false,false,false,false,false,false,false] rfl rfl (any_of HT_.out (by kernel_rfl)) (fun _ _ _ h => h) (Or.inl ⟨by rfl, ?_⟩) ?_ ?_
         rotate_left; (intro w'; go_simp; with_reducible rfl); rotate_left; (simp only [Act.put, List.setIfInBounds_toArray, List.set_cons_zero, List.set_cons_succ, i64_w, i32_w]; rfl)
         refine pure_ (i := 6) (N := some 30) (v := ?_) (a' := ?_) #[false,false,true,false,true,false,true,false,false,false,false,false,false,false,false,false,false,false,false,false,false,false] rfl rfl (any_of HT_.out (by kernel_rfl)) (fun _ _ _ h => h) (Or.inl ⟨by rfl, ?_⟩) ?_ ?_
         rotate_left; (intro w'; go_simp; with_reducible rfl); rotate_left; (simp only [Act.put, List.setIfInBounds_toArray, List.set_cons_zero, List.set_cons_succ, i64_w, i32_w]; rfl)
         refine pure_ (i := 10) (N := some 34) (v := ?_) (a' := ?_) #[false,false,true,false,true,false,true,false,false,false,true,false,false,false,false,false,false,false,false,false,false,false] rfl rfl (any_of HT_.out (by kernel_rfl)) (fun _ _ _ h => h) (Or.inl ⟨by rfl, ?_⟩) ?_ ?_
         rotate_left; (intro w'; go_simp; with_reducible rfl); rotate_left; (simp only [Act.put, List.setIfInBounds_toArray, List.set_cons_zero, List.set_cons_succ, i64_w, i32_w]; rfl)
         refine pure_ (i := 12) (N := some 36) (v := ?_) (a' := ?_) #[false,false,true,false,true,false,true,false,false,false,true,false,true,false,false,false,false,false,false,false,false,false] rfl rfl (any_of HT_.out (by kernel_rfl)) (fun _ _ _ h => h) (Or.inl ⟨by rfl, ?_⟩) ?_ ?_
         rotate_left; (intro w'; go_simp; with_reducible rfl); rotate_left; (simp only [Act.put, List.setIfInBounds_toArray, List.set_cons_zero, List.set_cons_succ, i64_w, i32_w]; rfl)
         refine take_ (i := 0) (N := some 24) (v := ?_) (a' := ?_) #[true,false,true,false,true,false,true,false,false,false,true,false,true,false,false,false,false,false,false,false,false,false] rfl rfl (take_ofW HT_.out HW_.out (by kernel_rfl)) (fun _ _ _ h => h) (Or.inl ⟨by rfl, ?_⟩) hHeld ?_ ?_
         rotate_left; (rintro w' ⟨s0, s1, s2, s3, s4, s5, s6, s7, s8, s9⟩; go_simp; with_reducible rfl); rotate_left; (simp only [Act.put, List.setIfInBounds_toArray, List.set_cons_zero, List.set_cons_succ, i64_w, i32_w]; rfl)
         refine take_ (i := 1) (N := some 25) (v := ?_) (a' := ?_) #[true,true,true,false,true,false,true,false,false,false,true,false,true,false,false,false,false,false,false,false,false,false] rfl rfl (take_ofW HT_.out HW_.out (by kernel_rfl)) (fun _ _ _ h => h) (Or.inl ⟨by rfl, ?_⟩) hHeld ?_ ?_
         rotate_left; (rintro w' ⟨s0, s1, s2, s3, s4, s5, s6, s7, s8, s9⟩; go_simp; with_reducible rfl); rotate_left; (simp only [Act.put, List.setIfInBounds_toArray, List.set_cons_zero, List.set_cons_succ, i64_w, i32_w]; rfl)
         refine take_ (i := 5) (N := some 29) (v := ?_) (a' := ?_) #[true,true,true,false,true,true,true,false,false,false,true,false,true,false,false,false,false,false,false,false,false,false] rfl rfl (take_ofW HT_.out HW_.out (by kernel_rfl)) (fun _ _ _ h => h) (Or.inl ⟨by rfl, ?_⟩) hHeld ?_ ?_
         rotate_left; (rintro w' ⟨s0, s1, s2, s3, s4, s5, s6, s7, s8, s9⟩; go_simp; with_reducible rfl); rotate_left; (simp only [Act.put, List.setIfInBounds_toArray, List.set_cons_zero, List.set_cons_succ, i64_w, i32_w]; rfl)
         refine pure_ (i := 7) (N := some 31) (v := ?_) (a' := ?_) #[true,true,true,false,true,true,true,true,false,false,true,false,true,false,false,false,false,false,false,false,false,false] rfl rfl (any_of HT_.out (by kernel_rfl)) (fun _ _ _ h => h) (Or.inl ⟨by rfl, ?_⟩) ?_ ?_
         rotate_left; (intro w'; go_simp; with_reducible rfl); rotate_left; (simp only [Act.put, List.setIfInBounds_toArray, List.set_cons_zero, List.set_cons_succ, i64_w, i32_w]; rfl)
         refine pure_ (i := 8) (N := some 32) (v := ?_) (a' := ?_) #[true,true,true,false,true,true,true,true,true,false,true,false,true,false,false,false,false,false,false,false,false,false] rfl rfl (any_of HT_.out (by kernel_rfl)) (fun _ _ _ h => h) (Or.inl ⟨by rfl, ?_⟩) ?_ ?_
         rotate_left; (intro w'; go_simp; with_reducible rfl); rotate_left; (simp only [Act.put, List.setIfInBounds_toArray, List.set_cons_zero, List.set_cons_succ, i64_w, i32_w]; rfl)
         refine take_ (i := 9) (N := some 33) (v := ?_) (a' := ?_) #[true,true,true,false,true,true,true,true,true,true,true,false,true,false,false,false,false,false,false,false,false,false] rfl rfl (take_ofW HT_.out HW_.out (by kernel_rfl)) (fun _ _ _ h => h) (Or.inl ⟨by rfl, ?_⟩) hHeld ?_ ?_
         rotate_left; (rintro w' ⟨s0, s1, s2, s3, s4, s5, s6, s7, s8, s9⟩; go_simp; with_reducible rfl); rotate_left; (simp only [Act.put, List.setIfInBounds_toArray, List.set_cons_zero, List.set_cons_succ, i64_w, i32_w]; rfl)
         refine take_ (i := 11) (N := some 35) (v := ?_) (a' := ?_) #[true,true,true,false,true,true,true,true,true,true,true,true,true,false,false,false,false,false,false,false,false,false] rfl rfl (take_ofW HT_.out HW_.out (by kernel_rfl)) (fun _ _ _ h => h) (Or.inl ⟨by rfl, ?_⟩) hHeld ?_ ?_
         rotate_left; (rintro w' ⟨s0, s1, s2, s3, s4, s5, s6, s7, s8, s9⟩; go_simp; with_reducible rfl); rotate_left; (simp only [Act.put, List.setIfInBounds_toArray, List.set_cons_zero, List.set_cons_succ, i64_w, i32_w]; rfl)
         refine pure_ (i := 13) (N := some 37) (v := ?_) (a' := ?_) #[true,true,true,false,true,true,true,true,true,true,true,true,true,true,false,false,false,false,false,false,false,false] rfl rfl (any_of HT_.out (by kernel_rfl)) (fun _ _ _ h => h) (Or.inl ⟨by rfl, ?_⟩) ?_ ?_
         rotate_left; (intro w'; go_simp; with_reducible rfl); rotate_left; (simp only [Act.put, List.setIfInBounds_toArray, List.set_cons_zero, List.set_cons_succ, i64_w, i32_w]; rfl)
         refine pure_ (i := 14) (N := some 38) (v := ?_) (a' := ?_) #[true,true,true,false,true,true,true,true,true,true,true,true,true,true,true,false,false,false,false,false,false,false] rfl rfl (any_of HT_.out (by kernel_rfl)) (fun _ _ _ h => h) (Or.inl ⟨by rfl, ?_⟩) ?_ ?_
         rotate_left; (intro w'; go_simp; with_reducible rfl); rotate_left; (simp only [Act.put, List.setIfInBounds_toArray, List.set_cons_zero, List.set_cons_succ, i64_w, i32_w]; rfl)
         refine take_ (i := 15) (N := some 39) (v := ?_) (a' := ?_) #[true,true,true,false,true,true,true,true,true,true,true,true,true,true,true,true,false,false,false,false,false,false] rfl rfl (take_ofW HT_.out HW_.out (by kernel_rfl)) (fun _ _ _ h => h) (Or.inl ⟨by rfl, ?_⟩) hHeld ?_ ?_
         rotate_left; (rintro w' ⟨s0, s1, s2, s3, s4, s5, s6, s7, s8, s9⟩; go_simp; with_reducible rfl); rotate_left; (simp only [Act.put, List.setIfInBounds_toArray, List.set_cons_zero, List.set_cons_succ, i64_w, i32_w]; rfl)
         refine one_ (i := 3) (N := some 27) #[true,true,true,true,true,true,true,true,true,true,true,true,true,true,true,true,false,false,false,false,false,false] rfl rfl (one_of HT_.out (by kernel_rfl)) (by decide) (fun K hK => ?_)
         refine goes_ Try.func101 (by kernel_rfl) rfl #[.agg #[.int .i64 a0_0, .slice (some ad592) l0_1.length c0_1], .slice Ao17 x4_1.length co17] (by rfl) rfl rfl (by (try simp only [List.map_toArray, List.map_cons, List.map_nil]); first | done | rfl | (simp only [List.length_drop, List.length_take]; rfl)) ?_
         with_reducible refine (tout.calls k1 a0_0 _ _ l0_1 _ _ x4_1 t589 _ ?side1 ?side2 ?side3 ?side4 A11.out).mono ?_
         (case side1 => repeat (first | exact (Kd.C_below HR0_1.out HB.out) | (with_reducible refine Kd.C_alloc ?_ _) | (with_reducible refine Kd.C_drewN ?_ _) | (with_reducible refine Kd.C_drew ?_)))
         (case side2 => exact HC0_1.out)
         (case side3 => repeat (first | exact (Kd.R_reads' HO_4.out).2.2 | (with_reducible refine Kd.C_alloc ?_ _) | (with_reducible refine Kd.C_drewN ?_ _) | (with_reducible refine Kd.C_drew ?_)))
         (case side4 => exact (Kd.R_reads' HO_4.out).2.1)
         rintro e w18 ⟨v590, rfl, ho0, hb⟩
         refine ⟨_, rfl, ?_⟩
         have n0_ := Z0.mk (Kd.R_elder' (by (with_reducible repeat (first | apply Kd.R_alloc | apply Kd.R_drewN | apply Kd.R_drew)); exact HO_4.out) (Kd.R_base ho0) hb)
         have n1_ := Z0.mk (Kd.R_elder' (by (with_reducible repeat (first | apply Kd.R_alloc | apply Kd.R_drewN | apply Kd.R_drew)); exact HO_17.out) (Kd.R_base ho0) hb)
         have n2_ := Z0.mk (Kd.R_lower (Kd.R_new' (Kd.R_new' ho0 (Kd.R_lt (by (with_reducible repeat (first | apply Kd.R_alloc | apply Kd.R_drewN | apply Kd.R_drew)); exact HO_4.out))) (Kd.R_lt (by (with_reducible repeat (first | apply Kd.R_alloc | apply Kd.R_drewN | apply Kd.R_drew)); exact HO_17.out))) (bZ (by repeat (first | (with_reducible first | exact HB.out | apply below_alloc | apply bN | apply bD | refine bS ?_ GE583.out) | exact HB.out))))
         have n3_ := Z0.mk (kB (g := gb583) (o := .cells #[.int .i64 a0_0, .slice (some ad592) l0_1.length c0_1] 24 (0, 0)) (by (with_reducible repeat (first | refine kN ?_ _ | refine kD ?_ | refine kA ?_ _)); exact BK583.out) hb)
         have n4_ := Z0.mk (bT (by repeat (first | (with_reducible first | exact HB.out | apply below_alloc | apply bN | apply bD | refine bS ?_ GE583.out) | exact HB.out)) hb)
         clear HO_4; clear HO_17; clear BK583; clear HB
         have HO_4 := n0_
         have HO_17 := n1_
         have HO591 := n2_
         have BK583 := n3_
         have HB := n4_
         clear n0_ n1_ n2_ n3_ n4_
         (try clear hb)
         (try clear hb2)
         (try clear hk)
         (try clear hi)
         (try clear ho0)
         obtain ⟨Ao19, co19, eo19⟩ := Kd.R_slice HO591.out
         (first | subst eo19 | (injection eo19 with f1_ f2_ f3_; have f4_ := f1_.symm; have f5_ := f3_.symm; clear f1_ f2_ f3_; subst f4_; subst f5_))
         refine hK.out _ _ ⟨(kC BK583.out 0).trans rfl, (kC BK583.out 1).trans rfl, ((HB.out.cell (wlt0 w _ hw592_0)).trans hw592_0), ((HB.out.cell (wlt0 w _ hw592_1)).trans hw592_1), ((HB.out.cell (wlt0 w _ hw592_2)).trans hw592_2), ((HB.out.cell (wlt0 w _ hw592_3)).trans hw592_3), ((HB.out.cell (wlt0 w _ hw593_0)).trans hw593_0), ((HB.out.cell (wlt0 w _ hw593_1)).trans hw593_1), ((HB.out.cell (wlt0 w _ hw593_2)).trans hw593_2), ((HB.out.cell (wlt0 w _ hw593_3)).trans hw593_3)⟩ (fun hHeld => ?_)
         clear hK K
         refine norm_ (a' := ?_) ?_ ?_
         rotate_left
         ·show Act.put _ (some 27) _ = _
          simp only [Act.put, List.setIfInBounds_toArray, List.set_cons_zero, List.set_cons_succ, i64_w, i32_w]
          rfl
         refine one_ (i := 16) (N := some 40) #[true,true,true,true,true,true,true,true,true,true,true,true,true,true,true,true,true,false,false,false,false,false] rfl rfl (one_of HT_.out (by kernel_rfl)) (by decide) (fun K hK => ?_)
         refine goes_ Try.func33 (by kernel_rfl) rfl #[.agg #[.int .i64 a0_0, .slice (some ad592) l0_1.length c0_1], .slice Ao19 t589.length co19, .int .i64 ((rd_T37 l0_1 (rd t584 x19_1)).f0), .int .i64 ((rd_T37 l0_1 (rd t584 x19_1)).f1)] (by rfl) rfl rfl (by (try simp only [List.map_toArray, List.map_cons, List.map_nil]); first | done | rfl | (simp only [List.length_drop, List.length_take]; rfl)) ?_
         with_reducible refine (iConnected.calls a0_0 _ _ l0_1 _ _ t589 ((rd_T37 l0_1 (rd t584 x19_1)).f0) ((rd_T37 l0_1 (rd t584 x19_1)).f1) true t595 _ ?side1 ?side2 ?side3 ?side4 A14.out).mono ?_
         (case side1 => repeat (first | exact (Kd.C_below HR0_1.out HB.out) | (with_reducible refine Kd.C_alloc ?_ _) | (with_reducible refine Kd.C_drewN ?_ _) | (with_reducible refine Kd.C_drew ?_)))
         (case side2 => exact HC0_1.out)
         (case side3 => repeat (first | exact (Kd.R_reads' HO591.out).2.2 | (with_reducible refine Kd.C_alloc ?_ _) | (with_reducible refine Kd.C_drewN ?_ _) | (with_reducible refine Kd.C_drew ?_)))
         (case side4 => exact (Kd.R_reads' HO591.out).2.1)
         rintro e w20 ⟨rfl, hb⟩
         refine ⟨_, rfl, ?_⟩
         have n0_ := Z0.mk (Kd.R_below (by (with_reducible repeat (first | apply Kd.R_alloc | apply Kd.R_drewN | apply Kd.R_drew)); exact HO_4.out) hb)
         have n1_ := Z0.mk (Kd.R_below (by (with_reducible repeat (first | apply Kd.R_alloc | apply Kd.R_drewN | apply Kd.R_drew)); exact HO_17.out) hb)
         have n2_ := Z0.mk (Kd.R_below (by (with_reducible repeat (first | apply Kd.R_alloc | apply Kd.R_drewN | apply Kd.R_drew)); exact HO591.out) hb)
         have n3_ := Z0.mk (kB (g := gb583) (o := .cells #[.int .i64 a0_0, .slice (some ad592) l0_1.length c0_1] 24 (0, 0)) (by (with_reducible repeat (first | refine kN ?_ _ | refine kD ?_ | refine kA ?_ _)); exact BK583.out) hb)
         have n4_ := Z0.mk (bT (by repeat (first | (with_reducible first | exact HB.out | apply below_alloc | apply bN | apply bD | refine bS ?_ GE583.out) | exact HB.out)) hb)
         clear HO_4; clear HO_17; clear HO591; clear BK583; clear HB
         have HO_4 := n0_
         have HO_17 := n1_
         have HO591 := n2_
         have BK583 := n3_
         have HB := n4_
         clear n0_ n1_ n2_ n3_ n4_
         (try clear hb)
         (try clear hb2)
         (try clear hk)
         (try clear hi)
         refine hK.out _ _ ⟨(kC BK583.out 0).trans rfl, (kC BK583.out 1).trans rfl, ((HB.out.cell (wlt0 w _ hw592_0)).trans hw592_0), ((HB.out.cell (wlt0 w _ hw592_1)).trans hw592_1), ((HB.out.cell (wlt0 w _ hw592_2)).trans hw592_2), ((HB.out.cell (wlt0 w _ hw592_3)).trans hw592_3), ((HB.out.cell (wlt0 w _ hw593_0)).trans hw593_0), ((HB.out.cell (wlt0 w _ hw593_1)).trans hw593_1), ((HB.out.cell (wlt0 w _ hw593_2)).trans hw593_2), ((HB.out.cell (wlt0 w _ hw593_3)).trans hw593_3)⟩ (fun hHeld => ?_)
         clear hK K
         refine norm_ (a' := ?_) ?_ ?_
         rotate_left
         ·show Act.put _ (some 40) _ = _
          simp only [Act.put, List.setIfInBounds_toArray, List.set_cons_zero, List.set_cons_succ, i64_w, i32_w]
          rfl
         refine pure_ (i := 17) (N := some 23) (v := ?_) (a' := ?_) #[true,true,true,true,true,true,true,true,true,true,true,true,true,true,true,true,true,true,false,false,false,false] rfl rfl (any_of HT_.out (by kernel_rfl)) (fun _ _ _ h => h) (Or.inl ⟨by rfl, ?_⟩) ?_ ?_
         rotate_left; (intro w'; go_simp; with_reducible rfl); rotate_left; (simp only [Act.put, List.setIfInBounds_toArray, List.set_cons_zero, List.set_cons_succ, i64_w, i32_w]; rfl)
         refine pure_ (i := 18) (N := some 41) (v := ?_) (a' := ?_) #[true,true,true,true,true,true,true,true,true,true,true,true,true,true,true,true,true,true,true,false,false,false] rfl rfl (any_of HT_.out (by kernel_rfl)) (fun _ _ _ h => h) (Or.inl ⟨by rfl, ?_⟩) ?_ ?_
         rotate_left; (intro w'; go_simp; with_reducible rfl); rotate_left; (simp only [Act.put, List.setIfInBounds_toArray, List.set_cons_zero, List.set_cons_succ, i64_w, i32_w]; rfl)
         refine pure_ (i := 19) (N := some 42) (v := ?_) (a' := ?_) #[true,true,true,true,true,true,true,true,true,true,true,true,true,true,true,true,true,true,true,true,false,false] rfl rfl (any_of HT_.out (by kernel_rfl)) (fun _ _ _ h => h) (Or.inl ⟨by rfl, ?_⟩) ?_ ?_
         rotate_left; (intro w'; go_simp; with_reducible rfl); rotate_left; (simp only [Act.put, List.setIfInBounds_toArray, List.set_cons_zero, List.set_cons_succ, i64_w, i32_w]; rfl)
         refine pure_ (i := 20) (N := some 9) (v := ?_) (a' := ?_) #[true,true,true,true,true,true,true,true,true,true,true,true,true,true,true,true,true,true,true,true,true,false] rfl rfl (any_of HT_.out (by kernel_rfl)) (fun _ _ _ h => h) (Or.inl ⟨by rfl, ?_⟩) ?_ ?_
         rotate_left; (intro w'; go_simp; with_reducible rfl); rotate_left; (simp only [Act.put, List.setIfInBounds_toArray, List.set_cons_zero, List.set_cons_succ, i64_w, i32_w]; rfl)
         refine pure_ (i := 21) (N := some 10) (v := ?_) (a' := ?_) #[true,true,true,true,true,true,true,true,true,true,true,true,true,true,true,true,true,true,true,true,true,true] rfl rfl (any_of HT_.out (by kernel_rfl)) (fun _ _ _ h => h) (Or.inl ⟨by rfl, ?_⟩) ?_ ?_
         rotate_left; (intro w'; go_simp; with_reducible rfl); rotate_left; (simp only [Act.put, List.setIfInBounds_toArray, List.set_cons_zero, List.set_cons_succ, i64_w, i32_w]; rfl)
         refine done_ (done_of HT_.out (by kernel_rfl)) ?_
         try go_wp2
         go_roundg k1
         case measure => have := HK1.out; omega
         case rel => exact ⟨(x4_1), (wrap64 (x19_1 + 1)), (by first | rfl | (simp; done) | (simp [*]; done)), H', ⟨by have := HK1.out; omega⟩, ⟨by (with_reducible repeat (first | apply Kd.R_alloc | apply Kd.R_drewN | apply Kd.R_drew)); exact Kd.R_mono HO_4.out (fun _ hk => hk.1)⟩, ⟨by (with_reducible repeat (first | apply Kd.R_alloc | apply Kd.R_drewN | apply Kd.R_drew)); exact Kd.R_mono HO_17.out (fun _ hk => hk.1)⟩, ⟨by (with_reducible repeat (first | refine kN ?_ _ | refine kD ?_ | refine kA ?_ _)); exact BK583.out⟩, ⟨by repeat (first | (with_reducible first | exact HB.out | apply below_alloc | apply bN | apply bD | refine bS ?_ GE583.out) | exact HB.out)⟩⟩
        ·replace c15 := Bool.eq_false_iff.mpr c15
         subst c15
         have H1 : (if x4_1.length < 17592186044416 then (tTree.l0 k1 (x4_1 ++ [rd t584 x19_1]) t587 t584 (t584.length : Int) (wrap64 (x19_1 + 1)) a0_0 l0_1) else (none)) = some (r1, r2) := by rw [if_neg (show ¬ (false = true) by decide)] at H; exact H
         clear H
         have H := H1
         clear H1
         by_cases c21 : x4_1.length < 17592186044416
         ·rw [if_pos c21] at H
          have LMc21 := Z0.mk c21
          clear c21
          obtain ⟨y596, hy596⟩ : ∃ y_ : List Int, y_ = (x4_1 ++ [rd t584 x19_1]) := ⟨_, rfl⟩
          replace H : (tTree.l0 k1 y596 t587 t584 (t584.length : Int) (wrap64 (x19_1 + 1)) a0_0 l0_1) = some (r1, r2) := by first | (rw [hy596]; with_reducible exact H) | (have H2_ := (Option.bind_some _ _).symm.trans H; rw [hy596]; with_reducible exact H2_) | (have H2_ := (Option.bind_some _ _).symm.trans H; with_reducible exact H2_) | with_reducible exact H | (rw [hy596]; exact H) | exact H
          have Ny596 := Z0.mk hy596
          clear hy596
          have H' := Z0.mk H
          clear H
          have p588 : 0 ≤ (x19_1 : Int) := of_decide_eq_true (by first | (with_reducible assumption) | assumption)
          have q588 : x19_1 < (t584.length : Int) := of_decide_eq_true (by first | (with_reducible assumption) | assumption)
          obtain ⟨ad588, e588, hx588_0⟩ := Kd.at_int (Kd.R_reads' HO_17.out).2.2 x19_1 p588 q588
          cases e588
          replace p588 := eq_true p588
          replace q588 := eq_true q588
          try go_wp2
          have n0_ := Z0.mk (Kd.R_drew HO_4.out)
          have n1_ := Z0.mk (Kd.R_drew HO_17.out)
          have n2_ := Z0.mk (kD BK583.out)
          have n3_ := Z0.mk (bD HB.out)
          clear HO_4; clear HO_17; clear BK583; clear HB
          have HO_4 := n0_
          have HO_17 := n1_
          have BK583 := n2_
          have HB := n3_
          clear n0_ n1_ n2_ n3_
          have p592 : 0 ≤ ((rd t584 x19_1) : Int) := of_decide_eq_true (by first | (with_reducible assumption) | assumption)
          have q592 : (rd t584 x19_1) < (l0_1.length : Int) := of_decide_eq_true (by first | (with_reducible assumption) | assumption)
          obtain ⟨ad592, e592, hx592_0, hx592_1, hx592_2, hx592_3⟩ := at_T37 HR0_1.out (rd t584 x19_1) p592 q592
          have hw592_3 := hx592_3
          have hw592_2 := hx592_2
          have hw592_1 := hx592_1
          have hw592_0 := hx592_0
          cases e592
          replace hx592_0 := (HB.out.cell (wlt0 w _ hx592_0)).trans hx592_0
          replace hx592_1 := (HB.out.cell (wlt0 w _ hx592_1)).trans hx592_1
          replace hx592_2 := (HB.out.cell (wlt0 w _ hx592_2)).trans hx592_2
          replace hx592_3 := (HB.out.cell (wlt0 w _ hx592_3)).trans hx592_3
          replace p592 := eq_true p592
          replace q592 := eq_true q592
          have p593 : 0 ≤ ((rd t584 x19_1) : Int) := of_decide_eq_true (by first | (with_reducible assumption) | assumption)
          have q593 : (rd t584 x19_1) < (l0_1.length : Int) := of_decide_eq_true (by first | (with_reducible assumption) | assumption)
          obtain ⟨ad593, e593, hx593_0, hx593_1, hx593_2, hx593_3⟩ := at_T37 HR0_1.out (rd t584 x19_1) p593 q593
          have hw593_3 := hx593_3
          have hw593_2 := hx593_2
          have hw593_1 := hx593_1
          have hw593_0 := hx593_0
          obtain rfl : ad592 = ad593 := (by injection e593)
          replace hx593_0 := (HB.out.cell (wlt0 w _ hx593_0)).trans hx593_0
          replace hx593_1 := (HB.out.cell (wlt0 w _ hx593_1)).trans hx593_1
          replace hx593_2 := (HB.out.cell (wlt0 w _ hx593_2)).trans hx593_2
          replace hx593_3 := (HB.out.cell (wlt0 w _ hx593_3)).trans hx593_3
          replace p593 := eq_true p593
          replace q593 := eq_true q593
          obtain ⟨Ao23, co23, eo23⟩ := Kd.R_slice HO_4.out
          (first | subst eo23 | (injection eo23 with f1_ f2_ f3_; have f4_ := f1_.symm; have f5_ := f3_.symm; clear f1_ f2_ f3_; subst f4_; subst f5_))
          refine start_ (n := 22) (S := fun w' => w'.cell? ⟨gb583, 0, none⟩ = some (.int .i64 a0_0) ∧ w'.cell? ⟨gb583, 1, none⟩ = some (.slice (some ad592) l0_1.length c0_1) ∧ w'.cell? (ad592.add (((rd t584 x19_1)).toNat * 4)) = some (.int .i64 ((rd_T37 l0_1 (rd t584 x19_1)).f0)) ∧ w'.cell? ⟨(ad592.add (((rd t584 x19_1)).toNat * 4)).block, (ad592.add (((rd t584 x19_1)).toNat * 4)).off + 1, none⟩ = some (.int .i64 ((rd_T37 l0_1 (rd t584 x19_1)).f1)) ∧ w'.cell? ⟨(ad592.add (((rd t584 x19_1)).toNat * 4)).block, (ad592.add (((rd t584 x19_1)).toNat * 4)).off + 2, none⟩ = some (.int .i64 ((rd_T37 l0_1 (rd t584 x19_1)).f2)) ∧ w'.cell? ⟨(ad592.add (((rd t584 x19_1)).toNat * 4)).block, (ad592.add (((rd t584 x19_1)).toNat * 4)).off + 3, none⟩ = some (.int .i64 ((rd_T37 l0_1 (rd t584 x19_1)).f3)) ∧ w'.cell? (ad592.add (((rd t584 x19_1)).toNat * 4)) = some (.int .i64 ((rd_T37 l0_1 (rd t584 x19_1)).f0)) ∧ w'.cell? ⟨(ad592.add (((rd t584 x19_1)).toNat * 4)).block, (ad592.add (((rd t584 x19_1)).toNat * 4)).off + 1, none⟩ = some (.int .i64 ((rd_T37 l0_1 (rd t584 x19_1)).f1)) ∧ w'.cell? ⟨(ad592.add (((rd t584 x19_1)).toNat * 4)).block, (ad592.add (((rd t584 x19_1)).toNat * 4)).off + 2, none⟩ = some (.int .i64 ((rd_T37 l0_1 (rd t584 x19_1)).f2)) ∧ w'.cell? ⟨(ad592.add (((rd t584 x19_1)).toNat * 4)).block, (ad592.add (((rd t584 x19_1)).toNat * 4)).off + 3, none⟩ = some (.int .i64 ((rd_T37 l0_1 (rd t584 x19_1)).f3))) (ds := []) #[false,false,false,false,false,false,false,false,false,false,false,false,false,false,false,false,false,false,false,false,false,false] (by kernel_rfl) rfl rfl ⟨(kC BK583.out 0).trans rfl, (kC BK583.out 1).trans rfl, ((HB.out.cell (wlt0 w _ hw592_0)).trans hw592_0), ((HB.out.cell (wlt0 w _ hw592_1)).trans hw592_1), ((HB.out.cell (wlt0 w _ hw592_2)).trans hw592_2), ((HB.out.cell (wlt0 w _ hw592_3)).trans hw592_3), ((HB.out.cell (wlt0 w _ hw593_0)).trans hw593_0), ((HB.out.cell (wlt0 w _ hw593_1)).trans hw593_1), ((HB.out.cell (wlt0 w _ hw593_2)).trans hw593_2), ((HB.out.cell (wlt0 w _ hw593_3)).trans hw593_3)⟩ (fun hHeld => ?_); refine with_tabW tTree.tab5 tTree.bits5 (fun HT_ HW_ => ?_)
          generalize wr.drew = w22 at HO_4 HO_17 BK583 HB hx592_0 hx592_1 hx592_2 hx592_3 hx593_0 hx593_1 hx593_2 hx593_3 hHeld ⊢
          refine pure_ (i := 2) (N := some 26) (v := ?_) (a' := ?_) #[false,false,true,false,false,false,false,false,false,false,false,false,false,false,false,false,false,false,false,false,false,false] rfl rfl (any_of HT_.out (by kernel_rfl)) (fun _ _ _ h => h) (Or.inl ⟨by rfl, ?_⟩) ?_ ?_
          rotate_left; (intro w'; go_simp; with_reducible rfl); rotate_left; (simp only [Act.put, List.setIfInBounds_toArray, List.set_cons_zero, List.set_cons_succ, i64_w, i32_w]; rfl)
          refine pure_ (i := 4) (N := some 28) (v := ?_) (a' := ?_) #[false,false,true,false,true,false,false,false,false,false,false,false,false,false,false,false,false,false,false,false,false,false] rfl rfl (any_of HT_.out (by kernel_rfl)) (fun _ _ _ h => h) (Or.inl ⟨by rfl, ?_⟩) ?_ ?_
          rotate_left; (intro w'; go_simp; with_reducible rfl); rotate_left; (simp only [Act.put, List.setIfInBounds_toArray, List.set_cons_zero, List.set_cons_succ, i64_w, i32_w]; rfl)
          refine pure_ (i := 6) (N := some 30) (v := ?_) (a' := ?_) #[false,false,true,false,true,false,true,false,false,false,false,false,false,false,false,false,false,false,false,false,false,false] rfl rfl (any_of HT_.out (by kernel_rfl)) (fun _ _ _ h => h) (Or.inl ⟨by rfl, ?_⟩) ?_ ?_
          rotate_left; (intro w'; go_simp; with_reducible rfl); rotate_left; (simp only [Act.put, List.setIfInBounds_toArray, List.set_cons_zero, List.set_cons_succ, i64_w, i32_w]; rfl)
          refine pure_ (i := 10) (N := some 34) (v := ?_) (a' := ?_) #[false,false,true,false,true,false,true,false,false,false,true,false,false,false,false,false,false,false,false,false,false,false] rfl rfl (any_of HT_.out (by kernel_rfl)) (fun _ _ _ h => h) (Or.inl ⟨by rfl, ?_⟩) ?_ ?_
          rotate_left; (intro w'; go_simp; with_reducible rfl); rotate_left; (simp only [Act.put, List.setIfInBounds_toArray, List.set_cons_zero, List.set_cons_succ, i64_w, i32_w]; rfl)
          refine pure_ (i := 12) (N := some 36) (v := ?_) (a' := ?_) #[false,false,true,false,true,false,true,false,false,false,true,false,true,false,false,false,false,false,false,false,false,false] rfl rfl (any_of HT_.out (by kernel_rfl)) (fun _ _ _ h => h) (Or.inl ⟨by rfl, ?_⟩) ?_ ?_
          rotate_left; (intro w'; go_simp; with_reducible rfl); rotate_left; (simp only [Act.put, List.setIfInBounds_toArray, List.set_cons_zero, List.set_cons_succ, i64_w, i32_w]; rfl)
          refine take_ (i := 0) (N := some 24) (v := ?_) (a' := ?_) #[true,false,true,false,true,false,true,false,false,false,true,false,true,false,false,false,false,false,false,false,false,false] rfl rfl (take_ofW HT_.out HW_.out (by kernel_rfl)) (fun _ _ _ h => h) (Or.inl ⟨by rfl, ?_⟩) hHeld ?_ ?_
          rotate_left; (rintro w' ⟨s0, s1, s2, s3, s4, s5, s6, s7, s8, s9⟩; go_simp; with_reducible rfl); rotate_left; (simp only [Act.put, List.setIfInBounds_toArray, List.set_cons_zero, List.set_cons_succ, i64_w, i32_w]; rfl)
          refine take_ (i := 1) (N := some 25) (v := ?_) (a' := ?_) #[true,true,true,false,true,false,true,false,false,false,true,false,true,false,false,false,false,false,false,false,false,false] rfl rfl (take_ofW HT_.out HW_.out (by kernel_rfl)) (fun _ _ _ h => h) (Or.inl ⟨by rfl, ?_⟩) hHeld ?_ ?_
          rotate_left; (rintro w' ⟨s0, s1, s2, s3, s4, s5, s6, s7, s8, s9⟩; go_simp; with_reducible rfl); rotate_left; (simp only [Act.put, List.setIfInBounds_toArray, List.set_cons_zero, List.set_cons_succ, i64_w, i32_w]; rfl)
          refine take_ (i := 5) (N := some 29) (v := ?_) (a' := ?_) #[true,true,true,false,true,true,true,false,false,false,true,false,true,false,false,false,false,false,false,false,false,false] rfl rfl (take_ofW HT_.out HW_.out (by kernel_rfl)) (fun _ _ _ h => h) (Or.inl ⟨by rfl, ?_⟩) hHeld ?_ ?_
          rotate_left; (rintro w' ⟨s0, s1, s2, s3, s4, s5, s6, s7, s8, s9⟩; go_simp; with_reducible rfl); rotate_left; (simp only [Act.put, List.setIfInBounds_toArray, List.set_cons_zero, List.set_cons_succ, i64_w, i32_w]; rfl)
          refine pure_ (i := 7) (N := some 31) (v := ?_) (a' := ?_) #[true,true,true,false,true,true,true,true,false,false,true,false,true,false,false,false,false,false,false,false,false,false] rfl rfl (any_of HT_.out (by kernel_rfl)) (fun _ _ _ h => h) (Or.inl ⟨by rfl, ?_⟩) ?_ ?_
          rotate_left; (intro w'; go_simp; with_reducible rfl); rotate_left; (simp only [Act.put, List.setIfInBounds_toArray, List.set_cons_zero, List.set_cons_succ, i64_w, i32_w]; rfl)
          refine pure_ (i := 8) (N := some 32) (v := ?_) (a' := ?_) #[true,true,true,false,true,true,true,true,true,false,true,false,true,false,false,false,false,false,false,false,false,false] rfl rfl (any_of HT_.out (by kernel_rfl)) (fun _ _ _ h => h) (Or.inl ⟨by rfl, ?_⟩) ?_ ?_
          rotate_left; (intro w'; go_simp; with_reducible rfl); rotate_left; (simp only [Act.put, List.setIfInBounds_toArray, List.set_cons_zero, List.set_cons_succ, i64_w, i32_w]; rfl)
          refine take_ (i := 9) (N := some 33) (v := ?_) (a' := ?_) #[true,true,true,false,true,true,true,true,true,true,true,false,true,false,false,false,false,false,false,false,false,false] rfl rfl (take_ofW HT_.out HW_.out (by kernel_rfl)) (fun _ _ _ h => h) (Or.inl ⟨by rfl, ?_⟩) hHeld ?_ ?_
          rotate_left; (rintro w' ⟨s0, s1, s2, s3, s4, s5, s6, s7, s8, s9⟩; go_simp; with_reducible rfl); rotate_left; (simp only [Act.put, List.setIfInBounds_toArray, List.set_cons_zero, List.set_cons_succ, i64_w, i32_w]; rfl)
          refine take_ (i := 11) (N := some 35) (v := ?_) (a' := ?_) #[true,true,true,false,true,true,true,true,true,true,true,true,true,false,false,false,false,false,false,false,false,false] rfl rfl (take_ofW HT_.out HW_.out (by kernel_rfl)) (fun _ _ _ h => h) (Or.inl ⟨by rfl, ?_⟩) hHeld ?_ ?_
          rotate_left; (rintro w' ⟨s0, s1, s2, s3, s4, s5, s6, s7, s8, s9⟩; go_simp; with_reducible rfl); rotate_left; (simp only [Act.put, List.setIfInBounds_toArray, List.set_cons_zero, List.set_cons_succ, i64_w, i32_w]; rfl)
          refine pure_ (i := 13) (N := some 37) (v := ?_) (a' := ?_) #[true,true,true,false,true,true,true,true,true,true,true,true,true,true,false,false,false,false,false,false,false,false] rfl rfl (any_of HT_.out (by kernel_rfl)) (fun _ _ _ h => h) (Or.inl ⟨by rfl, ?_⟩) ?_ ?_
          rotate_left; (intro w'; go_simp; with_reducible rfl); rotate_left; (simp only [Act.put, List.setIfInBounds_toArray, List.set_cons_zero, List.set_cons_succ, i64_w, i32_w]; rfl)
          refine pure_ (i := 14) (N := some 38) (v := ?_) (a' := ?_) #[true,true,true,false,true,true,true,true,true,true,true,true,true,true,true,false,false,false,false,false,false,false] rfl rfl (any_of HT_.out (by kernel_rfl)) (fun _ _ _ h => h) (Or.inl ⟨by rfl, ?_⟩) ?_ ?_
          rotate_left; (intro w'; go_simp; with_reducible rfl); rotate_left; (simp only [Act.put, List.setIfInBounds_toArray, List.set_cons_zero, List.set_cons_succ, i64_w, i32_w]; rfl)
          refine take_ (i := 15) (N := some 39) (v := ?_) (a' := ?_) #[true,true,true,false,true,true,true,true,true,true,true,true,true,true,true,true,false,false,false,false,false,false] rfl rfl (take_ofW HT_.out HW_.out (by kernel_rfl)) (fun _ _ _ h => h) (Or.inl ⟨by rfl, ?_⟩) hHeld ?_ ?_
          rotate_left; (rintro w' ⟨s0, s1, s2, s3, s4, s5, s6, s7, s8, s9⟩; go_simp; with_reducible rfl); rotate_left; (simp only [Act.put, List.setIfInBounds_toArray, List.set_cons_zero, List.set_cons_succ, i64_w, i32_w]; rfl)
          refine one_ (i := 3) (N := some 27) #[true,true,true,true,true,true,true,true,true,true,true,true,true,true,true,true,false,false,false,false,false,false] rfl rfl (one_of HT_.out (by kernel_rfl)) (by decide) (fun K hK => ?_)
          refine goes_ Try.func101 (by kernel_rfl) rfl #[.agg #[.int .i64 a0_0, .slice (some ad592) l0_1.length c0_1], .slice Ao23 x4_1.length co23] (by rfl) rfl rfl (by (try simp only [List.map_toArray, List.map_cons, List.map_nil]); first | done | rfl | (simp only [List.length_drop, List.length_take]; rfl)) ?_
          with_reducible refine (tout.calls k1 a0_0 _ _ l0_1 _ _ x4_1 t589 _ ?side1 ?side2 ?side3 ?side4 A11.out).mono ?_
          (case side1 => repeat (first | exact (Kd.C_below HR0_1.out HB.out) | (with_reducible refine Kd.C_alloc ?_ _) | (with_reducible refine Kd.C_drewN ?_ _) | (with_reducible refine Kd.C_drew ?_)))
          (case side2 => exact HC0_1.out)
          (case side3 => repeat (first | exact (Kd.R_reads' HO_4.out).2.2 | (with_reducible refine Kd.C_alloc ?_ _) | (with_reducible refine Kd.C_drewN ?_ _) | (with_reducible refine Kd.C_drew ?_)))
          (case side4 => exact (Kd.R_reads' HO_4.out).2.1)
          rintro e w24 ⟨v590, rfl, ho0, hb⟩
          refine ⟨_, rfl, ?_⟩
          have n0_ := Z0.mk (Kd.R_elder' (by (with_reducible repeat (first | apply Kd.R_alloc | apply Kd.R_drewN | apply Kd.R_drew)); exact HO_4.out) (Kd.R_base ho0) hb)
          have n1_ := Z0.mk (Kd.R_elder' (by (with_reducible repeat (first | apply Kd.R_alloc | apply Kd.R_drewN | apply Kd.R_drew)); exact HO_17.out) (Kd.R_base ho0) hb)
          have n2_ := Z0.mk (Kd.R_lower (Kd.R_new' (Kd.R_new' ho0 (Kd.R_lt (by (with_reducible repeat (first | apply Kd.R_alloc | apply Kd.R_drewN | apply Kd.R_drew)); exact HO_4.out))) (Kd.R_lt (by (with_reducible repeat (first | apply Kd.R_alloc | apply Kd.R_drewN | apply Kd.R_drew)); exact HO_17.out))) (bZ (by repeat (first | (with_reducible first | exact HB.out | apply below_alloc | apply bN | apply bD | refine bS ?_ GE583.out) | exact HB.out))))
          have n3_ := Z0.mk (kB (g := gb583) (o := .cells #[.int .i64 a0_0, .slice (some ad592) l0_1.length c0_1] 24 (0, 0)) (by (with_reducible repeat (first | refine kN ?_ _ | refine kD ?_ | refine kA ?_ _)); exact BK583.out) hb)
          have n4_ := Z0.mk (bT (by repeat (first | (with_reducible first | exact HB.out | apply below_alloc | apply bN | apply bD | refine bS ?_ GE583.out) | exact HB.out)) hb)
          clear HO_4; clear HO_17; clear BK583; clear HB
          have HO_4 := n0_
          have HO_17 := n1_
          have HO591 := n2_
          have BK583 := n3_
          have HB := n4_
          clear n0_ n1_ n2_ n3_ n4_
          (try clear hb)
          (try clear hb2)
          (try clear hk)
          (try clear hi)
          (try clear ho0)
          obtain ⟨Ao25, co25, eo25⟩ := Kd.R_slice HO591.out
          (first | subst eo25 | (injection eo25 with f1_ f2_ f3_; have f4_ := f1_.symm; have f5_ := f3_.symm; clear f1_ f2_ f3_; subst f4_; subst f5_))
          refine hK.out _ _ ⟨(kC BK583.out 0).trans rfl, (kC BK583.out 1).trans rfl, ((HB.out.cell (wlt0 w _ hw592_0)).trans hw592_0), ((HB.out.cell (wlt0 w _ hw592_1)).trans hw592_1), ((HB.out.cell (wlt0 w _ hw592_2)).trans hw592_2), ((HB.out.cell (wlt0 w _ hw592_3)).trans hw592_3), ((HB.out.cell (wlt0 w _ hw593_0)).trans hw593_0), ((HB.out.cell (wlt0 w _ hw593_1)).trans hw593_1), ((HB.out.cell (wlt0 w _ hw593_2)).trans hw593_2), ((HB.out.cell (wlt0 w _ hw593_3)).trans hw593_3)⟩ (fun hHeld => ?_)
          clear hK K
          refine norm_ (a' := ?_) ?_ ?_
          rotate_left
          ·show Act.put _ (some 27) _ = _
           simp only [Act.put, List.setIfInBounds_toArray, List.set_cons_zero, List.set_cons_succ, i64_w, i32_w]
           rfl
          refine one_ (i := 16) (N := some 40) #[true,true,true,true,true,true,true,true,true,true,true,true,true,true,true,true,true,false,false,false,false,false] rfl rfl (one_of HT_.out (by kernel_rfl)) (by decide) (fun K hK => ?_)
          refine goes_ Try.func33 (by kernel_rfl) rfl #[.agg #[.int .i64 a0_0, .slice (some ad592) l0_1.length c0_1], .slice Ao25 t589.length co25, .int .i64 ((rd_T37 l0_1 (rd t584 x19_1)).f0), .int .i64 ((rd_T37 l0_1 (rd t584 x19_1)).f1)] (by rfl) rfl rfl (by (try simp only [List.map_toArray, List.map_cons, List.map_nil]); first | done | rfl | (simp only [List.length_drop, List.length_take]; rfl)) ?_
          with_reducible refine (iConnected.calls a0_0 _ _ l0_1 _ _ t589 ((rd_T37 l0_1 (rd t584 x19_1)).f0) ((rd_T37 l0_1 (rd t584 x19_1)).f1) false t595 _ ?side1 ?side2 ?side3 ?side4 A14.out).mono ?_
          (case side1 => repeat (first | exact (Kd.C_below HR0_1.out HB.out) | (with_reducible refine Kd.C_alloc ?_ _) | (with_reducible refine Kd.C_drewN ?_ _) | (with_reducible refine Kd.C_drew ?_)))
          (case side2 => exact HC0_1.out)
          (case side3 => repeat (first | exact (Kd.R_reads' HO591.out).2.2 | (with_reducible refine Kd.C_alloc ?_ _) | (with_reducible refine Kd.C_drewN ?_ _) | (with_reducible refine Kd.C_drew ?_)))
          (case side4 => exact (Kd.R_reads' HO591.out).2.1)
          rintro e w26 ⟨rfl, hb⟩
          refine ⟨_, rfl, ?_⟩
          have n0_ := Z0.mk (Kd.R_below (by (with_reducible repeat (first | apply Kd.R_alloc | apply Kd.R_drewN | apply Kd.R_drew)); exact HO_4.out) hb)
          have n1_ := Z0.mk (Kd.R_below (by (with_reducible repeat (first | apply Kd.R_alloc | apply Kd.R_drewN | apply Kd.R_drew)); exact HO_17.out) hb)
          have n2_ := Z0.mk (Kd.R_below (by (with_reducible repeat (first | apply Kd.R_alloc | apply Kd.R_drewN | apply Kd.R_drew)); exact HO591.out) hb)
          have n3_ := Z0.mk (kB (g := gb583) (o := .cells #[.int .i64 a0_0, .slice (some ad592) l0_1.length c0_1] 24 (0, 0)) (by (with_reducible repeat (first | refine kN ?_ _ | refine kD ?_ | refine kA ?_ _)); exact BK583.out) hb)
          have n4_ := Z0.mk (bT (by repeat (first | (with_reducible first | exact HB.out | apply below_alloc | apply bN | apply bD | refine bS ?_ GE583.out) | exact HB.out)) hb)
          clear HO_4; clear HO_17; clear HO591; clear BK583; clear HB
          have HO_4 := n0_
          have HO_17 := n1_
          have HO591 := n2_
          have BK583 := n3_
          have HB := n4_
          clear n0_ n1_ n2_ n3_ n4_
          (try clear hb)
          (try clear hb2)
          (try clear hk)
          (try clear hi)
          refine hK.out _ _ ⟨(kC BK583.out 0).trans rfl, (kC BK583.out 1).trans rfl, ((HB.out.cell (wlt0 w _ hw592_0)).trans hw592_0), ((HB.out.cell (wlt0 w _ hw592_1)).trans hw592_1), ((HB.out.cell (wlt0 w _ hw592_2)).trans hw592_2), ((HB.out.cell (wlt0 w _ hw592_3)).trans hw592_3), ((HB.out.cell (wlt0 w _ hw593_0)).trans hw593_0), ((HB.out.cell (wlt0 w _ hw593_1)).trans hw593_1), ((HB.out.cell (wlt0 w _ hw593_2)).trans hw593_2), ((HB.out.cell (wlt0 w _ hw593_3)).trans hw593_3)⟩ (fun hHeld => ?_)
          clear hK K
          refine norm_ (a' := ?_) ?_ ?_
          rotate_left
          ·show Act.put _ (some 40) _ = _
           simp only [Act.put, List.setIfInBounds_toArray, List.set_cons_zero, List.set_cons_succ, i64_w, i32_w]
           rfl
          refine pure_ (i := 17) (N := some 23) (v := ?_) (a' := ?_) #[true,true,true,true,true,true,true,true,true,true,true,true,true,true,true,true,true,true,false,false,false,false] rfl rfl (any_of HT_.out (by kernel_rfl)) (fun _ _ _ h => h) (Or.inl ⟨by rfl, ?_⟩) ?_ ?_
          rotate_left; (intro w'; go_simp; with_reducible rfl); rotate_left; (simp only [Act.put, List.setIfInBounds_toArray, List.set_cons_zero, List.set_cons_succ, i64_w, i32_w]; rfl)
          refine pure_ (i := 18) (N := some 41) (v := ?_) (a' := ?_) #[true,true,true,true,true,true,true,true,true,true,true,true,true,true,true,true,true,true,true,false,false,false] rfl rfl (any_of HT_.out (by kernel_rfl)) (fun _ _ _ h => h) (Or.inl ⟨by rfl, ?_⟩) ?_ ?_
          rotate_left; (intro w'; go_simp; with_reducible rfl); rotate_left; (simp only [Act.put, List.setIfInBounds_toArray, List.set_cons_zero, List.set_cons_succ, i64_w, i32_w]; rfl)
          refine pure_ (i := 19) (N := some 42) (v := ?_) (a' := ?_) #[true,true,true,true,true,true,true,true,true,true,true,true,true,true,true,true,true,true,true,true,false,false] rfl rfl (any_of HT_.out (by kernel_rfl)) (fun _ _ _ h => h) (Or.inl ⟨by rfl, ?_⟩) ?_ ?_
          rotate_left; (intro w'; go_simp; with_reducible rfl); rotate_left; (simp only [Act.put, List.setIfInBounds_toArray, List.set_cons_zero, List.set_cons_succ, i64_w, i32_w]; rfl)
          refine pure_ (i := 20) (N := some 9) (v := ?_) (a' := ?_) #[true,true,true,true,true,true,true,true,true,true,true,true,true,true,true,true,true,true,true,true,true,false] rfl rfl (any_of HT_.out (by kernel_rfl)) (fun _ _ _ h => h) (Or.inl ⟨by rfl, ?_⟩) ?_ ?_
          rotate_left; (intro w'; go_simp; with_reducible rfl); rotate_left; (simp only [Act.put, List.setIfInBounds_toArray, List.set_cons_zero, List.set_cons_succ, i64_w, i32_w]; rfl)
          refine pure_ (i := 21) (N := some 10) (v := ?_) (a' := ?_) #[true,true,true,true,true,true,true,true,true,true,true,true,true,true,true,true,true,true,true,true,true,true] rfl rfl (any_of HT_.out (by kernel_rfl)) (fun _ _ _ h => h) (Or.inl ⟨by rfl, ?_⟩) ?_ ?_
          rotate_left; (intro w'; go_simp; with_reducible rfl); rotate_left; (simp only [Act.put, List.setIfInBounds_toArray, List.set_cons_zero, List.set_cons_succ, i64_w, i32_w]; rfl)
          refine done_ (done_of HT_.out (by kernel_rfl)) ?_
          try go_wp2_with (first | ((with_reducible refine gate_builtin (b := .append) (xs := #[.tmp 45, .tmp 47]) rfl ?_); at_builtin; refine Kd.R_append (Kd.int .i64) (w0 := w) w.heap.size rfl (.tmp 45) (.tmp 47) 25 3 (.int .i64 0) 8 rfl Try.underlying25 info3 rfl (by decide) (by omega) (.slice Ao23 x4_1.length co23) x4_1 (rd t584 x19_1) [.int .i64 (rd t584 x19_1)] (fun k_ => some k_ ≠ (.slice (some ad588) t584.length co7 : Value).ownBlock ∧ some k_ ≠ (.slice Ao25 t589.length co25 : Value).ownBlock) (fun _ => False) rfl rfl ?aP (fun _ hk => hk.elim) ?aF ?aO ?aB ?aS ?aL ?_; (case aP => exact rfl); (case aB => exact (by repeat (first | (with_reducible first | exact HB.out | apply below_alloc | apply bN | apply bD | refine bS ?_ GE583.out) | exact HB.out))); (case aF => exact (fun k_ hk => ⟨Kd.fresh' (Kd.R_lt (by (with_reducible repeat (first | apply Kd.R_alloc | apply Kd.R_drewN | apply Kd.R_drew)); exact HO_17.out)) k_ hk, Kd.fresh' (Kd.R_lt (by (with_reducible repeat (first | apply Kd.R_alloc | apply Kd.R_drewN | apply Kd.R_drew)); exact HO591.out)) k_ hk⟩)); (case aO => exact (by (with_reducible repeat (first | apply Kd.R_alloc | apply Kd.R_drewN | apply Kd.R_drew)); exact HO_4.out)); (case aS => exact (bZ (by repeat (first | (with_reducible first | exact HB.out | apply below_alloc | apply bN | apply bD | refine bS ?_ GE583.out) | exact HB.out)))); (case aL => have := LMc21.out; omega); intro v597 w27 ho hb hg hat; rw [← Ny596.out] at ho; have n0_ := Z0.mk (Kd.R_after (ok := (fun k_ => some k_ ≠ (.slice Ao25 t589.length co25 : Value).ownBlock)) (by (with_reducible repeat (first | apply Kd.R_alloc | apply Kd.R_drewN | apply Kd.R_drew)); exact Kd.R_mono HO_17.out (fun _ hk => ⟨hk.2, hk.1⟩)) hg hat); have n1_ := Z0.mk (blk_grown (g := gb583) (o := .cells #[.int .i64 a0_0, .slice (some ad592) l0_1.length c0_1] 24 (0, 0)) (by (with_reducible repeat (first | refine kN ?_ _ | refine kD ?_ | refine kA ?_ _)); exact BK583.out) hg (Kd.R_ne HO_4.out BK583.out (by decide))); have n2_ := Z0.mk (Kd.R_after (ok := (fun k_ => some k_ ≠ (.slice (some ad588) t584.length co7 : Value).ownBlock)) (by (with_reducible repeat (first | apply Kd.R_alloc | apply Kd.R_drewN | apply Kd.R_drew)); exact Kd.R_mono HO591.out (fun _ hk => ⟨hk.2, hk.1.2⟩)) hg hat); have n3_ := Z0.mk (hb); have n4_ := Z0.mk (ho); clear HO_17; clear BK583; clear HO591; clear HB; clear HO_4; have HO_17 := n0_; have BK583 := n1_; have HO591 := n2_; have HB := n3_; have HO598 := n4_; clear n0_ n1_ n2_ n3_ n4_; clear ho hb hg hat))
          go_roundg k1
          case measure => have := HK1.out; omega
          case rel => exact ⟨(y596), (wrap64 (x19_1 + 1)), (by first | rfl | (simp; done) | (simp [*]; done)), H', ⟨by have := HK1.out; omega⟩, ⟨by (with_reducible repeat (first | apply Kd.R_alloc | apply Kd.R_drewN | apply Kd.R_drew)); exact Kd.R_mono HO598.out (fun _ hk => hk.1)⟩, ⟨by (with_reducible repeat (first | apply Kd.R_alloc | apply Kd.R_drewN | apply Kd.R_drew)); exact Kd.R_mono HO_17.out (fun _ hk => hk.2)⟩, ⟨by (with_reducible repeat (first | refine kN ?_ _ | refine kD ?_ | refine kA ?_ _)); exact BK583.out⟩, ⟨by repeat (first | (with_reducible first | exact HB.out | apply below_alloc | apply bN | apply bD | refine bS ?_ GE583.out) | exact HB.out)⟩⟩
         ·rw [if_neg c21] at H
          exact absurd H (by simp)
       ·rw [if_neg c13] at H
        exact absurd H (by simp)
      ·rw [if_neg c12] at H
       exact absurd H (by simp)
     ·rw [if_neg c10] at H
      exact absurd H (by simp)
    ·rw [if_neg c9] at H
     exact absurd H (by simp)
   ·rw [if_neg c8] at H
    have c8b0 : decide (x19_1 < (t584.length : Int)) = false := decide_eq_false c8
    clear c8
    simp only [Option.some.injEq, Prod.mk.injEq] at H
    obtain ⟨rfl, rfl⟩ := H
    go_wp2
    go_ret2
    exact ⟨_, by first | rfl | (simp [errW_none, errW_some] <;> rfl) | (simp [*, errW_none, errW_some] <;> rfl), by (with_reducible repeat (first | apply Kd.R_alloc | apply Kd.R_drewN | apply Kd.R_drew)); exact Kd.R_mono HO_4.out (fun _ hk => trivial), by repeat (first | (with_reducible first | exact HB.out | apply below_alloc | apply bN | apply bD | refine bS ?_ GE583.out) | exact HB.out)⟩
section
def conn (E : List (Nat × Nat)) (x y : Nat) : Prop := lab E x = lab E y
instance (E : List (Nat × Nat)) (x y : Nat) : Decidable (conn E x y) := inferInstanceAs (Decidable (lab E x = lab E y))
theorem conn_refl (E : List (Nat × Nat)) (x : Nat) : conn E x x := rfl
theorem conn.symm {E : List (Nat × Nat)} {x y : Nat} (h : conn E x y) : conn E y x := Eq.symm h
theorem conn.trans {E : List (Nat × Nat)} {x y z : Nat} (h : conn E x y) (k : conn E y z) : conn E x z := Eq.trans h k
theorem conn_edge {E : List (Nat × Nat)} {e : Nat × Nat} (h : e ∈ E) : conn E e.1 e.2 := lab_edge h
theorem conn_of {E E' : List (Nat × Nat)} (h : ∀ e ∈ E, conn E' e.1 e.2) {x y : Nat} (k : conn E x y) : conn E' x y := lab_const (lab E') h k
theorem conn_mono {E E' : List (Nat × Nat)} (h : ∀ e ∈ E, e ∈ E') {x y : Nat} (k : conn E x y) : conn E' x y := conn_of (fun e he => conn_edge (h e he)) k
theorem conn_snoc {E : List (Nat × Nat)} {e : Nat × Nat} {x y : Nat} : conn (E ++ [e]) x y ↔ conn E x y ∨ (conn E x e.1 ∧ conn E e.2 y) ∨ (conn E x e.2 ∧ conn E e.1 y) := by
  unfold conn
  rw [lab_snoc]
  unfold merge
  generalize lab E x = fx
  generalize lab E y = fy
  generalize lab E e.1 = f1
  generalize lab E e.2 = f2
  constructor
  · intro h; split at h <;> split at h <;> omega
  · intro h; split <;> split <;> omega
theorem conn_drop {E E' : List (Nat × Nat)} {e : Nat × Nat} (hE : ∀ d, d ∈ E → d = e ∨ d ∈ E') (hs : ∀ d, d ∈ E' → d ∈ E) (he : e ∈ E) {x y : Nat} (hn : ¬ conn E x e.1) (h : conn E x y) : conn E' x y := by
  have h' : conn (E' ++ [e]) x y := conn_mono (fun d hd => by rcases hE d hd with rfl | h <;> simp_all) h
  have hm : ∀ {u v}, conn E' u v → conn E u v := fun k => conn_mono hs k
  rcases conn_snoc.1 h' with h' | ⟨h', _⟩ | ⟨h', _⟩
  · exact h'
  · exact absurd (hm h') hn
  · exact absurd ((hm h').trans (conn_edge he).symm) hn
theorem conn_first {E : List (Nat × Nat)} {x y : Nat} (h : conn E x y) (hne : x ≠ y) : ∃ e ∈ E, ∃ z, ((e.1 = x ∧ e.2 = z) ∨ (e.2 = x ∧ e.1 = z)) ∧ conn (E.filter (fun d => d.1 != x && d.2 != x)) z y := by
  have hg := lab_const (fun v => (v = x ∨ ∃ e ∈ E, ∃ z, ((e.1 = x ∧ e.2 = z) ∨ (e.2 = x ∧ e.1 = z)) ∧ conn (E.filter (fun d => d.1 != x && d.2 != x)) z v)) (E := E) (x := x) (y := y) (by
    intro d hd
    apply propext
    by_cases h1 : d.1 = x
    · exact ⟨fun _ => Or.inr ⟨d, hd, d.2, Or.inl ⟨h1, rfl⟩, rfl⟩, fun _ => Or.inl h1⟩
    · by_cases h2 : d.2 = x
      · exact ⟨fun _ => Or.inl h2, fun _ => Or.inr ⟨d, hd, d.1, Or.inr ⟨h2, rfl⟩, rfl⟩⟩
      · have hd0 : conn (E.filter (fun d => d.1 != x && d.2 != x)) d.1 d.2 := conn_edge (List.mem_filter.2 ⟨hd, by simp [h1, h2]⟩)
        constructor
        · rintro (h | ⟨e, he, z, hz, hc⟩)
          · exact absurd h h1
          · exact Or.inr ⟨e, he, z, hz, hc.trans hd0⟩
        · rintro (h | ⟨e, he, z, hz, hc⟩)
          · exact absurd h h2
          · exact Or.inr ⟨e, he, z, hz, hc.trans hd0.symm⟩) h
  have hg2 : (y = x ∨ ∃ e ∈ E, ∃ z, ((e.1 = x ∧ e.2 = z) ∨ (e.2 = x ∧ e.1 = z)) ∧ conn (E.filter (fun d => d.1 != x && d.2 != x)) z y) := hg.mp (Or.inl rfl)
  rcases hg2 with h2 | h2
  · exact absurd h2.symm hne
  · exact h2
end
section
def less (T : List Nat) (k : Nat) : List Nat := T.filter (fun j => j != k)
theorem mem_less {T : List Nat} {j k : Nat} : j ∈ less T k ↔ j ∈ T ∧ j ≠ k := by simp [less]
def cn (en : Nat → Nat × Nat) (ks : List Nat) (x y : Nat) : Prop := conn (ks.map en) x y
instance (en : Nat → Nat × Nat) (ks : List Nat) (x y : Nat) : Decidable (cn en ks x y) := inferInstanceAs (Decidable (conn _ x y))
section
variable {en : Nat → Nat × Nat} {T : List Nat} {a x y z k : Nat}
theorem cn_refl : cn en T x x := rfl
theorem cn.symm (h : cn en T x y) : cn en T y x := Eq.symm h
theorem cn.trans (h : cn en T x y) (k : cn en T y z) : cn en T x z := Eq.trans h k
theorem cn_line (h : k ∈ T) : cn en T (en k).1 (en k).2 := conn_edge (List.mem_map_of_mem h)
theorem cn_of {T' : List Nat} (h : ∀ k ∈ T, cn en T' (en k).1 (en k).2) (hc : cn en T x y) : cn en T' x y := conn_of (fun e he => by obtain ⟨k, hk, rfl⟩ := List.mem_map.1 he; exact h k hk) hc
theorem cn_mono {T' : List Nat} (h : ∀ k ∈ T, k ∈ T') (hc : cn en T x y) : cn en T' x y := cn_of (fun _ hk => cn_line (h _ hk)) hc
theorem cn_congr {T' : List Nat} (h : ∀ k, k ∈ T ↔ k ∈ T') : cn en T x y ↔ cn en T' x y := ⟨cn_mono fun k => (h k).1, cn_mono fun k => (h k).2⟩
theorem cn_snoc : cn en (T ++ [k]) x y ↔ cn en T x y ∨ (cn en T x (en k).1 ∧ cn en T (en k).2 y) ∨ (cn en T x (en k).2 ∧ cn en T (en k).1 y) := by
  unfold cn
  rw [List.map_append, List.map_cons, List.map_nil]
  exact conn_snoc
theorem cn_drop {T' : List Nat} (hE : ∀ d, d ∈ T → d = k ∨ d ∈ T') (hs : ∀ d, d ∈ T' → d ∈ T) (hk : k ∈ T) (hn : ¬ cn en T x (en k).1) (h : cn en T x y) : cn en T' x y := by
  refine conn_drop (E := T.map en) (E' := T'.map en) (e := en k) (fun d hd => ?_) (fun d hd => ?_) (List.mem_map_of_mem hk) hn h
  · obtain ⟨j, hj, rfl⟩ := List.mem_map.1 hd
    rcases hE j hj with rfl | h
    · exact Or.inl rfl
    · exact Or.inr (List.mem_map_of_mem h)
  · obtain ⟨j, hj, rfl⟩ := List.mem_map.1 hd
    exact List.mem_map_of_mem (hs j hj)
def Inc (en : Nat → Nat × Nat) (k x z : Nat) : Prop := ((en k).1 = x ∧ (en k).2 = z) ∨ ((en k).2 = x ∧ (en k).1 = z)
theorem Inc.cn (h : Inc en k x z) (hk : k ∈ T) : cn en T x z := by
  rcases h with ⟨rfl, rfl⟩ | ⟨rfl, rfl⟩
  · exact cn_line hk
  · exact (cn_line hk).symm
structure Fo (en : Nat → Nat × Nat) (T : List Nat) : Prop where
  nodup : T.Nodup
  cut : ∀ k ∈ T, ¬ cn en (less T k) (en k).1 (en k).2
theorem Fo.nil : Fo en [] := ⟨List.nodup_nil, fun _ h => absurd h List.not_mem_nil⟩
theorem Fo.snoc (h : Fo en T) (hk : k ∉ T) (hn : ¬ cn en T (en k).1 (en k).2) : Fo en (T ++ [k]) := by
  refine ⟨?_, fun j hj hc => ?_⟩
  · rw [List.nodup_append]
    exact ⟨h.nodup, List.pairwise_singleton _ _, fun a ha b hb e => by simp at hb; subst hb; subst e; exact hk ha⟩
  · rcases List.mem_append.1 hj with hj | hj
    · have hjk : j ≠ k := fun e => hk (e ▸ hj)
      have hl : ∀ d, d ∈ less (T ++ [k]) j ↔ d ∈ less T j ++ [k] := by
        intro d; rw [mem_less]; simp only [List.mem_append, List.mem_singleton, mem_less]
        constructor
        · rintro ⟨h1 | h1, h2⟩
          · exact Or.inl ⟨h1, h2⟩
          · exact Or.inr h1
        · rintro (⟨h1, h2⟩ | h1)
          · exact ⟨Or.inl h1, h2⟩
          · exact ⟨Or.inr h1, fun e => hjk (e.symm.trans h1)⟩
      have hm : ∀ {u v}, cn en (less T j) u v → cn en T u v := fun c => cn_mono (fun d hd => (mem_less.1 hd).1) c
      rcases cn_snoc.1 ((cn_congr hl).1 hc) with hc | ⟨h1, h2⟩ | ⟨h1, h2⟩
      · exact h.cut j hj hc
      · exact hn (((hm h1).symm.trans (cn_line hj)).trans (hm h2).symm)
      · exact hn ((((hm h1).symm.trans (cn_line hj)).trans (hm h2).symm).symm)
    · have e : j = k := by simpa using hj
      subst e
      refine hn ((cn_congr fun d => ?_).1 hc)
      rw [mem_less]; simp only [List.mem_append, List.mem_singleton]
      constructor
      · rintro ⟨h1 | h1, h2⟩
        · exact h1
        · exact absurd h1 h2
      · intro h1; exact ⟨Or.inl h1, fun e => hk (e ▸ h1)⟩
theorem Fo.inc (h : Fo en T) (hk : k ∈ T) (hi : Inc en k x z) : ¬ cn en (less T k) x z := by
  intro hc
  rcases hi with ⟨rfl, rfl⟩ | ⟨rfl, rfl⟩
  · exact h.cut k hk hc
  · exact h.cut k hk hc.symm
theorem Fo.far (h : Fo en T) {j : Nat} (hk : k ∈ T) (hi : Inc en k x z) (hj : j ∈ T) (hjk : j ≠ k) {p : Nat} (hj2 : Inc en j x p) (hc : cn en (less T k) z y) : cn en (less T j) z y := by
  have hn : ¬ cn en (less T k) z (en j).1 := by
    intro hz
    have hjl : j ∈ less T k := mem_less.2 ⟨hj, hjk⟩
    have : cn en (less T k) x (en j).1 := by
      rcases hj2 with ⟨rfl, rfl⟩ | ⟨rfl, rfl⟩
      · exact cn_refl
      · exact (cn_line hjl).symm
    exact h.inc hk hi (this.trans hz.symm)
  have := cn_drop (T' := less (less T k) j) (fun d hd => (Decidable.em (d = j)).imp id (fun hne => mem_less.2 ⟨hd, hne⟩)) (fun d hd => (mem_less.1 hd).1) (mem_less.2 ⟨hj, hjk⟩) hn hc
  exact cn_mono (fun d hd => mem_less.2 ⟨(mem_less.1 (mem_less.1 hd).1).1, (mem_less.1 hd).2⟩) this
theorem Fo.step (h : Fo en T) (last : Option Nat) (hl : ∀ j, last = some j → j ∈ T ∧ ∃ p, Inc en j x p) (hne : x ≠ y) :
    cn en (T.filter (fun j => some j != last)) x y ↔ ∃ k ∈ T, some k ≠ last ∧ ∃ z, Inc en k x z ∧ cn en (less T k) z y := by
  constructor
  · intro hc
    obtain ⟨e, he, z, hz, hc2⟩ := conn_first hc hne
    obtain ⟨k, hk, rfl⟩ := List.mem_map.1 he
    have hk2 := List.mem_filter.1 hk
    refine ⟨k, hk2.1, by simpa using hk2.2, z, hz, ?_⟩
    refine conn_mono (fun d hd => ?_) hc2
    obtain ⟨hd1, hd2⟩ := List.mem_filter.1 hd
    obtain ⟨j, hj, rfl⟩ := List.mem_map.1 hd1
    refine List.mem_map_of_mem (mem_less.2 ⟨(List.mem_filter.1 hj).1, fun e => ?_⟩)
    subst e
    simp only [Bool.and_eq_true, bne_iff_ne, ne_eq] at hd2
    rcases hz with ⟨h1, _⟩ | ⟨h1, _⟩
    · exact hd2.1 h1
    · exact hd2.2 h1
  · rintro ⟨k, hk, hkl, z, hi, hc⟩
    have hkm : k ∈ T.filter (fun j => some j != last) := List.mem_filter.2 ⟨hk, by simpa using hkl⟩
    refine (hi.cn hkm).trans ?_
    cases last with
    | none => exact cn_mono (fun d hd => List.mem_filter.2 ⟨(mem_less.1 hd).1, rfl⟩) hc
    | some j =>
      obtain ⟨hj, p, hp⟩ := hl j rfl
      have := h.far hk hi hj (fun e => hkl (by rw [e])) hp hc
      exact cn_mono (fun d hd => List.mem_filter.2 ⟨(mem_less.1 hd).1, by have := (mem_less.1 hd).2; simpa using this⟩) this
def b2i (p : Prop) [Decidable p] : Int := if p then 1 else 0
def W (en : Nat → Nat × Nat) (T : List Nat) (a x t : Nat) : Int := if t ∈ T then b2i (cn en (less T t) a (en t).1) - b2i (cn en (less T t) x (en t).1) else 0
theorem b2i_congr {p q : Prop} [Decidable p] [Decidable q] (h : p ↔ q) : b2i p = b2i q := by unfold b2i; by_cases hp : p <;> by_cases hq : q <;> simp_all
theorem b2i_pos {p : Prop} [Decidable p] (h : p) : b2i p = 1 := if_pos h
theorem b2i_neg {p : Prop} [Decidable p] (h : ¬ p) : b2i p = 0 := if_neg h
theorem W_self (t : Nat) : W en T a a t = 0 := by unfold W; split <;> omega
theorem W_other (hk : k ∈ T) (hi : Inc en k x z) {t : Nat} (ht : t ≠ k) : W en T a z t = W en T a x t := by
  unfold W
  split
  · rw [b2i_congr (p := cn en (less T t) z (en t).1) (q := cn en (less T t) x (en t).1)]
    have hx : cn en (less T t) x z := hi.cn (mem_less.2 ⟨hk, fun e => ht e.symm⟩)
    exact ⟨fun h => hx.trans h, fun h => hx.symm.trans h⟩
  · rfl
theorem W_here (hk : k ∈ T) (hi : Inc en k x z) (hc : cn en (less T k) a x) : W en T a x k = 0 := by
  unfold W
  rw [if_pos hk, b2i_congr (p := cn en (less T k) x (en k).1) (q := cn en (less T k) a (en k).1)]
  · omega
  · exact ⟨fun h => hc.trans h, fun h => hc.symm.trans h⟩
theorem W_next (hF : Fo en T) (hk : k ∈ T) (hi : Inc en k x z) (hc : cn en (less T k) a x) : W en T a z k = if (en k).1 = x then 1 else -1 := by
  have hn := hF.inc hk hi
  unfold W
  rw [if_pos hk]
  by_cases hx : (en k).1 = x
  · rw [if_pos hx, hx, b2i_pos hc, b2i_neg (fun h => hn h.symm)]; rfl
  · have hz : (en k).1 = z := by
      rcases hi with ⟨h, _⟩ | ⟨_, h⟩
      · exact absurd h hx
      · exact h
    rw [if_neg hx, hz, b2i_pos cn_refl, b2i_neg (fun h => hn (hc.symm.trans h))]; rfl
theorem Fo.fresh (h : Fo en T) (hk : k ∈ T) (hi : Inc en k x z) (hc : cn en (less T k) a x) {j p : Nat} (hj : j ∈ T) (hjk : j ≠ k) (hp : Inc en j z p) : cn en (less T j) a z := by
  have hn : ¬ cn en (less T k) a (en j).1 := by
    intro ha
    have hjl : j ∈ less T k := mem_less.2 ⟨hj, hjk⟩
    have : cn en (less T k) z (en j).1 := by
      rcases hp with ⟨rfl, rfl⟩ | ⟨rfl, rfl⟩
      · exact cn_refl
      · exact (cn_line hjl).symm
    exact h.inc hk hi (hc.symm.trans (ha.trans this.symm))
  have := cn_drop (T' := less (less T k) j) (fun d hd => (Decidable.em (d = j)).imp id (fun hne => mem_less.2 ⟨hd, hne⟩)) (fun d hd => (mem_less.1 hd).1) (mem_less.2 ⟨hj, hjk⟩) hn hc
  have h2 : cn en (less T j) a x := cn_mono (fun d hd => mem_less.2 ⟨(mem_less.1 (mem_less.1 hd).1).1, (mem_less.1 hd).2⟩) this
  exact h2.trans (hi.cn (mem_less.2 ⟨hk, fun e => hjk e.symm⟩))
end
end
section
def stepF (on : List Int → Int → Int → Option (Bool × List Int)) (way : List Int) (k next sign : Int) : Option (Bool × List Int) :=
  (on (way.set k.toNat sign) next k).bind fun r => some (r.1, if r.1 = true then r.2 else r.2.set k.toNat 0)
def goF (on : List Int → Int → Int → Option (Bool × List Int)) (L : List S37) (at_ last : Int) : List Int → List Int → Option (Bool × List Int)
  | [], way => some (false, way)
  | k :: ks, way =>
    if k = last then goF on L at_ last ks way
    else if (rd_T37 L k).f0 = at_ then
      (stepF on way k (rd_T37 L k).f1 1).bind fun r => if r.1 = true then some (true, r.2) else
        if (rd_T37 L k).f1 = at_ then (stepF on r.2 k (rd_T37 L k).f0 (-1)).bind fun r => if r.1 = true then some (true, r.2) else goF on L at_ last ks r.2
        else goF on L at_ last ks r.2
    else if (rd_T37 L k).f1 = at_ then (stepF on way k (rd_T37 L k).f0 (-1)).bind fun r => if r.1 = true then some (true, r.2) else goF on L at_ last ks r.2
    else goF on L at_ last ks way
def onF (L : List S37) (T : List Int) (tgt : Int) : Nat → List Int → Int → Int → Option (Bool × List Int)
  | 0, _, _, _ => none
  | k + 1, way, at_, last => if at_ = tgt then some (true, way) else goF (onF L T tgt k) L at_ last T way
def enL (L : List S37) (k : Nat) : Nat × Nat := ((rd_T37 L (k : Int)).f0.toNat, (rd_T37 L (k : Int)).f1.toNat)
def castL (T : List Nat) : List Int := T.map (fun (k : Nat) => (k : Int))
def wayOf (L : List S37) (T : List Nat) (a x : Nat) : List Int := (List.range L.length).map (W (enL L) T a x)
structure GoodL (L : List S37) (T : List Nat) : Prop where
  lt : ∀ k ∈ T, k < L.length
  f0 : ∀ k ∈ T, (rd_T37 L (k : Int)).f0 = (((enL L k).1 : Nat) : Int)
  f1 : ∀ k ∈ T, (rd_T37 L (k : Int)).f1 = (((enL L k).2 : Nat) : Int)
  ne : ∀ k ∈ T, (enL L k).1 ≠ (enL L k).2
section
variable {L : List S37} {T : List Nat} {a x z k tgt : Nat}
theorem wayOf_len : (wayOf L T a x).length = L.length := by simp [wayOf]
theorem wayOf_self : wayOf L T a a = List.replicate L.length 0 := by
  unfold wayOf
  rw [List.eq_replicate_iff]
  refine ⟨by simp, fun b hb => ?_⟩
  obtain ⟨t, _, rfl⟩ := List.mem_map.1 hb
  exact W_self t
theorem wayOf_set (hF : Fo (enL L) T) (hk : k ∈ T) (hi : Inc (enL L) k x z) (hc : cn (enL L) (less T k) a x) : (wayOf L T a x).set k (if (enL L k).1 = x then 1 else -1) = wayOf L T a z := by
  unfold wayOf
  apply List.ext_getElem
  · simp
  · intro i h1 h2
    rw [List.getElem_set, List.getElem_map, List.getElem_map, List.getElem_range]
    by_cases h : k = i
    · rw [if_pos h, ← h, W_next hF hk hi hc]
    · rw [if_neg h, W_other hk hi (fun e => h e.symm)]
theorem wayOf_wipe (hk : k ∈ T) (hi : Inc (enL L) k x z) (hc : cn (enL L) (less T k) a x) : (wayOf L T a z).set k 0 = wayOf L T a x := by
  unfold wayOf
  apply List.ext_getElem
  · simp
  · intro i h1 h2
    rw [List.getElem_set, List.getElem_map, List.getElem_map, List.getElem_range]
    by_cases h : k = i
    · rw [if_pos h, ← h, W_here hk hi hc]
    · rw [if_neg h, W_other hk hi (fun e => h e.symm)]
def OnOk (L : List S37) (T : List Nat) (a tgt : Nat) (last : Option Nat) (x : Nat) (on : List Int → Int → Int → Option (Bool × List Int)) : Prop :=
  ∀ k ∈ T, some k ≠ last → ∀ z, Inc (enL L) k x z → ∃ b, on (wayOf L T a z) (z : Int) (k : Int) = some (b, if b = true then wayOf L T a tgt else wayOf L T a z) ∧ (b = true ↔ cn (enL L) (less T k) z tgt)
theorem step_spec (hF : Fo (enL L) T) {on : List Int → Int → Int → Option (Bool × List Int)} {last : Option Nat} (hon : OnOk L T a tgt last x on) (hk : k ∈ T) (hkl : some k ≠ last) (hi : Inc (enL L) k x z) (hc : cn (enL L) (less T k) a x) {s : Int} (hs : s = if (enL L k).1 = x then 1 else -1) :
    ∃ b, stepF on (wayOf L T a x) (k : Int) (z : Int) s = some (b, if b = true then wayOf L T a tgt else wayOf L T a x) ∧ (b = true ↔ cn (enL L) (less T k) z tgt) := by
  obtain ⟨b, hb, hbt⟩ := hon k hk hkl z hi
  refine ⟨b, ?_, hbt⟩
  rw [stepF, Int.toNat_natCast, hs, wayOf_set hF hk hi hc, hb, Option.bind_some]
  cases b with
  | true => rfl
  | false => simp only [Bool.false_eq_true, if_false]; rw [wayOf_wipe hk hi hc]
theorem go_spec (hF : Fo (enL L) T) (hL : GoodL L T) {on : List Int → Int → Int → Option (Bool × List Int)} {last : Option Nat} (lastI : Int) (hlast : ∀ k : Nat, k ∈ T → ((k : Int) = lastI ↔ some k = last)) (hon : OnOk L T a tgt last x on)
    (hc : ∀ k ∈ T, some k ≠ last → ∀ z, Inc (enL L) k x z → cn (enL L) (less T k) a x) : ∀ ks : List Nat, (∀ k ∈ ks, k ∈ T) →
    ∃ b, goF on L (x : Int) lastI (castL ks) (wayOf L T a x) = some (b, if b = true then wayOf L T a tgt else wayOf L T a x) ∧ (b = true ↔ ∃ k ∈ ks, some k ≠ last ∧ ∃ z, Inc (enL L) k x z ∧ cn (enL L) (less T k) z tgt) := by
  intro ks
  induction ks with
  | nil => intro _; exact ⟨false, rfl, by simp⟩
  | cons k ks ih =>
    intro hks
    obtain ⟨b, hb, hbt⟩ := ih (fun j hj => hks j (List.mem_cons_of_mem _ hj))
    have hk := hks k (List.mem_cons_self ..)
    have h0 := hL.f0 k hk
    have h1 := hL.f1 k hk
    have hne := hL.ne k hk
    have skip : (¬ ∃ z, some k ≠ last ∧ Inc (enL L) k x z ∧ cn (enL L) (less T k) z tgt) → (b = true ↔ ∃ j ∈ k :: ks, some j ≠ last ∧ ∃ z, Inc (enL L) j x z ∧ cn (enL L) (less T j) z tgt) := by
      intro hno
      rw [hbt]
      constructor
      · rintro ⟨j, hj, h⟩; exact ⟨j, List.mem_cons_of_mem _ hj, h⟩
      · rintro ⟨j, hj, h, z, h2⟩
        rcases List.mem_cons.1 hj with rfl | hj
        · exact absurd ⟨z, h, h2⟩ hno
        · exact ⟨j, hj, h, z, h2⟩
    show ∃ b, goF on L (x : Int) lastI ((k : Int) :: castL ks) (wayOf L T a x) = some (b, _) ∧ _
    rw [goF]
    by_cases hl : (k : Int) = lastI
    · rw [if_pos hl]
      exact ⟨b, hb, skip (fun ⟨z, h, _⟩ => h ((hlast k hk).1 hl))⟩
    · have hkl : some k ≠ last := fun e => hl ((hlast k hk).2 e)
      rw [if_neg hl, h0, h1]
      by_cases hx : (enL L k).1 = x
      · have hi : Inc (enL L) k x (enL L k).2 := Or.inl ⟨hx, rfl⟩
        obtain ⟨b', hb', hbt'⟩ := step_spec hF hon hk hkl hi (hc k hk hkl _ hi) (s := 1) (by rw [if_pos hx])
        rw [if_pos (by omega), hb', Option.bind_some]
        have huniq : ∀ z, Inc (enL L) k x z → z = (enL L k).2 := by
          rintro z (⟨_, h⟩ | ⟨h, _⟩)
          · exact h.symm
          · exact absurd (hx.trans h.symm) hne
        cases b' with
        | true => exact ⟨true, by simp, by simp only [true_iff]; exact ⟨k, List.mem_cons_self .., hkl, _, hi, hbt'.1 rfl⟩⟩
        | false =>
          simp only [Bool.false_eq_true, if_false]
          rw [if_neg (by omega)]
          exact ⟨b, hb, skip (fun ⟨z, _, h, h2⟩ => by rw [huniq z h] at h2; exact absurd (hbt'.2 h2) (by simp))⟩
      · rw [if_neg (by omega)]
        by_cases hy : (enL L k).2 = x
        · have hi : Inc (enL L) k x (enL L k).1 := Or.inr ⟨hy, rfl⟩
          obtain ⟨b', hb', hbt'⟩ := step_spec hF hon hk hkl hi (hc k hk hkl _ hi) (s := -1) (by rw [if_neg hx])
          rw [if_pos (by omega), hb', Option.bind_some]
          have huniq : ∀ z, Inc (enL L) k x z → z = (enL L k).1 := by
            rintro z (⟨h, _⟩ | ⟨_, h⟩)
            · exact absurd h hx
            · exact h.symm
          cases b' with
          | true => exact ⟨true, by simp, by simp only [true_iff]; exact ⟨k, List.mem_cons_self .., hkl, _, hi, hbt'.1 rfl⟩⟩
          | false =>
            simp only [Bool.false_eq_true, if_false]
            exact ⟨b, hb, skip (fun ⟨z, _, h, h2⟩ => by rw [huniq z h] at h2; exact absurd (hbt'.2 h2) (by simp))⟩
        · rw [if_neg (by omega)]
          exact ⟨b, hb, skip (fun ⟨z, _, h, _⟩ => by rcases h with ⟨h, _⟩ | ⟨h, _⟩ <;> first | exact hx h | exact hy h)⟩
theorem filter_lt {p q : Nat → Bool} (h : ∀ t ∈ T, p t = true → q t = true) (hk : k ∈ T) (hp : p k = false) (hq : q k = true) : (T.filter p).length < (T.filter q).length := by
  induction T with
  | nil => cases hk
  | cons t T ih =>
    have hle : (T.filter p).length ≤ (T.filter q).length := by
      rw [← List.countP_eq_length_filter, ← List.countP_eq_length_filter]
      exact List.countP_mono_left (fun t ht => h t (List.mem_cons_of_mem _ ht))
    rcases List.mem_cons.1 hk with rfl | hk
    · rw [List.filter_cons, List.filter_cons, hp, hq]; simp; omega
    · have := ih (fun t ht => h t (List.mem_cons_of_mem _ ht)) hk
      rw [List.filter_cons, List.filter_cons]
      by_cases hpt : p t = true
      · rw [if_pos hpt, if_pos (h t (List.mem_cons_self ..) hpt)]; simp; omega
      · rw [if_neg hpt]; split <;> simp <;> omega
def off (L : List S37) (T : List Nat) (a x : Nat) : Nat := (T.filter (fun t => W (enL L) T a x t == 0)).length
theorem off_lt (hF : Fo (enL L) T) (hk : k ∈ T) (hi : Inc (enL L) k x z) (hc : cn (enL L) (less T k) a x) : off L T a z < off L T a x := by
  have hn := W_next hF hk hi hc
  refine filter_lt (k := k) (fun t ht h => ?_) hk ?_ ?_
  · by_cases e : t = k
    · subst e
      rw [hn] at h
      split at h <;> simp at h
    · rw [W_other hk hi e] at h; exact h
  · rw [hn]; split <;> rfl
  · rw [W_here hk hi hc]; rfl
theorem on_spec (hF : Fo (enL L) T) (hL : GoodL L T) : ∀ (fuel x : Nat) (last : Option Nat) (lastI : Int), (∀ k : Nat, k ∈ T → ((k : Int) = lastI ↔ some k = last)) → (∀ j, last = some j → j ∈ T ∧ ∃ p, Inc (enL L) j x p) →
    (∀ k ∈ T, some k ≠ last → ∀ z, Inc (enL L) k x z → cn (enL L) (less T k) a x) → off L T a x < fuel →
    ∃ b, onF L (castL T) (tgt : Int) fuel (wayOf L T a x) (x : Int) lastI = some (b, if b = true then wayOf L T a tgt else wayOf L T a x) ∧ (b = true ↔ cn (enL L) (T.filter (fun j => some j != last)) x tgt) := by
  intro fuel
  induction fuel with
  | zero => intro x last lastI _ _ _ h; omega
  | succ fuel ih =>
    intro x last lastI hlast hl hc hoff
    rw [onF]
    by_cases hxt : x = tgt
    · subst hxt
      rw [if_pos rfl]
      exact ⟨true, by simp, by simp only [true_iff]; exact cn_refl⟩
    · rw [if_neg (by omega)]
      have hon : OnOk L T a tgt last x (onF L (castL T) (tgt : Int) fuel) := by
        intro k hk hkl z hi
        have hck := hc k hk hkl z hi
        obtain ⟨b, hb, hbt⟩ := ih z (some k) (k : Int) (fun j _ => ⟨fun h => by rw [show j = k by omega], fun h => by cases h; rfl⟩)
          (fun j hj => by cases hj; exact ⟨hk, x, by rcases hi with ⟨h1, h2⟩ | ⟨h1, h2⟩ <;> first | exact Or.inr ⟨h2, h1⟩ | exact Or.inl ⟨h2, h1⟩⟩)
          (fun j hj hjk p hp => hF.fresh hk hi hck hj (fun e => hjk (by rw [e])) hp) (by have := off_lt hF hk hi hck; omega)
        refine ⟨b, hb, hbt.trans (cn_congr fun d => ?_)⟩
        rw [mem_less, List.mem_filter]
        constructor
        · rintro ⟨h1, h2⟩; exact ⟨h1, by simpa using h2⟩
        · rintro ⟨h1, h2⟩; exact ⟨h1, by simpa using h2⟩
      obtain ⟨b, hb, hbt⟩ := go_spec hF hL lastI hlast hon hc T (fun _ h => h)
      exact ⟨b, hb, hbt.trans (hF.step last hl hxt).symm⟩
theorem on_all (hF : Fo (enL L) T) (hL : GoodL L T) (a tgt : Nat) {fuel : Nat} (hf : T.length < fuel) :
    ∃ b, onF L (castL T) (tgt : Int) fuel (List.replicate L.length 0) (a : Int) (-1) = some (b, if b = true then wayOf L T a tgt else List.replicate L.length 0) ∧ (b = true ↔ cn (enL L) T a tgt) := by
  obtain ⟨b, hb, hbt⟩ := on_spec (a := a) (tgt := tgt) hF hL fuel a none (-1) (fun k _ => ⟨fun h => by omega, fun h => by cases h⟩) (fun j hj => by cases hj) (fun k hk _ z hi => cn_refl) (by
    have : off L T a a ≤ T.length := List.length_filter_le _ _
    omega)
  rw [wayOf_self] at hb
  refine ⟨b, hb, hbt.trans (cn_congr fun d => ?_)⟩
  rw [List.mem_filter]
  exact ⟨fun h => h.1, fun h => ⟨h, rfl⟩⟩
end
end
section
def trStep (en : Nat → Nat × Nat) (t : List Nat) (k : Nat) : List Nat := if cn en t (en k).1 (en k).2 then t else t ++ [k]
def tr (en : Nat → Nat × Nat) (ks : List Nat) : List Nat := ks.foldl (trStep en) []
section
variable {en : Nat → Nat × Nat} {T ks : List Nat} {a b x y z k : Nat}
theorem tr_snoc (ks : List Nat) (k : Nat) : tr en (ks ++ [k]) = trStep en (tr en ks) k := by simp [tr]
theorem snoc_ind {P : List Nat → Prop} (h0 : P []) (hs : ∀ ks k, P ks → P (ks ++ [k])) (ks : List Nat) : P ks := by
  have key : ∀ n, ∀ ks : List Nat, ks.length = n → P ks := by
    intro n
    induction n with
    | zero => intro ks h; rw [List.eq_nil_of_length_eq_zero h]; exact h0
    | succ n ih =>
      intro ks h
      have hne : ks ≠ [] := fun e => by rw [e] at h; simp at h
      rw [← List.dropLast_concat_getLast hne]
      exact hs _ _ (ih _ (by rw [List.length_dropLast]; omega))
  exact key _ ks rfl
theorem tr_sub (ks : List Nat) : ∀ k ∈ tr en ks, k ∈ ks := by
  refine snoc_ind (P := fun ks => ∀ k ∈ tr en ks, k ∈ ks) (fun k h => h) (fun ks k ih j hj => ?_) ks
  rw [tr_snoc, trStep] at hj
  split at hj
  · exact List.mem_append_left _ (ih j hj)
  · rcases List.mem_append.1 hj with h | h
    · exact List.mem_append_left _ (ih j h)
    · exact List.mem_append_right _ h
theorem tr_cn (ks : List Nat) : ∀ x y, cn en (tr en ks) x y ↔ cn en ks x y := by
  refine snoc_ind (P := fun ks => ∀ x y, cn en (tr en ks) x y ↔ cn en ks x y) (fun _ _ => Iff.rfl) (fun ks k ih x y => ?_) ks
  rw [tr_snoc, trStep]
  split
  · rename_i hc
    rw [cn_snoc, ih]
    have hc' := (ih _ _).1 hc
    constructor
    · intro h; exact Or.inl h
    · rintro (h | ⟨h1, h2⟩ | ⟨h1, h2⟩)
      · exact h
      · exact (h1.trans hc').trans h2
      · exact (h1.trans hc'.symm).trans h2
  · rw [cn_snoc, cn_snoc, ih, ih, ih, ih, ih]
theorem tr_fo (ks : List Nat) : ks.Nodup → Fo en (tr en ks) := by
  refine snoc_ind (P := fun ks => ks.Nodup → Fo en (tr en ks)) (fun _ => Fo.nil) (fun ks k ih h => ?_) ks
  rw [List.nodup_append] at h
  rw [tr_snoc, trStep]
  split
  · exact ih h.1
  · rename_i hc
    exact (ih h.1).snoc (fun hk => h.2.2 k (tr_sub ks k hk) k (by simp) rfl) hc
theorem tr_sorted (ks : List Nat) : ks.Pairwise (· < ·) → (tr en ks).Pairwise (· < ·) := by
  refine snoc_ind (P := fun ks => ks.Pairwise (· < ·) → (tr en ks).Pairwise (· < ·)) (fun _ => List.Pairwise.nil) (fun ks k ih h => ?_) ks
  rw [List.pairwise_append] at h
  rw [tr_snoc, trStep]
  split
  · exact ih h.1
  · rw [List.pairwise_append]
    exact ⟨ih h.1, List.pairwise_singleton _ _, fun a ha b hb => h.2.2 a (tr_sub ks a ha) b hb⟩
def cnt (f : Nat → Nat) (N : Nat) : Nat := ((List.range N).filter (fun b => f b == b)).length
def sumTo (F : Nat → Int) : Nat → Int
  | 0 => 0
  | n + 1 => sumTo F n + F n
def dl (x y : Nat) : Int := if x = y then 1 else 0
def dd (en : Nat → Nat × Nat) (t x : Nat) : Int := dl (en t).1 x - dl (en t).2 x
theorem cn_less (hk : k ∈ T) : cn en T x y ↔ cn en (less T k) x y ∨ (cn en (less T k) x (en k).1 ∧ cn en (less T k) (en k).2 y) ∨ (cn en (less T k) x (en k).2 ∧ cn en (less T k) (en k).1 y) := by
  rw [← cn_snoc]
  refine cn_congr fun d => ?_
  rw [List.mem_append, mem_less, List.mem_singleton]
  by_cases h : d = k
  · subst h; simp [hk]
  · simp [h]
theorem W_ne (hF : Fo en T) (hk : k ∈ T) (h : cn en T a b) : W en T a b k ≠ 0 ↔ ¬ cn en (less T k) a b := by
  unfold W
  rw [if_pos hk]
  constructor
  · intro hw hc
    refine hw ?_
    rw [b2i_congr (p := cn en (less T k) b (en k).1) (q := cn en (less T k) a (en k).1) ⟨fun h => hc.trans h, fun h => hc.symm.trans h⟩]; omega
  · intro hc hw
    rcases (cn_less hk).1 h with h1 | ⟨h1, h2⟩ | ⟨h1, h2⟩
    · exact hc h1
    · rw [b2i_pos h1, b2i_neg (p := cn en (less T k) b (en k).1) (fun h3 => hF.cut k hk (h2.trans h3).symm)] at hw; omega
    · rw [b2i_pos (p := cn en (less T k) b (en k).1) h2.symm, b2i_neg (p := cn en (less T k) a (en k).1) (fun h3 => hF.cut k hk (h3.symm.trans h1))] at hw; omega
theorem used_iff (hks : ks.Nodup) (hk : k ∈ tr en ks) : (∃ c ∈ ks, c ∉ tr en ks ∧ W en (tr en ks) (en c).2 (en c).1 k ≠ 0) ↔ cn en (less ks k) (en k).1 (en k).2 := by
  have hF := tr_fo (en := en) ks hks
  have hall : ∀ c ∈ ks, cn en (tr en ks) (en c).2 (en c).1 := fun c hc => (tr_cn ks _ _).2 (cn_line hc).symm
  have hsub : ∀ d ∈ less (tr en ks) k, d ∈ less ks k := fun d hd => by rw [mem_less] at hd ⊢; exact ⟨tr_sub ks d hd.1, hd.2⟩
  constructor
  · rintro ⟨c, hc, hct, hw⟩
    have hn := (W_ne hF hk (hall c hc)).1 hw
    have hcl : c ∈ less ks k := mem_less.2 ⟨hc, fun e => hct (e ▸ hk)⟩
    rcases (cn_less hk).1 (hall c hc) with h1 | ⟨h1, h2⟩ | ⟨h1, h2⟩
    · exact absurd h1 hn
    · exact ((cn_mono hsub h1).symm.trans ((cn_line hcl).symm.trans (cn_mono hsub h2).symm))
    · exact (cn_mono hsub h2).trans ((cn_line hcl).trans (cn_mono hsub h1))
  · intro hc
    by_cases hex : ∃ c ∈ ks, c ∉ tr en ks ∧ W en (tr en ks) (en c).2 (en c).1 k ≠ 0
    · exact hex
    · refine absurd (cn_of (T' := less (tr en ks) k) (fun c hcl => ?_) hc) (hF.cut k hk)
      obtain ⟨hck, hne⟩ := mem_less.1 hcl
      by_cases hct : c ∈ tr en ks
      · exact cn_line (mem_less.2 ⟨hct, hne⟩)
      · by_cases hcn : cn en (less (tr en ks) k) (en c).2 (en c).1
        · exact hcn.symm
        · exact absurd ⟨c, hck, hct, (W_ne hF hk (hall c hck)).2 hcn⟩ hex
end
end
def twalk.f (k : Nat) (a0_0 : Int) (l0_1 : List (S37)) (l1 : List Int) (a2 : Int) (a3 : Int) (l4 : List Int) : Option (Bool × List Int) :=
 if ∀ t ∈ l1, 0 ≤ t ∧ t < (l0_1.length : Int) ∧ t < (l4.length : Int) ∧ (rd_T37 l0_1 t).f0 ≠ (rd_T37 l0_1 t).f1 then onF l0_1 l1 a3 k l4 a2 (-1) else none
theorem goF_len {on : List Int → Int → Int → Option (Bool × List Int)} (h : ∀ w a l r, on w a l = some r → r.2.length = w.length) (L : List S37) (at_ last : Int) : ∀ (ks : List Int) (way : List Int) (r : Bool × List Int), goF on L at_ last ks way = some r → r.2.length = way.length := by
 have hs : ∀ w k n s r, stepF on w k n s = some r → r.2.length = w.length := by
  intro w k n s r hr
  unfold stepF at hr
  obtain ⟨q, hq, hr⟩ := Option.bind_eq_some_iff.1 hr
  have h1 := h _ _ _ _ hq
  rw [List.length_set] at h1
  obtain rfl := Option.some.inj hr
  show (if q.1 = true then q.2 else q.2.set k.toNat 0).length = w.length
  split
  ·exact h1
  ·rw [List.length_set]; exact h1
 intro ks
 induction ks with
 | nil => intro way r hr; obtain rfl := Option.some.inj hr; rfl
 | cons k ks ih =>
  intro way r hr
  rw [goF] at hr
  by_cases h1 : k = last
  ·rw [if_pos h1] at hr; exact ih _ _ hr
  ·rw [if_neg h1] at hr
   by_cases h2 : (rd_T37 L k).f0 = at_
   ·rw [if_pos h2] at hr
    obtain ⟨q, hq, hr⟩ := Option.bind_eq_some_iff.1 hr
    have e1 := hs _ _ _ _ _ hq
    by_cases h3 : q.1 = true
    ·rw [if_pos h3] at hr; obtain rfl := Option.some.inj hr; exact e1
    ·rw [if_neg h3] at hr
     by_cases h4 : (rd_T37 L k).f1 = at_
     ·rw [if_pos h4] at hr
      obtain ⟨q2, hq2, hr⟩ := Option.bind_eq_some_iff.1 hr
      have e2 := hs _ _ _ _ _ hq2
      by_cases h5 : q2.1 = true
      ·rw [if_pos h5] at hr; obtain rfl := Option.some.inj hr; exact e2.trans e1
      ·rw [if_neg h5] at hr; exact (ih _ _ hr).trans (e2.trans e1)
     ·rw [if_neg h4] at hr; exact (ih _ _ hr).trans e1
   ·rw [if_neg h2] at hr
    by_cases h4 : (rd_T37 L k).f1 = at_
    ·rw [if_pos h4] at hr
     obtain ⟨q2, hq2, hr⟩ := Option.bind_eq_some_iff.1 hr
     have e2 := hs _ _ _ _ _ hq2
     by_cases h5 : q2.1 = true
     ·rw [if_pos h5] at hr; obtain rfl := Option.some.inj hr; exact e2
     ·rw [if_neg h5] at hr; exact (ih _ _ hr).trans e2
    ·rw [if_neg h4] at hr; exact ih _ _ hr
theorem onF_len (L : List S37) (T : List Int) (tgt : Int) : ∀ k w a l r, onF L T tgt k w a l = some r → r.2.length = w.length := by
 intro k
 induction k with
 | zero => intro w a l r h; simp [onF] at h
 | succ k ih =>
  intro w a l r h
  rw [onF] at h
  by_cases hx : a = tgt
  ·rw [if_pos hx] at h; obtain rfl := Option.some.inj h; rfl
  ·rw [if_neg hx] at h; exact goF_len (fun w a l r h => ih w a l r h) L a l T w r h
theorem wipe_calls (pf pw pk g n c : Nat) (k : Int) (found : Bool) (u : FrameMode) (w : World) (cf : w.cell? ⟨pf, 0, none⟩ = some (.bool found)) (cw : w.cell? ⟨pw, 0, none⟩ = some (.slice (some ⟨g, 0, none⟩) n c)) (ck : w.cell? ⟨pk, 0, none⟩ = some (.int .i64 k)) (cz : ∃ x, w.cell? ⟨g, k.toNat, none⟩ = some (.int .i64 x)) (fz : w.frozen? ⟨g, k.toNat, none⟩ = false) (h0 : 0 ≤ k) (h1 : k < n) :
  CallsD Try.prog 119 #[.pointer (some ⟨pf, 0, none⟩), .pointer (some ⟨pw, 0, none⟩), .pointer (some ⟨pk, 0, none⟩)] u w fun e u' w' => u' = u ∧ (e = .returned (.tuple #[]) ∧ w' = if found = true then w else w.setCell ⟨g, k.toNat, none⟩ (.int .i64 0)) := by
 obtain ⟨x, cz⟩ := cz
 have q1 : (0 ≤ k) = True := eq_true h0
 have q2 : (k < (n : Int)) = True := eq_true h1
 have q3 : decide (0 ≤ k) = true := decide_eq_true h0
 have q4 : decide (k < (n : Int)) = true := decide_eq_true h1
 cases found with
 | true =>
  go_enter_d Try.func119, Try.ntmps119
  go_wp2
  go_end0
  exact ⟨rfl, rfl⟩
 | false =>
  go_enter_d Try.func119, Try.ntmps119
  go_wp2
  go_end0
  exact ⟨rfl, rfl⟩
structure Cx where
 b : Int
 An : Option Addr
 cn : Nat
 L : List S37
 At : Option Addr
 cT : Nat
 T : List Int
 tgt : Int
 H : Nat
 B : Nat
 P : Nat → Prop
 u : Value
 w0 : World
 w : World
structure Cx.Ok (C : Cx) : Prop where
 hH : C.H = C.w.heap.size
 hB : C.B = C.w0.heap.size
 hP : ∀ k, C.P k → k < C.H
 hL : ∀ W, Kept C.w W C.P → Kd.C k37 W C.An C.L.length C.L
 hT : ∀ W, Kept C.w W C.P → Kd.C (Kd.int .i64) W C.At C.T.length C.T
structure Cx.St (C : Cx) (way : List Int) (X : World) : Prop where
 k0 : X.heap[C.H]? = some (.cells #[.int .i64 C.b, .slice C.An C.L.length C.cn] 24 (0, 0))
 k1 : X.heap[C.H + 1]? = some (.cells #[.slice C.At C.T.length C.cT] 25 (0, 0))
 k2 : X.heap[C.H + 2]? = some (.cells #[.int .i64 C.tgt] 3 (0, 0))
 k3 : X.heap[C.H + 3]? = some (.cells #[C.u] 25 (0, 0))
 k4 : X.heap[C.H + 4]? = some (.cells #[.func (.func 120) #[] #[.pointer (some ⟨C.H + 2, 0, none⟩), .pointer (some ⟨C.H + 1, 0, none⟩), .pointer (some ⟨C.H, 0, none⟩), .pointer (some ⟨C.H + 5, 0, none⟩)]] 115 (0, 0))
 k5 : X.heap[C.H + 5]? = some (.cells #[.func (.func 118) #[] #[.pointer (some ⟨C.H + 3, 0, none⟩), .pointer (some ⟨C.H + 4, 0, none⟩)]] 116 (0, 0))
 r : Kd.R (Kd.int .i64) 3 X C.B C.P C.u way
 kp : Kept C.w X C.P
 bl : Below C.B C.w0 X
theorem Cx.St.kept {C : Cx} (hC : C.Ok) {way way' : List Int} {X Y : World} (h : C.St way X) (hk : Kept X Y C.P) (hr : Kd.R (Kd.int .i64) 3 Y C.B C.P C.u way') (hb : Below C.B C.w0 Y) : C.St way' Y :=
 have n : ∀ i, ¬ C.P (C.H + i) := fun i hp => by have := hC.hP _ hp; omega
 ⟨blk_kept h.k0 hk (n 0), blk_kept h.k1 hk (n 1), blk_kept h.k2 hk (n 2), blk_kept h.k3 hk (n 3), blk_kept h.k4 hk (n 4), blk_kept h.k5 hk (n 5), hr, h.kp.then_ hk (fun _ h => Or.inl h), hb⟩
theorem Cx.St.size {C : Cx} {way : List Int} {X : World} (h : C.St way X) : C.H + 6 ≤ X.heap.size := blk_lt h.k5
theorem Cx.St.bsize {C : Cx} (hC : C.Ok) {way : List Int} {X : World} (h : C.St way X) : C.B ≤ X.heap.size := by have := h.bl.size; rw [← hC.hB] at this; exact this
theorem Cx.St.alloc {C : Cx} (hC : C.Ok) {way : List Int} {X : World} (h : C.St way X) (o : Obj) : C.St way (X.alloc o) :=
 h.kept hC ((Kept.refl _ _).alloc o) (Kd.R_alloc h.r o) (h.bl.alloc (h.bsize hC) o)
theorem Cx.St.drewN {C : Cx} (hC : C.Ok) {way : List Int} {X : World} (h : C.St way X) (n : Nat) : C.St way (X.drewN n) :=
 h.kept hC ((Kept.refl _ _).drewN n) (Kd.R_drewN h.r n) (bN h.bl n)
theorem Cx.St.form {C : Cx} {way : List Int} {X : World} (h : C.St way X) (hp : 0 < way.length) : ∃ g c, C.u = .slice (some ⟨g, 0, none⟩) way.length c ∧ C.P g ∧ C.B ≤ g := by
 obtain ⟨g, c, e, hb, _, _⟩ := Kd.R_form h.r hp
 exact ⟨g, c, e, h.r.1 g (by rw [e]; simp [Value.ownBlock]), hb⟩
theorem Cx.St.put {C : Cx} (hC : C.Ok) {way : List Int} {X : World} (h : C.St way X) {g c : Nat} (hu : C.u = .slice (some ⟨g, 0, none⟩) way.length c) (k : Int) (v : Int) : C.St (way.set k.toNat v) (X.setCell ⟨g, k.toNat, none⟩ (.int .i64 v)) ∧ Kept X (X.setCell ⟨g, k.toNat, none⟩ (.int .i64 v)) C.P := by
 have hr := h.r
 rw [hu] at hr
 have hg : C.P g := hr.1 g (by simp [Value.ownBlock])
 have hgB : C.B ≤ g := Kd.R_base hr g (by simp [Value.ownBlock])
 have hk : Kept X (X.setCell ⟨g, k.toNat, none⟩ (.int .i64 v)) C.P := (Kept.refl _ _).setCell (Or.inl hg) _
 refine ⟨h.kept hC hk ?_ (h.bl.setCell (p := ⟨g, k.toNat, none⟩) hgB _), hk⟩
 rw [hu]
 exact (Kd.R_put hr k v).1
def Cx.Post (C : Cx) (X : World) (r : Bool × List Int) (e : Ending) (Y : World) : Prop := e = .returned (.bool r.1) ∧ Kd.R (Kd.int .i64) 3 Y C.B C.P C.u r.2 ∧ Kept X Y C.P ∧ Below C.B C.w0 Y
theorem blk_two (Z : World) (o1 o2 : Obj) (s : Nat) (hs : Z.heap.size = s) : ((Z.alloc o1).alloc o2).heap[s]? = some o1 ∧ ((Z.alloc o1).alloc o2).heap[s + 1]? = some o2 := by
 subst hs
 refine ⟨kA (blk_new Z o1) o2, ?_⟩
 have := blk_new (Z.alloc o1) o2
 simpa using this
set_option maxRecDepth 100000 in
set_option maxHeartbeats 4000000 in
theorem try_calls (C : Cx) (hC : C.Ok) (way : List Int) (k at_ nx sg : Int) (r : Bool × List Int) (X : World) (hst : C.St way X) (h0 : 0 ≤ k) (h1 : k < (way.length : Int)) (hlen : r.2.length = way.length) (r' : Bool × List Int) (hr' : r' = (r.1, if r.1 = true then r.2 else r.2.set k.toNat 0))
  (hon : ∀ Y, C.St (way.set k.toNat sg) Y → Calls Try.prog 120 #[.int .i64 nx, .int .i64 k, .pointer (some ⟨C.H + 2, 0, none⟩), .pointer (some ⟨C.H + 1, 0, none⟩), .pointer (some ⟨C.H, 0, none⟩), .pointer (some ⟨C.H + 5, 0, none⟩)] Y (C.Post Y r)) :
  Calls Try.prog 118 #[.int .i64 k, .int .i64 at_, .int .i64 nx, .int .i64 sg, .pointer (some ⟨C.H + 3, 0, none⟩), .pointer (some ⟨C.H + 4, 0, none⟩)] X (C.Post X r') := by
 obtain ⟨g, c, hu, hPg, hBg⟩ := hst.form (by omega)
 have hgH := hC.hP g hPg
 have hsz := hst.size
 have c3 : X.cell? ⟨C.H + 3, 0, none⟩ = some (.slice (some ⟨g, 0, none⟩) way.length c) := (kC hst.k3 0).trans (by rw [hu]; rfl)
 have c4 : X.cell? ⟨C.H + 4, 0, none⟩ = some (.func (.func 120) #[] #[.pointer (some ⟨C.H + 2, 0, none⟩), .pointer (some ⟨C.H + 1, 0, none⟩), .pointer (some ⟨C.H, 0, none⟩), .pointer (some ⟨C.H + 5, 0, none⟩)]) := (kC hst.k4 0).trans rfl
 have hr := hst.r
 rw [hu] at hr
 obtain ⟨cz, fz⟩ := Kd.R_celln (0 : Int) hr k h0 (by omega)
 have hP4 := (hst.put hC hu k sg)
 have hmf : ∀ (fn : Fn) (first cap : Array Value) (w : World), (Instr.makeFunc fn first cap).run Try.prog w = .ok (.func fn first cap) w := fun _ _ _ _ => rfl
 have n4 : (g = C.H + 4) = False := eq_false (by omega)
 have n4' : (C.H + 4 = g) = False := eq_false (by omega)
 have l3 : C.H + 3 < X.heap.size := by omega
 have l4 : C.H + 4 < X.heap.size := by omega
 have lg : g < X.heap.size := by omega
 have q1 : (0 ≤ k) = True := eq_true h0
 have q2 : (k < (way.length : Int)) = True := eq_true h1
 have q3 : decide (0 ≤ k) = true := decide_eq_true h0
 have q4 : decide (k < (way.length : Int)) = true := decide_eq_true h1
 have HST := Lib.hid hst
 have HP4 := Lib.hid hP4
 have HON := Lib.hid hon
 have HL := Lib.hid hlen
 have HPG := Lib.hid hPg
 have HR' := Lib.hid hr'
 have HU := Lib.hid hu
 clear hst hP4 hon hr hlen hPg hr' hu
 go_enter_defers Try.func118, Try.ntmps118
 go_wp2_with (go_at_call 120; refine (HON.out _ ?st).mono ?_; (case st => exact (HP4.out.1.alloc hC _).alloc hC _); rintro e Y ⟨rfl, r2, kp2, bl2⟩; have R2 := Lib.hid r2; have KP2 := Lib.hid kp2; have BL2 := Lib.hid bl2; have kf2 := blk_two (X.setCell ⟨g, k.toNat, none⟩ (.int .i64 sg)) (.cells #[.int .i64 k] 3) (.cells #[.bool false] 4) X.heap.size (by simp [World.setCell]); have kf := blk_kept kf2.2 kp2 (fun hp => by have := hC.hP _ hp; omega); have kk := blk_kept kf2.1 kp2 (fun hp => by have := hC.hP _ hp; omega); clear kf2; have KK := Lib.hid kk; clear kk; have KF := Lib.hid kf; clear r2 kp2 bl2 kf; have cf : Y.cell? ⟨X.heap.size + 1, 0, none⟩ = some (.bool false) := (kC KF.out 0).trans rfl; have ff := kF KF.out 0)
 have n3 : C.H + 3 ≠ X.heap.size + 1 := by omega
 have n0 : X.heap.size ≠ X.heap.size + 1 := by omega
 have hk2 := KP2.out
 have st2 : C.St r.2 Y := ((HP4.out.1.alloc hC (.cells #[.int .i64 k] 3)).alloc hC (.cells #[.bool false] 4)).kept hC KP2.out R2.out BL2.out
 have KS := blk_set KF.out 0 (.bool r.1)
 have K3 : (Y.setCell ⟨X.heap.size + 1, 0, none⟩ (.bool r.1)).heap[C.H + 3]? = some (.cells #[C.u] 25 (0, 0)) := kR st2.k3 n3 _
 have K6 : (Y.setCell ⟨X.heap.size + 1, 0, none⟩ (.bool r.1)).heap[X.heap.size]? = some (.cells #[.int .i64 k] 3 (0, 0)) := kR KK.out n0 _
 have RS := Kd.R_set R2.out KF.out (by decide) 0 (.bool r.1)
 rw [HU.out] at RS
 obtain ⟨cz2, fz2⟩ := Kd.R_celln (0 : Int) RS k h0 (by omega)
 have hkept : Kept X Y C.P := by
  refine Kept.then_ (HP4.out.2) (S2 := C.P) (Kept.then_ ?_ KP2.out (fun _ h => Or.inl h)) (fun _ h => Or.inl h)
  exact ((Kept.refl _ _).alloc _).alloc _
 have hkeptS : Kept X (Y.setCell ⟨X.heap.size + 1, 0, none⟩ (.bool r.1)) C.P := hkept.setCell (Or.inr (by simp)) _
 have hbel : Below C.B C.w0 (Y.setCell ⟨X.heap.size + 1, 0, none⟩ (.bool r.1)) := BL2.out.setCell (p := ⟨X.heap.size + 1, 0, none⟩) (by have := HST.out.bsize hC; show C.B ≤ X.heap.size + 1; omega) _
 refine leaves_cons (f := 119) (args := #[.pointer (some ⟨X.heap.size + 1, 0, none⟩), .pointer (some ⟨C.H + 3, 0, none⟩), .pointer (some ⟨X.heap.size, 0, none⟩)]) (by simp) (by simp [go_sem]) ?_
 refine (wipe_calls (X.heap.size + 1) (C.H + 3) X.heap.size g way.length c k r.1 .returning _ ((kC KS 0).trans rfl) ((kC K3 0).trans (by rw [HU.out]; rfl)) ((kC K6 0).trans rfl) ⟨_, cz2⟩ fz2 h0 h1).mono ?_
 rintro e u' Y3 ⟨rfl, rfl, rfl⟩
 have hcell : ∀ rb : Bool, rb = r.1 → (if rb = true then (Y.setCell ⟨X.heap.size + 1, 0, none⟩ (.bool rb)) else (Y.setCell ⟨X.heap.size + 1, 0, none⟩ (.bool rb)).setCell ⟨g, k.toNat, none⟩ (.int .i64 0)).cell? ⟨X.heap.size + 1, 0, none⟩ = some (.bool rb) := by
  rintro rb rfl
  have hgn : X.heap.size + 1 ≠ g := by omega
  split
  ·exact (kC KS 0).trans rfl
  ·exact (kC (kR KS (p := ⟨g, k.toNat, none⟩) hgn _) 0).trans rfl
 have hc1 := hcell r.1 rfl
 have hfin : C.Post X r' (.returned (.bool r.1)) (if r.1 = true then (Y.setCell ⟨X.heap.size + 1, 0, none⟩ (.bool r.1)) else (Y.setCell ⟨X.heap.size + 1, 0, none⟩ (.bool r.1)).setCell ⟨g, k.toNat, none⟩ (.int .i64 0)) := by
  rw [HR'.out]
  unfold Cx.Post
  by_cases hb : r.1 = true
  ·rw [if_pos hb, if_pos hb]
   exact ⟨rfl, by rw [HU.out]; exact RS, hkeptS, hbel⟩
  ·rw [if_neg hb, if_neg hb]
   refine ⟨rfl, ?_, hkeptS.setCell (Or.inl HPG.out) _, hbel.setCell (p := ⟨g, k.toNat, none⟩) hBg _⟩
   rw [HU.out]
   have := (Kd.R_putn RS k 0)
   exact this
 refine ⟨.bool r.1, ?_, hfin⟩
 simp [results, Try.f118, go_sem, hc1]
set_option maxRecDepth 100000 in
set_option maxHeartbeats 8000000 in
theorem on_calls (C : Cx) (hC : C.Ok) (hok : ∀ t ∈ C.T, 0 ≤ t ∧ t < (C.L.length : Int) ∧ (rd_T37 C.L t).f0 ≠ (rd_T37 C.L t).f1) : ∀ (fuel : Nat) (way : List Int) (at_ last : Int) (r : Bool × List Int) (X : World), (∀ t ∈ C.T, t < (way.length : Int)) → onF C.L C.T C.tgt fuel way at_ last = some r → C.St way X →
  Calls Try.prog 120 #[.int .i64 at_, .int .i64 last, .pointer (some ⟨C.H + 2, 0, none⟩), .pointer (some ⟨C.H + 1, 0, none⟩), .pointer (some ⟨C.H, 0, none⟩), .pointer (some ⟨C.H + 5, 0, none⟩)] X (C.Post X r) := by
 intro fuel
 induction fuel with
 | zero => intro way at_ last r X _ h _; simp [onF] at h
 | succ fuel ih =>
  intro way at_ last r X hw h hst
  rw [onF] at h
  have hsz := hst.size
  have hTl : C.T.length ≤ 9223372036854775807 := (hC.hT X hst.kp).2.1
  have c2 : X.cell? ⟨C.H + 2, 0, none⟩ = some (.int .i64 C.tgt) := (kC hst.k2 0).trans rfl
  have c1 : X.cell? ⟨C.H + 1, 0, none⟩ = some (.slice C.At C.T.length C.cT) := (kC hst.k1 0).trans rfl
  by_cases ht : at_ = C.tgt
  ·rw [if_pos ht] at h
   obtain rfl := Option.some.inj h
   have q1 : (at_ == C.tgt) = true := by rw [beq_iff_eq]; exact ht
   have HST := Lib.hid hst
   clear h hst ih hw ht
   go_enter Try.func120, Try.ntmps120
   go_wp2_with fail
   go_ret
   exact ⟨rfl, HST.out.r, Kept.refl _ _, HST.out.bl⟩
  ·rw [if_neg ht] at h
   have q1 : (at_ == C.tgt) = false := by rw [beq_eq_false_iff_ne]; exact ht
   have HST := Lib.hid hst
   have HH := Lib.hid h
   have IH := Lib.hid ih
   have HW := Lib.hid hw
   have HOK := Lib.hid hok
   clear h hst ih hw ht
   go_enter Try.func120, Try.ntmps120
   go_wp2_with fail
   go_loopg [17] C.T.length (fun kq v17 wr => ∃ i : Nat, i ≤ C.T.length ∧ v17 = .int .i64 (i : Int) ∧ Hid (kq = C.T.length - i ∧ ∃ way', goF (onF C.L C.T C.tgt fuel) C.L at_ last (C.T.drop i) way' = some r ∧ C.St way' wr ∧ Kept X wr C.P ∧ way'.length = way.length))
   case atStart => exact ⟨0, Nat.zero_le _, rfl, by simp, way, HH.out, HST.out, Kept.refl _ _, rfl⟩
   case round =>
    obtain ⟨i, hi, rfl, HI⟩ := hrel
    obtain ⟨way', hgo, hst, hkp, hwl⟩ := HI.out.2
    by_cases hlt : i < C.T.length
    ·have q2 : decide ((i : Int) < (C.T.length : Int)) = true := decide_eq_true (by omega)
     obtain ⟨k, hk⟩ : ∃ k, k = C.T[i] := ⟨_, rfl⟩
     have hkm : k ∈ C.T := by rw [hk]; exact List.getElem_mem hlt
     obtain ⟨hk0, hkL, hne⟩ := HOK.out k hkm
     have hkw := HW.out k hkm
     rw [List.drop_eq_getElem_cons hlt, ← hk, goF] at hgo
     have hsz2 := hst.size
     obtain ⟨ad, hAd, hx⟩ := Kd.at_int (hC.hT wr hst.kp) (i : Int) (by omega) (by omega)
     rw [rd_nat _ i hlt, ← hk, Int.toNat_natCast] at hx
     obtain ⟨adN, hAn, e0, e1, e2, e3⟩ := at_T37 (hC.hL wr hst.kp) k hk0 hkL
     have d0 : wr.cell? ⟨C.H, 1, none⟩ = some (.slice C.An C.L.length C.cn) := (kC hst.k0 1).trans rfl
     have d5 : wr.cell? ⟨C.H + 5, 0, none⟩ = some (.func (.func 118) #[] #[.pointer (some ⟨C.H + 3, 0, none⟩), .pointer (some ⟨C.H + 4, 0, none⟩)]) := (kC hst.k5 0).trans rfl
     have l5 : C.H + 5 < wr.heap.size := by omega
     have p1 : (0 ≤ k) = True := eq_true hk0
     have p2 : (k < (C.L.length : Int)) = True := eq_true hkL
     have p3 : decide (0 ≤ k) = true := decide_eq_true hk0
     have p4 : decide (k < (C.L.length : Int)) = true := decide_eq_true hkL
     rw [hAn] at d0
     rw [hAd]
     have HAD := Lib.hid hAd
     clear hAd
     obtain ⟨f0, hf0⟩ : ∃ f0, f0 = (rd_T37 C.L k).f0 := ⟨_, rfl⟩
     obtain ⟨f1, hf1⟩ : ∃ f1, f1 = (rd_T37 C.L k).f1 := ⟨_, rfl⟩
     obtain ⟨f2, hf2⟩ : ∃ f2, f2 = (rd_T37 C.L k).f2 := ⟨_, rfl⟩
     obtain ⟨f3, hf3⟩ : ∃ f3, f3 = (rd_T37 C.L k).f3 := ⟨_, rfl⟩
     rw [← hf0] at e0 hgo hne
     rw [← hf1] at e1 hgo hne
     rw [← hf2] at e2
     rw [← hf3] at e3
     by_cases hkl : k = last
     ·rw [if_pos hkl] at hgo
      have t1 : (k == last) = true := by rw [beq_iff_eq]; exact hkl
      have HGO := Lib.hid hgo
      have HST2 := Lib.hid hst
      have HKP := Lib.hid hkp
      have HWL := Lib.hid hwl
      clear hgo hst hkp hwl hkl hf0 hf1 hf2 hf3 hkm hkw hk hne
      go_wp2_with fail
      rw [← HAD.out]
      go_roundg (C.T.length - (i + 1))
      case measure => have := HI.out.1; omega
      case rel => exact ⟨i + 1, by omega, by go_num, rfl, way', HGO.out, HST2.out.alloc hC _, HKP.out.alloc _, HWL.out⟩
     ·rw [if_neg hkl] at hgo
      have t1 : (k == last) = false := by rw [beq_eq_false_iff_ne]; exact hkl
      have HST2 := Lib.hid (hst.alloc hC (.cells #[.int .i64 f0, .int .i64 f1, .int .i64 f2, .int .i64 f3] 37))
      have HKP := Lib.hid (hkp.alloc (.cells #[.int .i64 f0, .int .i64 f1, .int .i64 f2, .int .i64 f3] 37))
      have HWL := Lib.hid hwl
      have HK0 := Lib.hid hk0
      have HKW := Lib.hid hkw
      have HNE := Lib.hid hne
      have hnb : ¬ C.P wr.heap.size := fun hp => by have := hC.hP _ hp; omega
      have HNB := Lib.hid hnb
      have K37 := Lib.hid (blk_new wr (.cells #[.int .i64 f0, .int .i64 f1, .int .i64 f2, .int .i64 f3] 37))
      by_cases h0 : f0 = at_
      ·rw [if_pos h0] at hgo
       have t2 : (f0 == at_) = true := by rw [beq_iff_eq]; exact h0
       have t3 : (f1 == at_) = false := by rw [beq_eq_false_iff_ne]; intro e; exact hne (h0.trans e.symm)
       have hn1 : ¬ f1 = at_ := fun e => hne (h0.trans e.symm)
       obtain ⟨q, hq, hgo⟩ := Option.bind_eq_some_iff.1 hgo
       unfold stepF at hq
       obtain ⟨q', hq', hq⟩ := Option.bind_eq_some_iff.1 hq
       obtain rfl := Option.some.inj hq
       have HQ := Lib.hid hq'
       have HQL := Lib.hid ((onF_len _ _ _ _ _ _ _ _ hq').trans (by rw [List.length_set]) : q'.2.length = way'.length)
       clear hq hq' hst hkp hwl hkl hf0 hf1 hf2 hf3 hkm hkw hk hne hnb h0
       by_cases hb : q'.1 = true
       ·rw [if_pos hb] at hgo
        obtain rfl := Option.some.inj hgo
        have t4 := hb
        clear hgo
        go_wp2_with (go_at_call 118; refine (try_calls C hC way' k at_ f1 1 q' _ HST2.out HK0.out (by have := HWL.out; have := HKW.out; omega) HQL.out (true, q'.2) (by rw [t4, if_pos rfl]) (fun Y hY => IH.out _ _ _ _ _ (by intro t ht; rw [List.length_set]; have := HW.out t ht; have := HWL.out; omega) HQ.out hY)).mono ?_; rintro e Y ⟨rfl, r2, kp2, bl2⟩; have R2 := Lib.hid r2; have KP2 := Lib.hid kp2; have BL2 := Lib.hid bl2; clear r2 kp2 bl2)
        go_ret
        exact ⟨rfl, R2.out, HKP.out.then_ KP2.out (fun _ h => Or.inl h), BL2.out⟩
       ·rw [if_neg hb, if_neg hn1] at hgo
        have t4 : q'.1 = false := Bool.eq_false_iff.2 hb
        have HGO : RowKit.Hid (goF (onF C.L C.T C.tgt fuel) C.L at_ last (List.drop (i + 1) C.T) (q'.2.set k.toNat 0) = some r) := Lib.hid (by rw [t4] at hgo; exact hgo)
        clear hgo hb hn1
        go_wp2_with (go_at_call 118; refine (try_calls C hC way' k at_ f1 1 q' _ HST2.out HK0.out (by have := HWL.out; have := HKW.out; omega) HQL.out (false, q'.2.set k.toNat 0) (by rw [t4]; rfl) (fun Y hY => IH.out _ _ _ _ _ (by intro t ht; rw [List.length_set]; have := HW.out t ht; have := HWL.out; omega) HQ.out hY)).mono ?_; rintro e Y ⟨rfl, r2, kp2, bl2⟩; have R2 := Lib.hid r2; have KP2 := Lib.hid kp2; have BL2 := Lib.hid bl2; have K38 := Lib.hid (blk_kept K37.out kp2 HNB.out); have m1 : Y.cell? ⟨wr.heap.size, 1, none⟩ = some (.int .i64 f1) := (kC K38.out 1).trans rfl; clear r2 kp2 bl2)
        rw [← HAD.out]
        go_roundg (C.T.length - (i + 1))
        case measure => have := HI.out.1; omega
        case rel => exact ⟨i + 1, by omega, by go_num, rfl, _, HGO.out, HST2.out.kept hC KP2.out R2.out BL2.out, HKP.out.then_ KP2.out (fun _ h => Or.inl h), by rw [List.length_set]; exact HQL.out.trans HWL.out⟩
      ·rw [if_neg h0] at hgo
       have t2 : (f0 == at_) = false := by rw [beq_eq_false_iff_ne]; exact h0
       by_cases h1 : f1 = at_
       ·rw [if_pos h1] at hgo
        have t3 : (f1 == at_) = true := by rw [beq_iff_eq]; exact h1
        obtain ⟨q, hq, hgo⟩ := Option.bind_eq_some_iff.1 hgo
        unfold stepF at hq
        obtain ⟨q', hq', hq⟩ := Option.bind_eq_some_iff.1 hq
        obtain rfl := Option.some.inj hq
        have HQ := Lib.hid hq'
        have HQL := Lib.hid ((onF_len _ _ _ _ _ _ _ _ hq').trans (by rw [List.length_set]) : q'.2.length = way'.length)
        clear hq hq' hst hkp hwl hkl hf0 hf1 hf2 hf3 hkm hkw hk hne hnb h0 h1
        by_cases hb : q'.1 = true
        ·rw [if_pos hb] at hgo
         obtain rfl := Option.some.inj hgo
         have t4 := hb
         clear hgo
         go_wp2_with (go_at_call 118; refine (try_calls C hC way' k at_ f0 (-1) q' _ HST2.out HK0.out (by have := HWL.out; have := HKW.out; omega) HQL.out (true, q'.2) (by rw [t4, if_pos rfl]) (fun Y hY => IH.out _ _ _ _ _ (by intro t ht; rw [List.length_set]; have := HW.out t ht; have := HWL.out; omega) HQ.out hY)).mono ?_; rintro e Y ⟨rfl, r2, kp2, bl2⟩; have R2 := Lib.hid r2; have KP2 := Lib.hid kp2; have BL2 := Lib.hid bl2; clear r2 kp2 bl2)
         go_ret
         exact ⟨rfl, R2.out, HKP.out.then_ KP2.out (fun _ h => Or.inl h), BL2.out⟩
        ·rw [if_neg hb] at hgo
         have t4 : q'.1 = false := Bool.eq_false_iff.2 hb
         have HGO : RowKit.Hid (goF (onF C.L C.T C.tgt fuel) C.L at_ last (List.drop (i + 1) C.T) (q'.2.set k.toNat 0) = some r) := Lib.hid (by rw [t4] at hgo; exact hgo)
         clear hgo hb
         go_wp2_with (go_at_call 118; refine (try_calls C hC way' k at_ f0 (-1) q' _ HST2.out HK0.out (by have := HWL.out; have := HKW.out; omega) HQL.out (false, q'.2.set k.toNat 0) (by rw [t4]; rfl) (fun Y hY => IH.out _ _ _ _ _ (by intro t ht; rw [List.length_set]; have := HW.out t ht; have := HWL.out; omega) HQ.out hY)).mono ?_; rintro e Y ⟨rfl, r2, kp2, bl2⟩; have R2 := Lib.hid r2; have KP2 := Lib.hid kp2; have BL2 := Lib.hid bl2; clear r2 kp2 bl2)
         rw [← HAD.out]
         go_roundg (C.T.length - (i + 1))
         case measure => have := HI.out.1; omega
         case rel => exact ⟨i + 1, by omega, by go_num, rfl, _, HGO.out, HST2.out.kept hC KP2.out R2.out BL2.out, HKP.out.then_ KP2.out (fun _ h => Or.inl h), by rw [List.length_set]; exact HQL.out.trans HWL.out⟩
       ·rw [if_neg h1] at hgo
        have t3 : (f1 == at_) = false := by rw [beq_eq_false_iff_ne]; exact h1
        have HGO := Lib.hid hgo
        clear hgo hst hkp hwl hkl hf0 hf1 hf2 hf3 hkm hkw hk hne hnb h0 h1
        go_wp2_with fail
        rw [← HAD.out]
        go_roundg (C.T.length - (i + 1))
        case measure => have := HI.out.1; omega
        case rel => exact ⟨i + 1, by omega, by go_num, rfl, way', HGO.out, HST2.out, HKP.out, HWL.out⟩
    ·have hiT : i = C.T.length := by omega
     subst hiT
     rw [List.drop_eq_nil_of_le (Nat.le_refl _), goF] at hgo
     obtain rfl := Option.some.inj hgo
     have q2 : decide ((C.T.length : Int) < (C.T.length : Int)) = false := decide_eq_false (by omega)
     have HST2 := Lib.hid hst
     have HKP := Lib.hid hkp
     clear hgo hst hkp hwl
     go_wp2_with fail
     go_ret
     exact ⟨rfl, HST2.out.r, HKP.out, HST2.out.bl⟩
theorem blk_six (w : World) (o0 o1 o2 o3 o4 o5 : Obj) : let W := (((((w.alloc o0).alloc o1).alloc o2).alloc o3).alloc o4).alloc o5
  W.heap[w.heap.size]? = some o0 ∧ W.heap[w.heap.size + 1]? = some o1 ∧ W.heap[w.heap.size + 2]? = some o2 ∧ W.heap[w.heap.size + 3]? = some o3 ∧ W.heap[w.heap.size + 4]? = some o4 ∧ W.heap[w.heap.size + 5]? = some o5 := by
 intro W
 have s1 : (w.alloc o0).heap.size = w.heap.size + 1 := by simp
 have s2 : ((w.alloc o0).alloc o1).heap.size = w.heap.size + 2 := by simp
 have s3 : (((w.alloc o0).alloc o1).alloc o2).heap.size = w.heap.size + 3 := by simp
 have s4 : ((((w.alloc o0).alloc o1).alloc o2).alloc o3).heap.size = w.heap.size + 4 := by simp
 have s5 : (((((w.alloc o0).alloc o1).alloc o2).alloc o3).alloc o4).heap.size = w.heap.size + 5 := by simp
 have b0 := blk_new w o0
 have b1 := blk_new (w.alloc o0) o1
 have b2 := blk_new ((w.alloc o0).alloc o1) o2
 have b3 := blk_new (((w.alloc o0).alloc o1).alloc o2) o3
 have b4 := blk_new ((((w.alloc o0).alloc o1).alloc o2).alloc o3) o4
 have b5 := blk_new (((((w.alloc o0).alloc o1).alloc o2).alloc o3).alloc o4) o5
 rw [s1] at b1
 rw [s2] at b2
 rw [s3] at b3
 rw [s4] at b4
 rw [s5] at b5
 exact ⟨kA (kA (kA (kA (kA b0 _) _) _) _) _, kA (kA (kA (kA b1 _) _) _) _, kA (kA (kA b2 _) _) _, kA (kA b3 _) _, kA b4 _, b5⟩
set_option maxRecDepth 100000 in
set_option maxHeartbeats 8000000 in
theorem twalk.calls (k : Nat) (a0_0 : Int) (A0_1 : Option Addr) (c0_1 : Nat) (l0_1 : List (S37)) (A1 : Option Addr) (c1 : Nat) (l1 : List Int) (a2 : Int) (a3 : Int) (P4_ : Nat → Prop) (u9000_ : Value) (l4 : List Int) (r1 : Bool) (r2 : List Int) (w0 w : World) (hB : Below w0.heap.size w0 w) (hr0_1 : ∀ W_, Kept w W_ (fun k_ => P4_ k_) → Kd.C k37 W_ A0_1 l0_1.length l0_1) (hc0_1 : l0_1.length ≤ c0_1) (hr1 : ∀ W_, Kept w W_ (fun k_ => P4_ k_) → Kd.C (Kd.int .i64) W_ A1 l1.length l1) (hc1 : l1.length ≤ c1) (ho4 : Kd.R (Kd.int .i64) 3 w w0.heap.size P4_ u9000_ l4) (h : twalk.f k a0_0 l0_1 l1 a2 a3 l4 = some (r1, r2)) :
  Calls Try.prog 103 #[.agg #[.int .i64 a0_0, .slice A0_1 l0_1.length c0_1], .slice A1 l1.length c1, .int .i64 a2, .int .i64 a3, u9000_] w fun e w' => e = .returned (.bool r1) ∧ Kd.R (Kd.int .i64) 3 w' w0.heap.size (fun k_ => (P4_ k_ ∨ w.heap.size ≤ k_)) u9000_ r2 ∧ Below w0.heap.size w0 w' ∧ Kept w w' (fun k_ => P4_ k_) := by
 unfold twalk.f at h
 split at h
 ·rename_i hg
  have hmf : ∀ (fn : Fn) (first cap : Array Value) (w : World), (Instr.makeFunc fn first cap).run Try.prog w = .ok (.func fn first cap) w := fun _ _ _ _ => rfl
  obtain ⟨A4, c4, rfl⟩ := Kd.R_slice ho4
  obtain ⟨C, hCe⟩ : ∃ C : Cx, C = ⟨a0_0, A0_1, c0_1, l0_1, A1, c1, l1, a3, w.heap.size, w0.heap.size, fun k_ => P4_ k_ ∧ k_ < w.heap.size, .slice A4 l4.length c4, w0, w⟩ := ⟨_, rfl⟩
  have hsub : ∀ {W_ : World}, Kept w W_ (fun k_ => P4_ k_ ∧ k_ < w.heap.size) → Kept w W_ (fun k_ => P4_ k_) := fun hk => hk.mono fun _ h => h.1
  have hC : C.Ok := by rw [hCe]; exact ⟨rfl, rfl, fun k hk => hk.2, fun W hk => hr0_1 W (hsub hk), fun W hk => hr1 W (hsub hk)⟩
  have hr4 : Kd.R (Kd.int .i64) 3 w w0.heap.size (fun k_ => P4_ k_ ∧ k_ < w.heap.size) (.slice A4 l4.length c4) l4 := Kd.R_mono (Kd.R_bound ho4) (fun _ hk => ⟨hk.1, hk.2.2.1⟩)
  have st0 : ∀ o0 o1 o2 o3 o4 o5 : Obj, o0 = .cells #[.int .i64 a0_0, .slice A0_1 l0_1.length c0_1] 24 (0, 0) → o1 = .cells #[.slice A1 l1.length c1] 25 (0, 0) → o2 = .cells #[.int .i64 a3] 3 (0, 0) → o3 = .cells #[.slice A4 l4.length c4] 25 (0, 0) →
    o4 = .cells #[.func (.func 120) #[] #[.pointer (some ⟨w.heap.size + 2, 0, none⟩), .pointer (some ⟨w.heap.size + 1, 0, none⟩), .pointer (some ⟨w.heap.size, 0, none⟩), .pointer (some ⟨w.heap.size + 5, 0, none⟩)]] 115 (0, 0) →
    o5 = .cells #[.func (.func 118) #[] #[.pointer (some ⟨w.heap.size + 3, 0, none⟩), .pointer (some ⟨w.heap.size + 4, 0, none⟩)]] 116 (0, 0) → C.St l4 ((((((w.alloc o0).alloc o1).alloc o2).alloc o3).alloc o4).alloc o5) := by
   rintro o0 o1 o2 o3 o4 o5 rfl rfl rfl rfl rfl rfl
   obtain ⟨b0, b1, b2, b3, b4, b5⟩ := blk_six w (.cells #[.int .i64 a0_0, .slice A0_1 l0_1.length c0_1] 24 (0, 0)) (.cells #[.slice A1 l1.length c1] 25 (0, 0)) (.cells #[.int .i64 a3] 3 (0, 0)) (.cells #[.slice A4 l4.length c4] 25 (0, 0)) (.cells #[.func (.func 120) #[] #[.pointer (some ⟨w.heap.size + 2, 0, none⟩), .pointer (some ⟨w.heap.size + 1, 0, none⟩), .pointer (some ⟨w.heap.size, 0, none⟩), .pointer (some ⟨w.heap.size + 5, 0, none⟩)]] 115 (0, 0)) (.cells #[.func (.func 118) #[] #[.pointer (some ⟨w.heap.size + 3, 0, none⟩), .pointer (some ⟨w.heap.size + 4, 0, none⟩)]] 116 (0, 0))
   have hs := hB.size
   rw [hCe]
   exact ⟨b0, b1, b2, b3, b4, b5, Kd.R_alloc (Kd.R_alloc (Kd.R_alloc (Kd.R_alloc (Kd.R_alloc (Kd.R_alloc hr4 _) _) _) _) _) _, (((((Kept.refl _ _).alloc _).alloc _).alloc _).alloc _).alloc _ |>.alloc _, (((((hB.alloc hs _).alloc (by simp; omega) _).alloc (by simp; omega) _).alloc (by simp; omega) _).alloc (by simp; omega) _).alloc (by simp; omega) _⟩
  have hon : ∀ X, C.St l4 X → Calls Try.prog 120 #[.int .i64 a2, .int .i64 (-1), .pointer (some ⟨w.heap.size + 2, 0, none⟩), .pointer (some ⟨w.heap.size + 1, 0, none⟩), .pointer (some ⟨w.heap.size, 0, none⟩), .pointer (some ⟨w.heap.size + 5, 0, none⟩)] X (C.Post X (r1, r2)) := by
   intro X hX
   have := on_calls C hC (by rw [hCe]; exact fun t ht => ⟨(hg t ht).1, (hg t ht).2.1, (hg t ht).2.2.2⟩) k l4 a2 (-1) (r1, r2) X (by rw [hCe]; exact fun t ht => (hg t ht).2.2.1) (by rw [hCe]; exact h) hX
   rw [hCe] at this ⊢
   exact this
  have hpost : ∀ X e Y, C.Post X (r1, r2) e Y → e = .returned (.bool r1) ∧ Kd.R (Kd.int .i64) 3 Y w0.heap.size (fun k_ => P4_ k_ ∧ k_ < w.heap.size) (.slice A4 l4.length c4) r2 ∧ Kept X Y (fun k_ => P4_ k_ ∧ k_ < w.heap.size) ∧ Below w0.heap.size w0 Y := by
   intro X e Y hP
   rw [hCe] at hP
   exact hP
  have HS := Lib.hid st0
  have HON := Lib.hid hon
  have HP := Lib.hid hpost
  clear hg h ho4 hr0_1 hr1 hB hC hCe hsub hr4 st0 hon hpost
  go_enter Try.func103, Try.ntmps103
  go_wp2_with (go_at_call 120; go_loud (refine (HON.out _ ?st).mono ?_; (case st => exact HS.out _ _ _ _ _ _ rfl rfl rfl rfl rfl rfl); intro e Y hp; obtain ⟨rfl, hr, hk, hb⟩ := HP.out _ _ _ hp; have R2 := Lib.hid hr; have K2 := Lib.hid hk; have B2 := Lib.hid hb; clear hp hr hk hb))
  go_ret
  refine ⟨rfl, Kd.R_mono R2.out (fun _ hk => Or.inl hk.1), B2.out, Kept.then_ ((((((Kept.refl w _).alloc _).alloc _).alloc _).alloc _).alloc _ |>.alloc _) K2.out (fun _ hk => Or.inl hk.1)⟩
 ·cases h
def tCycles.l0 : Nat → List (List Int) → Int → List Int → List Int → Int → Int → Int → List (S37) → Option ((List (List Int)) × Int)
 | 0, _, _, _, _, _, _, _, _ => none
 | k + 1, x4, x5, x7, x24, x25, x26, x600000, x600001 => if x26 < x25 then (if 0 ≤ x26 then (if x26 < (x24.length : Int) then ((sContains.f k x7 (rd x24 x26)).bind fun t609 => (if t609 = true then (tCycles.l0 k x4 x5 x7 x24 x25 (wrap64 (x26 + 1)) x600000 x600001) else (if 0 ≤ (x600001.length : Int) then (if ((x600001.length : Int) : Int).toNat ≤ 35184372088832 then ((some (List.replicate ((x600001.length : Int) : Int).toNat 0 : List Int)).bind fun y610 => (if 0 ≤ (rd x24 x26) then (if (rd x24 x26) < (x600001.length : Int) then ((twalk.f k x600000 x600001 x7 ((rd_T37 x600001 (rd x24 x26)).f1) ((rd_T37 x600001 (rd x24 x26)).f0) y610).bind fun bt615 => (if (rd x24 x26) < (y610.length : Int) then (if x4.length < 5864062014805 then (tCycles.l0 k (x4 ++ [(bt615.2.set ((rd x24 x26) : Int).toNat 1)]) x5 x7 x24 x25 (wrap64 (x26 + 1)) x600000 x600001) else (none)) else (none))) else (none)) else (none))) else (none)) else (none)))) else (none)) else (none)) else (some (x4, x5))
def tCycles.f (k : Nat) (a0_0 : Int) (l0_1 : List (S37)) (l1 : List Int) : Option ((List (List Int)) × Int) := (nIn.f a0_0 l0_1 l1).bind fun bt600 => ((tTree.f k a0_0 l0_1 l1).bind fun bt604 => (tCycles.l0 k ([] : List (List Int)) bt600.2 bt604.1 bt600.1 (bt600.1.length : Int) 0 a0_0 l0_1))
def tCycles.T8 : Bool × List (List Nat × List Nat) := (true, [([], []), ([], []), ([], []), ([2], [2]), ([], []), ([3, 4], [3, 4]), ([5], [5]), ([6], [6]), ([], []), ([8], [8]), ([], []), ([9, 10], [9, 10]), ([11], [11]), ([12], [12]), ([], []), ([0, 1, 7, 13, 14], [0, 1, 7, 13, 14])])
def tCycles.B8 : List Nat := [0, 0, 0, 4, 0, 28, 60, 124, 0, 256, 0, 1792, 3840, 7936, 0, 32767]
theorem tCycles.tab8 : rtab .any (opsOf Try.f57 8) = tCycles.T8 := by kernel_rfl
theorem tCycles.bits8 : waitsOk tCycles.T8.2 tCycles.B8 = true := by kernel_rfl
set_option maxHeartbeats 8000000 in
set_option maxRecDepth 100000 in
theorem tCycles.calls (k : Nat) (a0_0 : Int) (A0_1 : Option Addr) (c0_1 : Nat) (l0_1 : List (S37)) (A1 : Option Addr) (c1 : Nat) (l1 : List Int) (r1 : List (List Int)) (r2 : Int) (w : World) (hr0_1 : Kd.C k37 w A0_1 l0_1.length l0_1) (hc0_1 : l0_1.length ≤ c0_1) (hr1 : Kd.C (Kd.int .i64) w A1 l1.length l1) (hc1 : l1.length ≤ c1) (h : tCycles.f k a0_0 l0_1 l1 = some (r1, r2)) :
  Calls Try.prog 57 #[.agg #[.int .i64 a0_0, .slice A0_1 l0_1.length c0_1], .slice A1 l1.length c1] w fun e w' => ∃ v0_ : Value, e = .returned (.tuple #[v0_, .int .i64 r2]) ∧ Kd.S (Kd.slice 3 (Kd.int .i64)) 25 w' w.heap.size (fun _ => True) v0_ r1 ∧ Below w.heap.size w w' := by
 have hu24 := Try.underlying24
 have HR0_1 := Z0.mk hr0_1
 have HC0_1 := Z0.mk hc0_1
 clear hr0_1 hc0_1
 have HR1 := Z0.mk hr1
 have HC1 := Z0.mk hc1
 clear hr1 hc1
 have HB := Z0.mk (Below.refl w.heap.size w)
 have H : ((nIn.f a0_0 l0_1 l1).bind fun bt600 => ((tTree.f k a0_0 l0_1 l1).bind fun bt604 => (tCycles.l0 k ([] : List (List Int)) bt600.2 bt604.1 bt600.1 (bt600.1.length : Int) 0 a0_0 l0_1))) = some (r1, r2) := h
 clear h
 replace H := Option.bind_eq_some_iff.mp H
 obtain ⟨⟨t600, t603⟩, A30, H⟩ := H
 replace H : ((tTree.f k a0_0 l0_1 l1).bind fun bt604 => (tCycles.l0 k ([] : List (List Int)) t603 bt604.1 t600 (t600.length : Int) 0 a0_0 l0_1)) = some (r1, r2) := H
 have A3 := Z0.mk A30
 clear A30
 replace H := Option.bind_eq_some_iff.mp H
 obtain ⟨⟨t604, t607⟩, A40, H⟩ := H
 replace H : (tCycles.l0 k ([] : List (List Int)) t603 t604 t600 (t600.length : Int) 0 a0_0 l0_1) = some (r1, r2) := H
 have A4 := Z0.mk A40
 clear A40
 have H' := Z0.mk H
 clear H
 go_enter Try.func57, Try.ntmps57
 go_wp2_with (first | ((with_reducible refine gate_dst (N := 2) rfl ?_); refine bE ?hg (N := 2) ?hd (cs := #[.int .i64 a0_0, .slice A0_1 l0_1.length c0_1]) (t := 24) ?hr ?_; (case hd => rfl); (case hg => rfl); (case hr => first | (go_simp; done) | (go_simp; rfl)); intro gb599 hg w5 hbox hb; have n0_ := Z0.mk (bT (by repeat (first | (with_reducible first | exact HB.out | apply below_alloc | apply bN | apply bD) | exact HB.out)) hb); have n1_ := Z0.mk (hbox); have n2_ := Z0.mk ((by rw [hg]; exact (bZ (by repeat (first | (with_reducible first | exact HB.out | apply below_alloc | apply bN | apply bD) | exact HB.out))) : w.heap.size ≤ gb599)); have n3_ := Z0.mk ((by rw [hg]; exact (bZ (by repeat (first | (with_reducible first | exact HB.out | apply below_alloc | apply bN | apply bD) | exact HB.out))) : w.heap.size ≤ gb599)); clear HB; have HB := n0_; have BK599 := n1_; have GW599 := n2_; have GE599 := n3_; clear n0_ n1_ n2_ n3_; clear hb hbox hg; have hcz6_0 : w5.cell? ⟨gb599, 0, none⟩ = some (.int .i64 a0_0) := (kC BK599.out 0).trans rfl; have hcz6_1 : w5.cell? ⟨gb599, 1, none⟩ = some (.slice A0_1 l0_1.length c0_1) := (kC BK599.out 1).trans rfl; have hfz6_0 := kF BK599.out 0; have hfz6_1 := kF BK599.out 1) | ((with_reducible refine gC (f := 59) rfl ?_); refine gL (some 15) rfl rfl Try.func59 (by kernel_rfl) rfl #[.agg #[.int .i64 a0_0, .slice A0_1 l0_1.length c0_1], .slice A1 l1.length c1] rfl (by (try simp only [List.map_toArray, List.map_cons, List.map_nil]); first | done | rfl | (simp only [List.length_drop, List.length_take]; rfl)) ?_; (with_reducible refine (nIn.calls a0_0 _ _ l0_1 _ _ l1 t600 t603 _ ?side1 ?side2 ?side3 ?side4 A3.out).mono ?_); (case side1 => repeat (first | exact (Kd.C_below HR0_1.out HB.out) | (with_reducible refine Kd.C_alloc ?_ _) | (with_reducible refine Kd.C_drewN ?_ _) | (with_reducible refine Kd.C_drew ?_))); (case side2 => exact HC0_1.out); (case side3 => repeat (first | exact (Kd.C_below HR1.out HB.out) | (with_reducible refine Kd.C_alloc ?_ _) | (with_reducible refine Kd.C_drewN ?_ _) | (with_reducible refine Kd.C_drew ?_))); (case side4 => exact HC1.out); rintro e w7 ⟨v601, rfl, ho0, hb⟩; refine ⟨_, rfl, ?_⟩; have n0_ := Z0.mk (Kd.R_lower ho0 (bZ (by repeat (first | (with_reducible first | exact HB.out | apply below_alloc | apply bN | apply bD | refine bS ?_ GE599.out) | exact HB.out)))); have n1_ := Z0.mk (kB (g := gb599) (o := .cells #[.int .i64 a0_0, .slice A0_1 l0_1.length c0_1] 24 (0, 0)) (by (with_reducible repeat (first | refine kN ?_ _ | refine kD ?_ | refine kA ?_ _)); exact BK599.out) hb); have n2_ := Z0.mk (bT (by repeat (first | (with_reducible first | exact HB.out | apply below_alloc | apply bN | apply bD | refine bS ?_ GE599.out) | exact HB.out)) hb); clear BK599; clear HB; have HO602 := n0_; have BK599 := n1_; have HB := n2_; clear n0_ n1_ n2_; (try clear hb); (try clear hb2); (try clear hk); (try clear hi); (try clear ho0); have hcz8_0 : w7.cell? ⟨gb599, 0, none⟩ = some (.int .i64 a0_0) := (kC BK599.out 0).trans rfl; have hcz8_1 : w7.cell? ⟨gb599, 1, none⟩ = some (.slice A0_1 l0_1.length c0_1) := (kC BK599.out 1).trans rfl; have hfz8_0 := kF BK599.out 0; have hfz8_1 := kF BK599.out 1) | ((with_reducible refine gC (f := 56) rfl ?_); refine gL (some 21) rfl rfl Try.func56 (by kernel_rfl) rfl #[.agg #[.int .i64 a0_0, .slice A0_1 l0_1.length c0_1], .slice A1 l1.length c1] rfl (by (try simp only [List.map_toArray, List.map_cons, List.map_nil]); first | done | rfl | (simp only [List.length_drop, List.length_take]; rfl)) ?_; (with_reducible refine (tTree.calls k a0_0 _ _ l0_1 _ _ l1 t604 t607 _ ?side1 ?side2 ?side3 ?side4 A4.out).mono ?_); (case side1 => repeat (first | exact (Kd.C_below HR0_1.out HB.out) | (with_reducible refine Kd.C_alloc ?_ _) | (with_reducible refine Kd.C_drewN ?_ _) | (with_reducible refine Kd.C_drew ?_))); (case side2 => exact HC0_1.out); (case side3 => repeat (first | exact (Kd.C_below HR1.out HB.out) | (with_reducible refine Kd.C_alloc ?_ _) | (with_reducible refine Kd.C_drewN ?_ _) | (with_reducible refine Kd.C_drew ?_))); (case side4 => exact HC1.out); rintro e w9 ⟨v605, rfl, ho0, hb⟩; refine ⟨_, rfl, ?_⟩; have n0_ := Z0.mk (Kd.R_elder' (by (with_reducible repeat (first | apply Kd.R_alloc | apply Kd.R_drewN | apply Kd.R_drew)); exact HO602.out) (Kd.R_base ho0) hb); have n1_ := Z0.mk (Kd.R_lower (Kd.R_new' ho0 (Kd.R_lt (by (with_reducible repeat (first | apply Kd.R_alloc | apply Kd.R_drewN | apply Kd.R_drew)); exact HO602.out))) (bZ (by repeat (first | (with_reducible first | exact HB.out | apply below_alloc | apply bN | apply bD | refine bS ?_ GE599.out) | exact HB.out)))); have n2_ := Z0.mk (kB (g := gb599) (o := .cells #[.int .i64 a0_0, .slice A0_1 l0_1.length c0_1] 24 (0, 0)) (by (with_reducible repeat (first | refine kN ?_ _ | refine kD ?_ | refine kA ?_ _)); exact BK599.out) hb); have n3_ := Z0.mk (bT (by repeat (first | (with_reducible first | exact HB.out | apply below_alloc | apply bN | apply bD | refine bS ?_ GE599.out) | exact HB.out)) hb); clear HO602; clear BK599; clear HB; have HO602 := n0_; have HO606 := n1_; have BK599 := n2_; have HB := n3_; clear n0_ n1_ n2_ n3_; (try clear hb); (try clear hb2); (try clear hk); (try clear hi); (try clear ho0); obtain ⟨Ao10, co10, eo10⟩ := Kd.R_slice HO602.out; subst eo10))
 go_loopg [4, 26] k (fun kq v4 v26 w' => ∃ (x4_1 : List (List Int)) (x7_1 : List Int) (x24_1 : List Int) (x26_1 : Int), v26 = .int .i64 x26_1 ∧ Z0 (tCycles.l0 kq x4_1 t603 x7_1 x24_1 (t600.length : Int) x26_1 a0_0 l0_1 = some (r1, r2)) ∧ Z0 (kq ≤ k) ∧ Z0 (Kd.S (Kd.slice 3 (Kd.int .i64)) 25 w' w.heap.size (fun k_ => some k_ ≠ (v605 : Value).ownBlock ∧ some k_ ≠ ((.slice Ao10 t600.length co10) : Value).ownBlock) v4 x4_1) ∧ Z0 (Kd.R (Kd.int .i64) 3 w' w.heap.size (fun k_ => some k_ ≠ ((.slice Ao10 t600.length co10) : Value).ownBlock) v605 x7_1) ∧ Z0 (Kd.R (Kd.int .i64) 3 w' w.heap.size (fun k_ => some k_ ≠ (v605 : Value).ownBlock) (.slice Ao10 t600.length co10) x24_1) ∧ Z0 (w'.heap[gb599]? = some (.cells #[.int .i64 a0_0, (.slice A0_1 l0_1.length c0_1)] 24 (0, 0))) ∧ Z0 (Below w.heap.size w w'))
 case atStart => exact ⟨(([] : List (List Int))), (t604), (t600), (0), (by first | rfl | (simp; done) | (simp [*]; done)), H', ⟨Nat.le_refl _⟩, ⟨by first | exact Kd.S_nil _ _ _ _ _ | exact Kd.N_nil _ _ _ _ _ | exact Kd.V_nil _ _ _ _ _ | exact Kd.Q_nil _ _ _ _ _ | exact Kd.R_nil _ _ _ _ _⟩, ⟨by (with_reducible repeat (first | apply Kd.R_alloc | apply Kd.R_drewN | apply Kd.R_drew)); exact Kd.R_mono HO606.out (fun _ hk => hk.2)⟩, ⟨by (with_reducible repeat (first | apply Kd.R_alloc | apply Kd.R_drewN | apply Kd.R_drew)); exact Kd.R_mono HO602.out (fun _ hk => hk.2)⟩, ⟨by (with_reducible repeat (first | refine kN ?_ _ | refine kD ?_ | refine kA ?_ _)); exact BK599.out⟩, ⟨by repeat (first | (with_reducible first | exact HB.out | apply below_alloc | apply bN | apply bD | refine bS ?_ GE599.out) | exact HB.out)⟩⟩
 case round =>
  clear H'; (try clear c1); (try clear p2); (try clear c5); (try clear hcz6_0); (try clear hcz6_1); (try clear hcz8_0); (try clear hcz8_1); (try clear hfz6_0); (try clear hfz6_1); (try clear hfz8_0); (try clear hfz8_1)
  obtain ⟨x4_1, x7_1, x24_1, x26_1, rfl, HA, HK1, HO_4, HO_7, HO_24, BK599, HB⟩ := hrel
  have hl24_1 := (Kd.R_reads' HO_24.out).1
  rw [hl24_1] at HO_24
  (try simp only [hl24_1])
  (try simp only [hl24_1] at BK599)
  (try simp only [hl24_1] at HO_4)
  (try simp only [hl24_1] at HO_7)
  cases gk with
  | zero => exact absurd HA.out (by simp [tCycles.l0])
  | succ k1 =>
   have H := HA.out
   clear HA
   simp only [tCycles.l0] at H
   by_cases c11 : x26_1 < (t600.length : Int)
   ·rw [if_pos c11] at H
    have c11b0 : decide (x26_1 < (t600.length : Int)) = true := decide_eq_true c11
    clear c11
    by_cases c12 : 0 ≤ x26_1
    ·rw [if_pos c12] at H
     have c12b0 : decide (0 ≤ x26_1) = true := decide_eq_true c12
     clear c12
     by_cases c13 : x26_1 < (x24_1.length : Int)
     ·rw [if_pos c13] at H
      have c13b0 : decide (x26_1 < (x24_1.length : Int)) = true := decide_eq_true c13
      clear c13
      replace H := Option.bind_eq_some_iff.mp H
      obtain ⟨t609, A140, H⟩ := H
      replace H : (if t609 = true then (tCycles.l0 k1 x4_1 t603 x7_1 x24_1 (t600.length : Int) (wrap64 (x26_1 + 1)) a0_0 l0_1) else (if 0 ≤ (l0_1.length : Int) then (if ((l0_1.length : Int) : Int).toNat ≤ 35184372088832 then ((some (List.replicate ((l0_1.length : Int) : Int).toNat 0 : List Int)).bind fun y610 => (if 0 ≤ (rd x24_1 x26_1) then (if (rd x24_1 x26_1) < (l0_1.length : Int) then ((twalk.f k1 a0_0 l0_1 x7_1 ((rd_T37 l0_1 (rd x24_1 x26_1)).f1) ((rd_T37 l0_1 (rd x24_1 x26_1)).f0) y610).bind fun bt615 => (if (rd x24_1 x26_1) < (y610.length : Int) then (if x4_1.length < 5864062014805 then (tCycles.l0 k1 (x4_1 ++ [(bt615.2.set ((rd x24_1 x26_1) : Int).toNat 1)]) t603 x7_1 x24_1 (t600.length : Int) (wrap64 (x26_1 + 1)) a0_0 l0_1) else (none)) else (none))) else (none)) else (none))) else (none)) else (none))) = some (r1, r2) := H
      have A14 := Z0.mk A140
      clear A140
      by_cases c15 : t609 = true
      ·subst c15
       have H1 : (tCycles.l0 k1 x4_1 t603 x7_1 x24_1 (t600.length : Int) (wrap64 (x26_1 + 1)) a0_0 l0_1) = some (r1, r2) := by rw [if_pos rfl] at H; exact H
       clear H
       have H := H1
       clear H1
       have H' := Z0.mk H
       clear H
       have p608 : 0 ≤ (x26_1 : Int) := of_decide_eq_true (by first | (with_reducible assumption) | assumption)
       have q608 : x26_1 < (x24_1.length : Int) := of_decide_eq_true (by first | (with_reducible assumption) | assumption)
       obtain ⟨ad608, e608, hx608_0⟩ := Kd.at_int (Kd.R_reads' HO_24.out).2.2 x26_1 p608 q608
       cases e608
       replace p608 := eq_true p608
       replace q608 := eq_true q608
       obtain ⟨Ao16, co16, eo16⟩ := Kd.R_slice HO_7.out
       subst eo16
       go_wp2_with (first | ((with_reducible refine gC (f := 102) rfl ?_); refine gL (some 32) rfl rfl Try.func102 (by kernel_rfl) rfl #[.slice Ao16 x7_1.length co16, .int .i64 (rd x24_1 x26_1)] rfl (by (try simp only [List.map_toArray, List.map_cons, List.map_nil]); first | done | rfl | (simp only [List.length_drop, List.length_take]; rfl)) ?_; (with_reducible refine (sContains.calls k1 _ _ x7_1 (rd x24_1 x26_1) true _ ?side1 ?side2 A14.out).mono ?_); (case side1 => repeat (first | exact (Kd.R_reads' HO_7.out).2.2 | (with_reducible refine Kd.C_alloc ?_ _) | (with_reducible refine Kd.C_drewN ?_ _) | (with_reducible refine Kd.C_drew ?_))); (case side2 => exact (Kd.R_reads' HO_7.out).2.1); rintro e w' ⟨rfl, ⟨nd, rfl⟩⟩; refine ⟨_, rfl, ?_⟩))
       (try simp only [← hl24_1])
       go_roundg k1
       case measure => have := HK1.out; omega
       case rel => exact ⟨(x4_1), (x7_1), (x24_1), (wrap64 (x26_1 + 1)), (by first | rfl | (simp; done) | (simp [*]; done)), H', ⟨by have := HK1.out; omega⟩, ⟨by (try simp only [hl24_1]); (with_reducible repeat (first | apply Kd.S_alloc | apply Kd.S_drewN | apply Kd.S_drew)); exact HO_4.out⟩, ⟨by (try simp only [hl24_1]); (with_reducible repeat (first | apply Kd.R_alloc | apply Kd.R_drewN | apply Kd.R_drew)); exact HO_7.out⟩, ⟨by (try simp only [hl24_1]); (with_reducible repeat (first | apply Kd.R_alloc | apply Kd.R_drewN | apply Kd.R_drew)); exact HO_24.out⟩, ⟨by (try simp only [hl24_1]); (with_reducible repeat (first | refine kN ?_ _ | refine kD ?_ | refine kA ?_ _)); exact BK599.out⟩, ⟨by repeat (first | (with_reducible first | exact HB.out | apply below_alloc | apply bN | apply bD | refine bS ?_ GE599.out) | exact HB.out)⟩⟩
      ·replace c15 := Bool.eq_false_iff.mpr c15
       subst c15
       have H1 : (if 0 ≤ (l0_1.length : Int) then (if ((l0_1.length : Int) : Int).toNat ≤ 35184372088832 then ((some (List.replicate ((l0_1.length : Int) : Int).toNat 0 : List Int)).bind fun y610 => (if 0 ≤ (rd x24_1 x26_1) then (if (rd x24_1 x26_1) < (l0_1.length : Int) then ((twalk.f k1 a0_0 l0_1 x7_1 ((rd_T37 l0_1 (rd x24_1 x26_1)).f1) ((rd_T37 l0_1 (rd x24_1 x26_1)).f0) y610).bind fun bt615 => (if (rd x24_1 x26_1) < (y610.length : Int) then (if x4_1.length < 5864062014805 then (tCycles.l0 k1 (x4_1 ++ [(bt615.2.set ((rd x24_1 x26_1) : Int).toNat 1)]) t603 x7_1 x24_1 (t600.length : Int) (wrap64 (x26_1 + 1)) a0_0 l0_1) else (none)) else (none))) else (none)) else (none))) else (none)) else (none)) = some (r1, r2) := by rw [if_neg (show ¬ (false = true) by decide)] at H; exact H
       clear H
       have H := H1
       clear H1
       by_cases c17 : 0 ≤ (l0_1.length : Int)
       ·rw [if_pos c17] at H
        have c17b0 := eq_true c17
        have c17b1 : decide (0 ≤ (l0_1.length : Int)) = true := decide_eq_true c17
        clear c17
        by_cases c18 : ((l0_1.length : Int) : Int).toNat ≤ 35184372088832
        ·rw [if_pos c18] at H
         have c18b0 := eq_true c18
         have c18b1 : decide (((l0_1.length : Int) : Int).toNat ≤ 35184372088832) = true := decide_eq_true c18
         clear c18
         obtain ⟨y610, hy610⟩ : ∃ y_ : List Int, y_ = (List.replicate ((l0_1.length : Int) : Int).toNat 0) := ⟨_, rfl⟩
         replace H : (if 0 ≤ (rd x24_1 x26_1) then (if (rd x24_1 x26_1) < (l0_1.length : Int) then ((twalk.f k1 a0_0 l0_1 x7_1 ((rd_T37 l0_1 (rd x24_1 x26_1)).f1) ((rd_T37 l0_1 (rd x24_1 x26_1)).f0) y610).bind fun bt615 => (if (rd x24_1 x26_1) < (y610.length : Int) then (if x4_1.length < 5864062014805 then (tCycles.l0 k1 (x4_1 ++ [(bt615.2.set ((rd x24_1 x26_1) : Int).toNat 1)]) t603 x7_1 x24_1 (t600.length : Int) (wrap64 (x26_1 + 1)) a0_0 l0_1) else (none)) else (none))) else (none)) else (none)) = some (r1, r2) := by first | (rw [hy610]; with_reducible exact H) | (have H2_ := (Option.bind_some _ _).symm.trans H; rw [hy610]; with_reducible exact H2_) | (have H2_ := (Option.bind_some _ _).symm.trans H; with_reducible exact H2_) | with_reducible exact H | (rw [hy610]; exact H) | exact H
         have Ny610 := Z0.mk hy610
         clear hy610
         by_cases c19 : 0 ≤ (rd x24_1 x26_1)
         ·rw [if_pos c19] at H
          have c19b0 : decide (0 ≤ (rd x24_1 x26_1)) = true := decide_eq_true c19
          clear c19
          by_cases c20 : (rd x24_1 x26_1) < (l0_1.length : Int)
          ·rw [if_pos c20] at H
           have c20b0 : decide ((rd x24_1 x26_1) < (l0_1.length : Int)) = true := decide_eq_true c20
           clear c20
           replace H := Option.bind_eq_some_iff.mp H
           obtain ⟨⟨t615, t616⟩, A210, H⟩ := H
           replace H : (if (rd x24_1 x26_1) < (y610.length : Int) then (if x4_1.length < 5864062014805 then (tCycles.l0 k1 (x4_1 ++ [(t616.set ((rd x24_1 x26_1) : Int).toNat 1)]) t603 x7_1 x24_1 (t600.length : Int) (wrap64 (x26_1 + 1)) a0_0 l0_1) else (none)) else (none)) = some (r1, r2) := H
           have A21 := Z0.mk A210
           clear A210
           by_cases c22 : (rd x24_1 x26_1) < (y610.length : Int)
           ·rw [if_pos c22] at H
            have c22b0 : decide ((rd x24_1 x26_1) < (y610.length : Int)) = true := decide_eq_true c22
            clear c22
            obtain ⟨y617, hy617⟩ : ∃ y_ : List Int, y_ = (t616.set ((rd x24_1 x26_1) : Int).toNat 1) := ⟨_, rfl⟩
            replace H : (if x4_1.length < 5864062014805 then (tCycles.l0 k1 (x4_1 ++ [y617]) t603 x7_1 x24_1 (t600.length : Int) (wrap64 (x26_1 + 1)) a0_0 l0_1) else (none)) = some (r1, r2) := by first | (rw [hy617]; with_reducible exact H) | (have H2_ := (Option.bind_some _ _).symm.trans H; rw [hy617]; with_reducible exact H2_) | (have H2_ := (Option.bind_some _ _).symm.trans H; with_reducible exact H2_) | with_reducible exact H | (rw [hy617]; exact H) | exact H
            have Ny617 := Z0.mk hy617
            clear hy617
            by_cases c24 : x4_1.length < 5864062014805
            ·rw [if_pos c24] at H
             have LMc24 := Z0.mk c24
             clear c24
             obtain ⟨y618, hy618⟩ : ∃ y_ : List (List Int), y_ = (x4_1 ++ [y617]) := ⟨_, rfl⟩
             replace H : (tCycles.l0 k1 y618 t603 x7_1 x24_1 (t600.length : Int) (wrap64 (x26_1 + 1)) a0_0 l0_1) = some (r1, r2) := by first | (rw [hy618]; with_reducible exact H) | (have H2_ := (Option.bind_some _ _).symm.trans H; rw [hy618]; with_reducible exact H2_) | (have H2_ := (Option.bind_some _ _).symm.trans H; with_reducible exact H2_) | with_reducible exact H | (rw [hy618]; exact H) | exact H
             have Ny618 := Z0.mk hy618
             clear hy618
             have H' := Z0.mk H
             clear H
             have p608 : 0 ≤ (x26_1 : Int) := of_decide_eq_true (by first | (with_reducible assumption) | assumption)
             have q608 : x26_1 < (x24_1.length : Int) := of_decide_eq_true (by first | (with_reducible assumption) | assumption)
             obtain ⟨ad608, e608, hx608_0⟩ := Kd.at_int (Kd.R_reads' HO_24.out).2.2 x26_1 p608 q608
             cases e608
             replace p608 := eq_true p608
             replace q608 := eq_true q608
             obtain ⟨Ao25, co25, eo25⟩ := Kd.R_slice HO_7.out
             subst eo25
             try go_wp2_with (first | ((with_reducible refine gC (f := 102) rfl ?_); refine gL (some 32) rfl rfl Try.func102 (by kernel_rfl) rfl #[.slice Ao25 x7_1.length co25, .int .i64 (rd x24_1 x26_1)] rfl (by (try simp only [List.map_toArray, List.map_cons, List.map_nil]); first | done | rfl | (simp only [List.length_drop, List.length_take]; rfl)) ?_; (with_reducible refine (sContains.calls k1 _ _ x7_1 (rd x24_1 x26_1) false _ ?side1 ?side2 A14.out).mono ?_); (case side1 => repeat (first | exact (Kd.R_reads' HO_7.out).2.2 | (with_reducible refine Kd.C_alloc ?_ _) | (with_reducible refine Kd.C_drewN ?_ _) | (with_reducible refine Kd.C_drew ?_))); (case side2 => exact (Kd.R_reads' HO_7.out).2.1); rintro e w' ⟨rfl, ⟨nd, rfl⟩⟩; refine ⟨_, rfl, ?_⟩; (try ((first | (generalize hq_ : World.drewN wr _ = wr) | (rw [drewN_self wr]; generalize hq_ : World.drewN wr _ = wr)); have n0_ : Z0 (Kd.R (Kd.int .i64) 3 wr w.heap.size (fun k_ => some k_ ≠ (.slice Ao25 x7_1.length co25 : Value).ownBlock) (.slice (some ad608) x24_1.length co10) x24_1) := ⟨by rw [← hq_]; exact (by (with_reducible repeat (first | apply Kd.R_alloc | apply Kd.R_drewN | apply Kd.R_drew)); exact HO_24.out)⟩; have n1_ : Z0 (Kd.S (Kd.slice 3 (Kd.int .i64)) 25 wr w.heap.size (fun k_ => some k_ ≠ (.slice (some ad608) x24_1.length co10 : Value).ownBlock ∧ some k_ ≠ (.slice Ao25 x7_1.length co25 : Value).ownBlock) u4 x4_1) := ⟨by rw [← hq_]; exact (by (with_reducible repeat (first | apply Kd.S_alloc | apply Kd.S_drewN | apply Kd.S_drew)); exact Kd.S_mono HO_4.out (fun _ hk => ⟨hk.2, hk.1⟩))⟩; have n2_ : Z0 (Kd.R (Kd.int .i64) 3 wr w.heap.size (fun k_ => some k_ ≠ (.slice (some ad608) x24_1.length co10 : Value).ownBlock) (.slice Ao25 x7_1.length co25) x7_1) := ⟨by rw [← hq_]; exact (by (with_reducible repeat (first | apply Kd.R_alloc | apply Kd.R_drewN | apply Kd.R_drew)); exact HO_7.out)⟩; have n3_ : Z0 (wr.heap[gb599]? = some (.cells #[.int .i64 a0_0, .slice A0_1 l0_1.length c0_1] 24 (0, 0))) := ⟨by rw [← hq_]; exact (by (with_reducible repeat (first | refine kN ?_ _ | refine kD ?_ | refine kA ?_ _)); exact BK599.out)⟩; have n4_ : Z0 (Below w.heap.size w wr) := ⟨by rw [← hq_]; exact (by repeat (first | (with_reducible first | exact HB.out | apply below_alloc | apply bN | apply bD | refine bS ?_ GE599.out) | exact HB.out))⟩; clear HO_24 HO_4 HO_7 BK599 HB hq_; have HO_24 := n0_; have HO_4 := n1_; have HO_7 := n2_; have BK599 := n3_; have HB := n4_; clear n0_ n1_ n2_ n3_ n4_)); have hcz26_0 : wr.cell? ⟨gb599, 0, none⟩ = some (.int .i64 a0_0) := (kC BK599.out 0).trans rfl; have hcz26_1 : wr.cell? ⟨gb599, 1, none⟩ = some (.slice A0_1 l0_1.length c0_1) := (kC BK599.out 1).trans rfl; have hfz26_0 := kF BK599.out 0; have hfz26_1 := kF BK599.out 1) | ((with_reducible refine gate_dst (N := 36) rfl ?_); refine Kd.R_make (Kd.int .i64) _ 3 rfl (N := 36) rfl 25 _ _ rfl (l0_1.length : Int) rfl rfl Try.underlying25 (.int .i64 0) 8 info3 rfl (by decide) (by omega) 0 (ok := fun _ => True) (okp := fun _ => True) rfl (fun _ hk => hk) trivial (of_decide_eq_true (by first | (with_reducible assumption) | assumption)) (Nat.le_trans (Nat.mul_le_mul_right _ (of_decide_eq_true (by first | (with_reducible assumption) | assumption) : (l0_1.length : Int).toNat ≤ 35184372088832)) (by omega)) (Below.refl _ _) (Nat.le_refl _) ?_; intro v611 w27 ho28 hb hg_ hnew_; clear hg_ hnew_; (first | rw [← Ny610.out] at ho28 | (simp only [Int.reduceToNat] at ho28; rw [← Ny610.out] at ho28)); have n0_ := Z0.mk (Kd.S_elder' (by (with_reducible repeat (first | apply Kd.S_alloc | apply Kd.S_drewN | apply Kd.S_drew)); exact HO_4.out) (Kd.R_base ho28) hb); have n1_ := Z0.mk (Kd.R_elder' (by (with_reducible repeat (first | apply Kd.R_alloc | apply Kd.R_drewN | apply Kd.R_drew)); exact HO_7.out) (Kd.R_base ho28) hb); have n2_ := Z0.mk (Kd.R_elder' (by (with_reducible repeat (first | apply Kd.R_alloc | apply Kd.R_drewN | apply Kd.R_drew)); exact HO_24.out) (Kd.R_base ho28) hb); have n3_ := Z0.mk (Kd.R_lower (Kd.R_new' (Kd.R_new' ho28 (Kd.R_lt (by (with_reducible repeat (first | apply Kd.R_alloc | apply Kd.R_drewN | apply Kd.R_drew)); exact HO_7.out))) (Kd.R_lt (by (with_reducible repeat (first | apply Kd.R_alloc | apply Kd.R_drewN | apply Kd.R_drew)); exact HO_24.out))) (bZ (by repeat (first | (with_reducible first | exact HB.out | apply below_alloc | apply bN | apply bD | refine bS ?_ GE599.out) | exact HB.out)))); have n4_ := Z0.mk (kB (g := gb599) (o := .cells #[.int .i64 a0_0, .slice A0_1 l0_1.length c0_1] 24 (0, 0)) (by (with_reducible repeat (first | refine kN ?_ _ | refine kD ?_ | refine kA ?_ _)); exact BK599.out) hb); have n5_ := Z0.mk (bT (by repeat (first | (with_reducible first | exact HB.out | apply below_alloc | apply bN | apply bD | refine bS ?_ GE599.out) | exact HB.out)) hb); clear HO_4; clear HO_7; clear HO_24; clear BK599; clear HB; have HO_4 := n0_; have HO_7 := n1_; have HO_24 := n2_; have HO612 := n3_; have BK599 := n4_; have HB := n5_; clear n0_ n1_ n2_ n3_ n4_ n5_; clear hb ho28))
             have n0_ := Z0.mk (Kd.S_drew HO_4.out)
             have n1_ := Z0.mk (Kd.R_drew HO_7.out)
             have n2_ := Z0.mk (Kd.R_drew HO_24.out)
             have n3_ := Z0.mk (Kd.R_drew HO612.out)
             have n4_ := Z0.mk (kD BK599.out)
             have n5_ := Z0.mk (bD HB.out)
             clear HO_4; clear HO_7; clear HO_24; clear HO612; clear BK599; clear HB
             have HO_4 := n0_
             have HO_7 := n1_
             have HO_24 := n2_
             have HO612 := n3_
             have BK599 := n4_
             have HB := n5_
             clear n0_ n1_ n2_ n3_ n4_ n5_
             have p613 : 0 ≤ ((rd x24_1 x26_1) : Int) := of_decide_eq_true (by first | (with_reducible assumption) | assumption)
             have q613 : (rd x24_1 x26_1) < (l0_1.length : Int) := of_decide_eq_true (by first | (with_reducible assumption) | assumption)
             obtain ⟨ad613, e613, hx613_0, hx613_1, hx613_2, hx613_3⟩ := at_T37 HR0_1.out (rd x24_1 x26_1) p613 q613
             have hw613_3 := hx613_3
             have hw613_2 := hx613_2
             have hw613_1 := hx613_1
             have hw613_0 := hx613_0
             cases e613
             replace hx613_0 := (HB.out.cell (wlt0 w _ hx613_0)).trans hx613_0
             replace hx613_1 := (HB.out.cell (wlt0 w _ hx613_1)).trans hx613_1
             replace hx613_2 := (HB.out.cell (wlt0 w _ hx613_2)).trans hx613_2
             replace hx613_3 := (HB.out.cell (wlt0 w _ hx613_3)).trans hx613_3
             replace p613 := eq_true p613
             replace q613 := eq_true q613
             have p614 : 0 ≤ ((rd x24_1 x26_1) : Int) := of_decide_eq_true (by first | (with_reducible assumption) | assumption)
             have q614 : (rd x24_1 x26_1) < (l0_1.length : Int) := of_decide_eq_true (by first | (with_reducible assumption) | assumption)
             obtain ⟨ad614, e614, hx614_0, hx614_1, hx614_2, hx614_3⟩ := at_T37 HR0_1.out (rd x24_1 x26_1) p614 q614
             have hw614_3 := hx614_3
             have hw614_2 := hx614_2
             have hw614_1 := hx614_1
             have hw614_0 := hx614_0
             obtain rfl : ad613 = ad614 := (by injection e614)
             replace hx614_0 := (HB.out.cell (wlt0 w _ hx614_0)).trans hx614_0
             replace hx614_1 := (HB.out.cell (wlt0 w _ hx614_1)).trans hx614_1
             replace hx614_2 := (HB.out.cell (wlt0 w _ hx614_2)).trans hx614_2
             replace hx614_3 := (HB.out.cell (wlt0 w _ hx614_3)).trans hx614_3
             replace p614 := eq_true p614
             replace q614 := eq_true q614
             obtain ⟨Ao30, co30, eo30⟩ := Kd.R_slice HO612.out
             (first | subst eo30 | (injection eo30 with f1_ f2_ f3_; have f4_ := f1_.symm; have f5_ := f3_.symm; clear f1_ f2_ f3_; subst f4_; subst f5_))
             refine start_ (n := 16) (S := fun w' => w'.cell? ⟨gb599, 0, none⟩ = some (.int .i64 a0_0) ∧ w'.cell? ⟨gb599, 1, none⟩ = some (.slice (some ad613) l0_1.length c0_1) ∧ w'.cell? (ad613.add (((rd x24_1 x26_1)).toNat * 4)) = some (.int .i64 ((rd_T37 l0_1 (rd x24_1 x26_1)).f0)) ∧ w'.cell? ⟨(ad613.add (((rd x24_1 x26_1)).toNat * 4)).block, (ad613.add (((rd x24_1 x26_1)).toNat * 4)).off + 1, none⟩ = some (.int .i64 ((rd_T37 l0_1 (rd x24_1 x26_1)).f1)) ∧ w'.cell? ⟨(ad613.add (((rd x24_1 x26_1)).toNat * 4)).block, (ad613.add (((rd x24_1 x26_1)).toNat * 4)).off + 2, none⟩ = some (.int .i64 ((rd_T37 l0_1 (rd x24_1 x26_1)).f2)) ∧ w'.cell? ⟨(ad613.add (((rd x24_1 x26_1)).toNat * 4)).block, (ad613.add (((rd x24_1 x26_1)).toNat * 4)).off + 3, none⟩ = some (.int .i64 ((rd_T37 l0_1 (rd x24_1 x26_1)).f3)) ∧ w'.cell? (ad613.add (((rd x24_1 x26_1)).toNat * 4)) = some (.int .i64 ((rd_T37 l0_1 (rd x24_1 x26_1)).f0)) ∧ w'.cell? ⟨(ad613.add (((rd x24_1 x26_1)).toNat * 4)).block, (ad613.add (((rd x24_1 x26_1)).toNat * 4)).off + 1, none⟩ = some (.int .i64 ((rd_T37 l0_1 (rd x24_1 x26_1)).f1)) ∧ w'.cell? ⟨(ad613.add (((rd x24_1 x26_1)).toNat * 4)).block, (ad613.add (((rd x24_1 x26_1)).toNat * 4)).off + 2, none⟩ = some (.int .i64 ((rd_T37 l0_1 (rd x24_1 x26_1)).f2)) ∧ w'.cell? ⟨(ad613.add (((rd x24_1 x26_1)).toNat * 4)).block, (ad613.add (((rd x24_1 x26_1)).toNat * 4)).off + 3, none⟩ = some (.int .i64 ((rd_T37 l0_1 (rd x24_1 x26_1)).f3))) (ds := []) #[false,false,false,false,false,false,false,false,false,false,false,false,false,false,false,false] (by kernel_rfl) rfl rfl ⟨(kC BK599.out 0).trans rfl, (kC BK599.out 1).trans rfl, ((HB.out.cell (wlt0 w _ hw613_0)).trans hw613_0), ((HB.out.cell (wlt0 w _ hw613_1)).trans hw613_1), ((HB.out.cell (wlt0 w _ hw613_2)).trans hw613_2), ((HB.out.cell (wlt0 w _ hw613_3)).trans hw613_3), ((HB.out.cell (wlt0 w _ hw614_0)).trans hw614_0), ((HB.out.cell (wlt0 w _ hw614_1)).trans hw614_1), ((HB.out.cell (wlt0 w _ hw614_2)).trans hw614_2), ((HB.out.cell (wlt0 w _ hw614_3)).trans hw614_3)⟩ (fun hHeld => ?_); refine with_tabW tCycles.tab8 tCycles.bits8 (fun HT_ HW_ => ?_)
             generalize w27.drew = w29 at HO_4 HO_7 HO_24 HO612 BK599 HB hx613_0 hx613_1 hx613_2 hx613_3 hx614_0 hx614_1 hx614_2 hx614_3 hHeld ⊢
             refine pure_ (i := 1) (N := some 38) (v := ?_) (a' := ?_) #[false,true,false,false,false,false,false,false,false,false,false,false,false,false,false,false] rfl rfl (any_of HT_.out (by kernel_rfl)) (fun _ _ _ h => h) (Or.inl ⟨by rfl, ?_⟩) ?_ ?_
             rotate_left; (intro w'; go_simp; with_reducible rfl); rotate_left; (simp only [Act.put, List.setIfInBounds_toArray, List.set_cons_zero, List.set_cons_succ, i64_w, i32_w]; rfl)
             refine pure_ (i := 2) (N := some 39) (v := ?_) (a' := ?_) #[false,true,true,false,false,false,false,false,false,false,false,false,false,false,false,false] rfl rfl (any_of HT_.out (by kernel_rfl)) (fun _ _ _ h => h) (Or.inl ⟨by rfl, ?_⟩) ?_ ?_
             rotate_left; (intro w'; go_simp; with_reducible rfl); rotate_left; (simp only [Act.put, List.setIfInBounds_toArray, List.set_cons_zero, List.set_cons_succ, i64_w, i32_w]; rfl)
             refine pure_ (i := 4) (N := some 41) (v := ?_) (a' := ?_) #[false,true,true,false,true,false,false,false,false,false,false,false,false,false,false,false] rfl rfl (any_of HT_.out (by kernel_rfl)) (fun _ _ _ h => h) (Or.inl ⟨by rfl, ?_⟩) ?_ ?_
             rotate_left; (intro w'; go_simp; with_reducible rfl); rotate_left; (simp only [Act.put, List.setIfInBounds_toArray, List.set_cons_zero, List.set_cons_succ, i64_w, i32_w]; rfl)
             refine pure_ (i := 8) (N := some 45) (v := ?_) (a' := ?_) #[false,true,true,false,true,false,false,false,true,false,false,false,false,false,false,false] rfl rfl (any_of HT_.out (by kernel_rfl)) (fun _ _ _ h => h) (Or.inl ⟨by rfl, ?_⟩) ?_ ?_
             rotate_left; (intro w'; go_simp; with_reducible rfl); rotate_left; (simp only [Act.put, List.setIfInBounds_toArray, List.set_cons_zero, List.set_cons_succ, i64_w, i32_w]; rfl)
             refine pure_ (i := 10) (N := some 47) (v := ?_) (a' := ?_) #[false,true,true,false,true,false,false,false,true,false,true,false,false,false,false,false] rfl rfl (any_of HT_.out (by kernel_rfl)) (fun _ _ _ h => h) (Or.inl ⟨by rfl, ?_⟩) ?_ ?_
             rotate_left; (intro w'; go_simp; with_reducible rfl); rotate_left; (simp only [Act.put, List.setIfInBounds_toArray, List.set_cons_zero, List.set_cons_succ, i64_w, i32_w]; rfl)
             refine pure_ (i := 14) (N := some 51) (v := ?_) (a' := ?_) #[false,true,true,false,true,false,false,false,true,false,true,false,false,false,true,false] rfl rfl (any_of HT_.out (by kernel_rfl)) (fun _ _ _ h => h) (Or.inl ⟨by rfl, ?_⟩) ?_ ?_
             rotate_left; (intro w'; go_simp; with_reducible rfl); rotate_left; (simp only [Act.put, List.setIfInBounds_toArray, List.set_cons_zero, List.set_cons_succ, i64_w, i32_w]; rfl)
             refine take_ (i := 0) (N := some 37) (v := ?_) (a' := ?_) #[true,true,true,false,true,false,false,false,true,false,true,false,false,false,true,false] rfl rfl (take_ofW HT_.out HW_.out (by kernel_rfl)) (fun _ _ _ h => h) (Or.inl ⟨by rfl, ?_⟩) hHeld ?_ ?_
             rotate_left; (rintro w' ⟨s0, s1, s2, s3, s4, s5, s6, s7, s8, s9⟩; go_simp; with_reducible rfl); rotate_left; (simp only [Act.put, List.setIfInBounds_toArray, List.set_cons_zero, List.set_cons_succ, i64_w, i32_w]; rfl)
             refine take_ (i := 3) (N := some 40) (v := ?_) (a' := ?_) #[true,true,true,true,true,false,false,false,true,false,true,false,false,false,true,false] rfl rfl (take_ofW HT_.out HW_.out (by kernel_rfl)) (fun _ _ _ h => h) (Or.inl ⟨by rfl, ?_⟩) hHeld ?_ ?_
             rotate_left; (rintro w' ⟨s0, s1, s2, s3, s4, s5, s6, s7, s8, s9⟩; go_simp; with_reducible rfl); rotate_left; (simp only [Act.put, List.setIfInBounds_toArray, List.set_cons_zero, List.set_cons_succ, i64_w, i32_w]; rfl)
             refine pure_ (i := 5) (N := some 42) (v := ?_) (a' := ?_) #[true,true,true,true,true,true,false,false,true,false,true,false,false,false,true,false] rfl rfl (any_of HT_.out (by kernel_rfl)) (fun _ _ _ h => h) (Or.inl ⟨by rfl, ?_⟩) ?_ ?_
             rotate_left; (intro w'; go_simp; with_reducible rfl); rotate_left; (simp only [Act.put, List.setIfInBounds_toArray, List.set_cons_zero, List.set_cons_succ, i64_w, i32_w]; rfl)
             refine pure_ (i := 6) (N := some 43) (v := ?_) (a' := ?_) #[true,true,true,true,true,true,true,false,true,false,true,false,false,false,true,false] rfl rfl (any_of HT_.out (by kernel_rfl)) (fun _ _ _ h => h) (Or.inl ⟨by rfl, ?_⟩) ?_ ?_
             rotate_left; (intro w'; go_simp; with_reducible rfl); rotate_left; (simp only [Act.put, List.setIfInBounds_toArray, List.set_cons_zero, List.set_cons_succ, i64_w, i32_w]; rfl)
             refine take_ (i := 7) (N := some 44) (v := ?_) (a' := ?_) #[true,true,true,true,true,true,true,true,true,false,true,false,false,false,true,false] rfl rfl (take_ofW HT_.out HW_.out (by kernel_rfl)) (fun _ _ _ h => h) (Or.inl ⟨by rfl, ?_⟩) hHeld ?_ ?_
             rotate_left; (rintro w' ⟨s0, s1, s2, s3, s4, s5, s6, s7, s8, s9⟩; go_simp; with_reducible rfl); rotate_left; (simp only [Act.put, List.setIfInBounds_toArray, List.set_cons_zero, List.set_cons_succ, i64_w, i32_w]; rfl)
             refine take_ (i := 9) (N := some 46) (v := ?_) (a' := ?_) #[true,true,true,true,true,true,true,true,true,true,true,false,false,false,true,false] rfl rfl (take_ofW HT_.out HW_.out (by kernel_rfl)) (fun _ _ _ h => h) (Or.inl ⟨by rfl, ?_⟩) hHeld ?_ ?_
             rotate_left; (rintro w' ⟨s0, s1, s2, s3, s4, s5, s6, s7, s8, s9⟩; go_simp; with_reducible rfl); rotate_left; (simp only [Act.put, List.setIfInBounds_toArray, List.set_cons_zero, List.set_cons_succ, i64_w, i32_w]; rfl)
             refine pure_ (i := 11) (N := some 48) (v := ?_) (a' := ?_) #[true,true,true,true,true,true,true,true,true,true,true,true,false,false,true,false] rfl rfl (any_of HT_.out (by kernel_rfl)) (fun _ _ _ h => h) (Or.inl ⟨by rfl, ?_⟩) ?_ ?_
             rotate_left; (intro w'; go_simp; with_reducible rfl); rotate_left; (simp only [Act.put, List.setIfInBounds_toArray, List.set_cons_zero, List.set_cons_succ, i64_w, i32_w]; rfl)
             refine pure_ (i := 12) (N := some 49) (v := ?_) (a' := ?_) #[true,true,true,true,true,true,true,true,true,true,true,true,true,false,true,false] rfl rfl (any_of HT_.out (by kernel_rfl)) (fun _ _ _ h => h) (Or.inl ⟨by rfl, ?_⟩) ?_ ?_
             rotate_left; (intro w'; go_simp; with_reducible rfl); rotate_left; (simp only [Act.put, List.setIfInBounds_toArray, List.set_cons_zero, List.set_cons_succ, i64_w, i32_w]; rfl)
             refine take_ (i := 13) (N := some 50) (v := ?_) (a' := ?_) #[true,true,true,true,true,true,true,true,true,true,true,true,true,true,true,false] rfl rfl (take_ofW HT_.out HW_.out (by kernel_rfl)) (fun _ _ _ h => h) (Or.inl ⟨by rfl, ?_⟩) hHeld ?_ ?_
             rotate_left; (rintro w' ⟨s0, s1, s2, s3, s4, s5, s6, s7, s8, s9⟩; go_simp; with_reducible rfl); rotate_left; (simp only [Act.put, List.setIfInBounds_toArray, List.set_cons_zero, List.set_cons_succ, i64_w, i32_w]; rfl)
             refine one_ (i := 15) (N := some 52) #[true,true,true,true,true,true,true,true,true,true,true,true,true,true,true,true] rfl rfl (one_of HT_.out (by kernel_rfl)) (by decide) (fun K hK => ?_)
             refine goes_ Try.func103 (by kernel_rfl) rfl #[.agg #[.int .i64 a0_0, .slice (some ad613) l0_1.length c0_1], .slice Ao25 x7_1.length co25, .int .i64 ((rd_T37 l0_1 (rd x24_1 x26_1)).f1), .int .i64 ((rd_T37 l0_1 (rd x24_1 x26_1)).f0), .slice Ao30 y610.length co30] (by rfl) rfl rfl (by (try simp only [List.map_toArray, List.map_cons, List.map_nil]); first | done | rfl | (simp only [List.length_drop, List.length_take]; rfl)) ?_
             with_reducible refine (twalk.calls k1 a0_0 _ _ l0_1 _ _ x7_1 ((rd_T37 l0_1 (rd x24_1 x26_1)).f1) ((rd_T37 l0_1 (rd x24_1 x26_1)).f0) (fun k_ => some k_ = (.slice Ao30 y610.length co30 : Value).ownBlock) (.slice Ao30 y610.length co30) y610 t615 t616 w _ ?side1 ?side2 ?side3 ?side4 ?side5 ?side6 A21.out).mono ?_
             (case side1 => repeat (first | (with_reducible first | exact HB.out | apply below_alloc | apply bN | apply bD | refine bS ?_ GE599.out) | exact HB.out))
             (case side2 => exact Kd.C_kept_came k37_heap HR0_1.out (by repeat (first | (with_reducible first | exact HB.out | apply below_alloc | apply bN | apply bD | refine bS ?_ GE599.out) | exact HB.out)) (fun k_ hs_ => (fun e_ => Kd.R_base HO612.out k_ e_.symm) hs_))
             (case side3 => exact HC0_1.out)
             (case side4 => exact Kd.C_kept_own (HO_7.out) (fun k_ hk_ hs_ => (hk_.2) hs_))
             (case side5 => exact (Kd.R_reads' HO_7.out).2.1)
             (case side6 => exact Kd.R_tight rfl HO612.out)
             rintro e w31 ⟨rfl, hy0, hb, hkp⟩
             refine ⟨_, rfl, ?_⟩
             have n0_ := Z0.mk (Kd.S_mono (ok' := fun k_ => some k_ ≠ (.slice Ao25 x7_1.length co25 : Value).ownBlock ∧ some k_ ≠ (.slice (some ad608) x24_1.length co10 : Value).ownBlock ∧ some k_ ≠ (.slice Ao30 y610.length co30 : Value).ownBlock) (Kd.S_keptB (HO_4.out) hkp (fun k_ hk_ hs_ => (hk_.2) hs_)) (fun k_ hk_ => by refine ⟨?_, ?_, ?_⟩ <;> first | exact hk_.1.1.1 | exact hk_.1.1.2 | exact hk_.1.2))
             have n1_ := Z0.mk (Kd.R_mono (ok' := fun k_ => some k_ ≠ (.slice (some ad608) x24_1.length co10 : Value).ownBlock ∧ some k_ ≠ (.slice Ao30 y610.length co30 : Value).ownBlock) (Kd.R_keptB (HO_7.out) hkp (fun k_ hk_ hs_ => (hk_.2) hs_)) (fun k_ hk_ => by refine ⟨?_, ?_⟩ <;> first | exact hk_.1.1 | exact hk_.1.2))
             have n2_ := Z0.mk (Kd.R_mono (ok' := fun k_ => some k_ ≠ (.slice Ao25 x7_1.length co25 : Value).ownBlock ∧ some k_ ≠ (.slice Ao30 y610.length co30 : Value).ownBlock) (Kd.R_keptB (HO_24.out) hkp (fun k_ hk_ hs_ => (hk_.2) hs_)) (fun k_ hk_ => by refine ⟨?_, ?_⟩ <;> first | exact hk_.1.1 | exact hk_.1.2))
             have n3_ := Z0.mk (blk_kept (by (with_reducible repeat (first | refine kN ?_ _ | refine kD ?_ | refine kA ?_ _)); exact BK599.out) hkp (fun hs_ => (fun e_ => (Kd.R_ne HO612.out BK599.out (by decide)) e_) hs_))
             have n4_ := Z0.mk (Kd.R_reok rfl hy0 (fun k_ e_ => HO612.out.1 k_ e_))
             have n5_ := Z0.mk (hb)
             clear HO_4; clear HO_7; clear HO_24; clear BK599; clear HO612; clear HB
             have HO_4 := n0_
             have HO_7 := n1_
             have HO_24 := n2_
             have BK599 := n3_
             have HO612 := n4_
             have HB := n5_
             clear n0_ n1_ n2_ n3_ n4_ n5_
             (try clear hb)
             (try clear hkp)
             (try clear hy0)
             refine hK.out _ _ ⟨(kC BK599.out 0).trans rfl, (kC BK599.out 1).trans rfl, ((HB.out.cell (wlt0 w _ hw613_0)).trans hw613_0), ((HB.out.cell (wlt0 w _ hw613_1)).trans hw613_1), ((HB.out.cell (wlt0 w _ hw613_2)).trans hw613_2), ((HB.out.cell (wlt0 w _ hw613_3)).trans hw613_3), ((HB.out.cell (wlt0 w _ hw614_0)).trans hw614_0), ((HB.out.cell (wlt0 w _ hw614_1)).trans hw614_1), ((HB.out.cell (wlt0 w _ hw614_2)).trans hw614_2), ((HB.out.cell (wlt0 w _ hw614_3)).trans hw614_3)⟩ (fun hHeld => ?_)
             clear hK K
             refine norm_ (a' := ?_) ?_ ?_
             rotate_left
             ·show Act.put _ (some 52) _ = _
              simp only [Act.put, List.setIfInBounds_toArray, List.set_cons_zero, List.set_cons_succ, i64_w, i32_w]
              rfl
             refine done_ (done_of HT_.out (by kernel_rfl)) ?_
             have p23 : 0 ≤ ((rd x24_1 x26_1) : Int) := of_decide_eq_true (by first | (with_reducible assumption) | assumption)
             have q23 : ((rd x24_1 x26_1) : Int) < ((y610.length : Int) : Int) := of_decide_eq_true (by first | (with_reducible assumption) | assumption)
             obtain ⟨go23, co23, eo23, gb23, gl23, cl23, HG23⟩ := Kd.R_form HO612.out (by first | omega | (have h0_ : 0 ≤ rd x24_1 x26_1 := of_decide_eq_true (by first | (with_reducible assumption) | assumption); have h1_ := (Kd.R_reads' HO612.out).1; omega))
             (first | cases eo23 | (injection eo23 with ea_ en_ ec_; (first | subst ea_ | (injection ea_ with ea_; subst ea_)); subst ec_; clear en_))
             have GB23 := Z0.mk gb23
             have GG23 := Z0.mk HG23
             clear gb23 gl23 HG23
             obtain ⟨hx23_0, hf23_0⟩ := Kd.R_celln 0 HO612.out ((rd x24_1 x26_1) : Int) p23 q23
             replace p23 := eq_true p23
             replace q23 := eq_true q23
             have n_ := Z0.mk (Kd.R_mono (ok' := (fun k_ => some k_ ≠ (.slice Ao25 x7_1.length co25 : Value).ownBlock ∧ some k_ ≠ (.slice (some ad608) x24_1.length co10 : Value).ownBlock)) HO612.out (fun k_ hk => ⟨hk.1.2, hk.2⟩))
             clear HO612
             have HO612 := n_
             clear n_
             obtain ⟨hy32_, hz32_⟩ := Kd.R_celln 0 HO612.out ((rd x24_1 x26_1) : Int) (of_decide_eq_true (by first | (with_reducible assumption) | assumption)) (of_decide_eq_true (by first | (with_reducible assumption) | assumption))
             have HP32 := Kd.R_putg HO612.out ((rd x24_1 x26_1) : Int) 1
             try go_wp2_with (first | ((with_reducible refine gate_store (t := 3) (p := 55) rfl ?_); refine store_event (t := 3) (p := 55) (v := ?vo_w33) (w1 := (w31.setCell ⟨go23, ((rd x24_1 x26_1) : Int).toNat, none⟩ (.int .i64 1))) ?hg ?ho ?hn ?hr ?_; (case ho => rfl); (case hg => rfl); (case hn => rfl); (case hr => first | (go_simp; done) | (go_simp; rfl)); intro w33 hw; have hg : w31.grownBy w33 (some go23) := (by rw [hw]; exact HP32.2); have hp_ : Kd.R (Kd.int .i64) 3 w33 w.heap.size (fun k_ => some k_ ≠ (.slice Ao25 x7_1.length co25 : Value).ownBlock ∧ some k_ ≠ (.slice (some ad608) x24_1.length co10 : Value).ownBlock) (.slice (some ⟨go23, 0, none⟩) y610.length co30) y617 := (by rw [hw, Ny617.out]; exact HP32.1); clear HP32; have n0_ := Z0.mk (Kd.S_after (v := (.slice (some ⟨go23, 0, none⟩) y610.length co30)) (v1 := (.slice (some ⟨go23, 0, none⟩) y610.length co30)) (ok := (fun k_ => some k_ ≠ (.slice Ao25 x7_1.length co25 : Value).ownBlock ∧ some k_ ≠ (.slice (some ad608) x24_1.length co10 : Value).ownBlock)) (by (with_reducible repeat (first | apply Kd.S_alloc | apply Kd.S_drewN | apply Kd.S_drew)); exact Kd.S_mono HO_4.out (fun _ hk => ⟨⟨hk.1, hk.2.1⟩, hk.2.2⟩)) hg (.inl rfl)); have n1_ := Z0.mk (Kd.R_after (v := (.slice (some ⟨go23, 0, none⟩) y610.length co30)) (v1 := (.slice (some ⟨go23, 0, none⟩) y610.length co30)) (ok := (fun k_ => some k_ ≠ (.slice (some ad608) x24_1.length co10 : Value).ownBlock)) (by (with_reducible repeat (first | apply Kd.R_alloc | apply Kd.R_drewN | apply Kd.R_drew)); exact HO_7.out) hg (.inl rfl)); have n2_ := Z0.mk (Kd.R_after (v := (.slice (some ⟨go23, 0, none⟩) y610.length co30)) (v1 := (.slice (some ⟨go23, 0, none⟩) y610.length co30)) (ok := (fun k_ => some k_ ≠ (.slice Ao25 x7_1.length co25 : Value).ownBlock)) (by (with_reducible repeat (first | apply Kd.R_alloc | apply Kd.R_drewN | apply Kd.R_drew)); exact HO_24.out) hg (.inl rfl)); have n3_ := Z0.mk (blk_grown (g := gb599) (o := .cells #[.int .i64 a0_0, .slice (some ad613) l0_1.length c0_1] 24 (0, 0)) (by (with_reducible repeat (first | refine kN ?_ _ | refine kD ?_ | refine kA ?_ _)); exact BK599.out) hg (Kd.R_ne HO612.out BK599.out (by decide))); have n4_ := Z0.mk (hp_); have n5_ := Z0.mk ((by rw [hw]; exact bS (HB.out) GB23.out : Below w.heap.size w w33)); clear HO_4; clear HO_7; clear HO_24; clear BK599; clear HO612; clear HB; have HO_4 := n0_; have HO_7 := n1_; have HO_24 := n2_; have BK599 := n3_; have HO612 := n4_; have HB := n5_; clear n0_ n1_ n2_ n3_ n4_ n5_; clear hg hw hp_) | ((with_reducible refine gate_builtin (b := .append) (xs := #[.tmp 56, .tmp 58]) rfl ?_); at_builtin; refine Kd.S_append (Kd.slice 3 (Kd.int .i64)) (w0 := w) w.heap.size rfl (.tmp 56) (.tmp 58) 46 25 (.slice none 0 0) 24 rfl Try.underlying46 info25 rfl (by decide) (by omega) u4 x4_1 y617 [.slice (some ⟨go23, 0, none⟩) y610.length co30] (fun k_ => some k_ ≠ (.slice Ao25 x7_1.length co25 : Value).ownBlock ∧ some k_ ≠ (.slice (some ad608) x24_1.length co10 : Value).ownBlock) (fun k_ => some k_ = (.slice (some ⟨go23, 0, none⟩) y610.length co30 : Value).ownBlock) rfl rfl ?aP (fun k_ hk_ => ((Kd.R_mono (ok' := fun k_ => ((fun k_ => some k_ ≠ (.slice Ao25 x7_1.length co25 : Value).ownBlock ∧ some k_ ≠ (.slice (some ad608) x24_1.length co10 : Value).ownBlock)) k_ ∧ some k_ ≠ (u4 : Value).ownBlock) (Kd.R_apart' (HO612.out) (Kd.S_typed HO_4.out) (by decide)) (fun k_ hk => ⟨⟨hk.1.1, hk.1.2⟩, hk.2⟩))).1 k_ hk_.symm) ?aF ?aO ?aB ?aS ?aL ?_; (case aP => exact Kd.M_row (Kd.R_mono (Kd.R_tight rfl (Kd.R_mono (ok' := fun k_ => ((fun k_ => some k_ ≠ (.slice Ao25 x7_1.length co25 : Value).ownBlock ∧ some k_ ≠ (.slice (some ad608) x24_1.length co10 : Value).ownBlock)) k_ ∧ some k_ ≠ (u4 : Value).ownBlock) (Kd.R_apart' (HO612.out) (Kd.S_typed HO_4.out) (by decide)) (fun k_ hk => ⟨⟨hk.1.1, hk.1.2⟩, hk.2⟩))) (fun _ h_ => h_))); (case aB => exact (by repeat (first | (with_reducible first | exact HB.out | apply below_alloc | apply bN | apply bD | refine bS ?_ GE599.out) | exact HB.out))); (case aF => exact (fun k_ hk => ⟨Kd.fresh' (Kd.R_lt (by (with_reducible repeat (first | apply Kd.R_alloc | apply Kd.R_drewN | apply Kd.R_drew)); exact HO_7.out)) k_ hk, Kd.fresh' (Kd.R_lt (by (with_reducible repeat (first | apply Kd.R_alloc | apply Kd.R_drewN | apply Kd.R_drew)); exact HO_24.out)) k_ hk⟩)); (case aO => exact (by (with_reducible repeat (first | apply Kd.S_alloc | apply Kd.S_drewN | apply Kd.S_drew)); exact Kd.S_mono HO_4.out (fun k_ hk => ⟨⟨hk.1.1, hk.1.2⟩, fun e_ => hk.2 e_⟩))); (case aS => exact (bZ (by repeat (first | (with_reducible first | exact HB.out | apply below_alloc | apply bN | apply bD | refine bS ?_ GE599.out) | exact HB.out)))); (case aL => have := LMc24.out; omega); intro v619 w34 ho hb hg hat; rw [← Ny618.out] at ho; have n0_ := Z0.mk (Kd.R_over' (by (with_reducible repeat (first | apply Kd.R_alloc | apply Kd.R_drewN | apply Kd.R_drew)); exact HO_7.out) (Kd.S_typed (by (with_reducible repeat (first | apply Kd.S_alloc | apply Kd.S_drewN | apply Kd.S_drew)); exact HO_4.out)) (by decide) hg); have n1_ := Z0.mk (Kd.R_over' (by (with_reducible repeat (first | apply Kd.R_alloc | apply Kd.R_drewN | apply Kd.R_drew)); exact HO_24.out) (Kd.S_typed (by (with_reducible repeat (first | apply Kd.S_alloc | apply Kd.S_drewN | apply Kd.S_drew)); exact HO_4.out)) (by decide) hg); have n2_ := Z0.mk (blk_grown (g := gb599) (o := .cells #[.int .i64 a0_0, .slice (some ad613) l0_1.length c0_1] 24 (0, 0)) (by (with_reducible repeat (first | refine kN ?_ _ | refine kD ?_ | refine kA ?_ _)); exact BK599.out) hg (Kd.S_ne HO_4.out BK599.out (by decide))); have n3_ := Z0.mk (hb); have n4_ := Z0.mk (ho); clear HO_7; clear HO_24; clear BK599; clear HB; clear HO_4; clear HO612; have HO_7 := n0_; have HO_24 := n1_; have BK599 := n2_; have HB := n3_; have HO620 := n4_; clear n0_ n1_ n2_ n3_ n4_; clear ho hb hg hat))
             (try simp only [← hl24_1])
             go_roundg k1
             case measure => have := HK1.out; omega
             case rel => exact ⟨(y618), (x7_1), (x24_1), (wrap64 (x26_1 + 1)), (by first | rfl | (simp; done) | (simp [*]; done)), H', ⟨by have := HK1.out; omega⟩, ⟨by (try simp only [hl24_1]); (with_reducible repeat (first | apply Kd.S_alloc | apply Kd.S_drewN | apply Kd.S_drew)); exact HO620.out⟩, ⟨by (try simp only [hl24_1]); (with_reducible repeat (first | apply Kd.R_alloc | apply Kd.R_drewN | apply Kd.R_drew)); exact Kd.R_mono HO_7.out (fun _ hk => hk.1)⟩, ⟨by (try simp only [hl24_1]); (with_reducible repeat (first | apply Kd.R_alloc | apply Kd.R_drewN | apply Kd.R_drew)); exact Kd.R_mono HO_24.out (fun _ hk => hk.1)⟩, ⟨by (try simp only [hl24_1]); (with_reducible repeat (first | refine kN ?_ _ | refine kD ?_ | refine kA ?_ _)); exact BK599.out⟩, ⟨by repeat (first | (with_reducible first | exact HB.out | apply below_alloc | apply bN | apply bD | refine bS ?_ GE599.out) | exact HB.out)⟩⟩
            ·rw [if_neg c24] at H
             exact absurd H (by simp)
           ·rw [if_neg c22] at H
            exact absurd H (by simp)
          ·rw [if_neg c20] at H
           exact absurd H (by simp)
         ·rw [if_neg c19] at H
          exact absurd H (by simp)
        ·rw [if_neg c18] at H
         exact absurd H (by simp)
       ·rw [if_neg c17] at H
        exact absurd H (by simp)
     ·rw [if_neg c13] at H
      exact absurd H (by simp)
    ·rw [if_neg c12] at H
     exact absurd H (by simp)
   ·rw [if_neg c11] at H
    have c11b0 : decide (x26_1 < (t600.length : Int)) = false := decide_eq_false c11
    (first | rw [hl24_1] at c11b0 | rw [← hl24_1] at c11b0 | skip)
    clear c11
    simp only [Option.some.injEq, Prod.mk.injEq] at H
    obtain ⟨rfl, rfl⟩ := H
    go_wp2
    go_ret2
    exact ⟨_, by first | rfl | (simp [errW_none, errW_some] <;> rfl) | (simp [*, errW_none, errW_some] <;> rfl), by (with_reducible repeat (first | apply Kd.S_alloc | apply Kd.S_drewN | apply Kd.S_drew)); exact Kd.S_mono HO_4.out (fun _ hk => trivial), by repeat (first | (with_reducible first | exact HB.out | apply below_alloc | apply bN | apply bD | refine bS ?_ GE599.out) | exact HB.out)⟩
def usesW (k : Int) (way : List Int) : Bool := rd way k != 0
def tBridges.f (k : Nat) (a0_0 : Int) (l0_1 : List (S37)) (l1 : List Int) : Option (List Int × Int) :=
 (tTree.f k a0_0 l0_1 l1).bind fun t => (tCycles.f k a0_0 l0_1 l1).bind fun a =>
  if (∀ x ∈ t.1, ∀ way ∈ a.1, 0 ≤ x ∧ x < (way.length : Int)) ∧ t.1.length ≤ 1000000 then some (t.1.filter (fun x => !a.1.any (usesW x)), t.2) else none
set_option maxRecDepth 100000 in
set_option maxHeartbeats 4000000 in
theorem used_calls (g : Nat) (A : Option Addr) (c : Nat) (way : List Int) (k : Int) (w : World) (hg : w.cell? ⟨g, 0, none⟩ = some (.int .i64 k)) (hl : Kd.C (Kd.int .i64) w A way.length way) (h0 : 0 ≤ k) (h1 : k < (way.length : Int)) :
  Calls Try.prog 100 #[.slice A way.length c, .pointer (some ⟨g, 0, none⟩)] w fun e w' => e = .returned (.bool (usesW k way)) ∧ Below w.heap.size w w' := by
 obtain ⟨ad, e0, e1⟩ := Kd.at_int hl k h0 h1
 subst e0
 unfold usesW
 obtain ⟨x, hx⟩ : ∃ x, x = rd way k := ⟨_, rfl⟩
 rw [← hx] at e1 ⊢
 have q1 : (0 ≤ k) = True := eq_true h0
 have q2 : (k < (way.length : Int)) = True := eq_true h1
 have q3 : decide (0 ≤ k) = true := decide_eq_true h0
 have q4 : decide (k < (way.length : Int)) = true := decide_eq_true h1
 have hL := Kd.C_max hl
 clear hl hx
 go_enter Try.func100, Try.ntmps100
 go_wp2_with fail
 go_ret
 exact ⟨rfl, Below.refl _ _⟩
set_option maxRecDepth 100000 in
set_option maxHeartbeats 4000000 in
theorem indexUsed_calls (g : Nat) (k : Int) (Am : Option Addr) (cm : Nat) (SL : List (List Int)) (w : World) (hg : w.heap[g]? = some (.cells #[.int .i64 k] 3 (0, 0))) (hS : Kd.C (Kd.slice 3 (Kd.int .i64)) w Am SL.length SL) (hok : ∀ way ∈ SL, 0 ≤ k ∧ k < (way.length : Int)) :
  Calls Try.prog 117 #[.slice Am SL.length cm, .func (.func 100) #[] #[.pointer (some ⟨g, 0, none⟩)]] w fun e w' => ∃ i : Int, e = .returned (.int .i64 i) ∧ (0 ≤ i ↔ SL.any (usesW k) = true) ∧ Below w.heap.size w w' := by
 have HG := Lib.hid hg
 have HS := Lib.hid hS
 have HOK := Lib.hid hok
 have hLS := Kd.C_max hS
 clear hg hS hok
 go_enter Try.func117, Try.ntmps117
 go_wp2_with fail
 go_loopg [8] SL.length (fun kq v8 wr => ∃ i : Nat, i ≤ SL.length ∧ v8 = .int .i64 (i : Int) ∧ Hid (kq = SL.length - i ∧ Below w.heap.size w wr ∧ ∀ (j : Nat) (hj : j < SL.length), j < i → usesW k SL[j] = false))
 case atStart => exact ⟨0, Nat.zero_le _, rfl, rfl, Below.refl _ _, fun j _ hj => absurd hj (Nat.not_lt_zero _)⟩
 case round =>
  obtain ⟨i, hi, rfl, HI⟩ := hrel
  by_cases hlt : i < SL.length
  ·have q1 : decide ((i : Int) < (SL.length : Int)) = true := decide_eq_true (by omega)
   obtain ⟨ad, A0, c0, hAm, e0, hc0, hC0⟩ := at_L1 (Kd.C_below HS.out HI.out.2.1) (i : Int) (by omega) (by omega)
   subst hAm
   have hrd : rd_L1 SL (i : Int) = SL[i] := by simp [rd_L1, List.getD_eq_getElem?_getD, hlt]
   rw [hrd] at e0 hc0 hC0
   rw [Int.toNat_natCast] at e0
   obtain ⟨hk0, hk1⟩ := HOK.out SL[i] (List.getElem_mem hlt)
   obtain ⟨way, hway⟩ : ∃ way, way = SL[i] := ⟨_, rfl⟩
   rw [← hway] at e0 hc0 hC0 hk1
   have HWAY := Lib.hid hway
   have hcall := used_calls g A0 c0 way k wr ((kC (kB HG.out HI.out.2.1) 0).trans rfl) hC0 hk0 hk1
   obtain ⟨b, hb⟩ : ∃ b, b = usesW k way := ⟨_, rfl⟩
   rw [← hb] at hcall
   have HB := Lib.hid hb
   have HCALL := Lib.hid hcall
   clear hb hcall hway hC0 hc0 hk0 hk1
   cases b with
   | true =>
    go_wp2_with (go_at_call 100; refine HCALL.out.mono ?_; rintro e w' ⟨rfl, hb'⟩; have HB' := Lib.hid hb'; clear hb')
    go_ret
    exact ⟨_, rfl, ⟨fun _ => List.any_eq_true.2 ⟨SL[i], List.getElem_mem hlt, by rw [← HWAY.out]; exact HB.out.symm⟩, fun _ => by omega⟩, HI.out.2.1.trans (HB'.out.mono HI.out.2.1.size)⟩
   | false =>
    go_wp2_with (go_at_call 100; refine HCALL.out.mono ?_; rintro e w' ⟨rfl, hb'⟩; have HB' := Lib.hid hb'; clear hb')
    go_roundg (SL.length - (i + 1))
    case measure => have := HI.out.1; omega
    case rel =>
     refine ⟨i + 1, by omega, by go_num, rfl, HI.out.2.1.trans (HB'.out.mono HI.out.2.1.size), fun j hjl hj => ?_⟩
     by_cases hji : j = i
     ·subst hji; rw [← HWAY.out]; exact HB.out.symm
     ·exact HI.out.2.2 j hjl (by omega)
  ·have q1 : decide ((i : Int) < (SL.length : Int)) = false := decide_eq_false (by omega)
   go_wp2_with fail
   go_ret
   refine ⟨_, rfl, ⟨fun h => absurd h (by decide), fun hu => ?_⟩, HI.out.2.1⟩
   obtain ⟨x, hx, hu⟩ := List.any_eq_true.1 hu
   obtain ⟨j, hj, rfl⟩ := List.getElem_of_mem hx
   rw [HI.out.2.2 j hj (by omega)] at hu
   cases hu
set_option maxRecDepth 100000 in
set_option maxHeartbeats 4000000 in
theorem containsUsed_calls (g : Nat) (k : Int) (Am : Option Addr) (cm : Nat) (SL : List (List Int)) (w : World) (hg : w.heap[g]? = some (.cells #[.int .i64 k] 3 (0, 0))) (hS : Kd.C (Kd.slice 3 (Kd.int .i64)) w Am SL.length SL) (hok : ∀ way ∈ SL, 0 ≤ k ∧ k < (way.length : Int)) (b : Bool) (hb : b = SL.any (usesW k)) :
  Calls Try.prog 99 #[.slice Am SL.length cm, .func (.func 100) #[] #[.pointer (some ⟨g, 0, none⟩)]] w fun e w' => e = .returned (.bool b) ∧ Below w.heap.size w w' := by
 have HC := Lib.hid (indexUsed_calls g k Am cm SL w hg hS hok)
 have HB := Lib.hid hb
 clear hg hS hok hb
 go_enter Try.func99, Try.ntmps99
 go_wp2_with fail
 go_at_call 117
 refine HC.out.mono ?_
 rintro e w1 ⟨i, rfl, hi, hb1⟩
 have HB1 := Lib.hid hb1
 cases b with
 | true =>
  have h0 : 0 ≤ i := hi.2 HB.out.symm
  have q1 : decide (0 ≤ i) = true := decide_eq_true h0
  clear hi hb1
  go_wp2_with fail
  go_ret
  exact ⟨rfl, HB1.out⟩
 | false =>
  have h0 : ¬ 0 ≤ i := fun h => by have := hi.1 h; rw [← HB.out] at this; cases this
  have q1 : decide (0 ≤ i) = false := decide_eq_false h0
  clear hi hb1
  go_wp2_with fail
  go_ret
  exact ⟨rfl, HB1.out⟩
set_option maxRecDepth 100000 in
set_option maxHeartbeats 8000000 in
theorem tBridges.calls (k : Nat) (a0_0 : Int) (A0_1 : Option Addr) (c0_1 : Nat) (l0_1 : List (S37)) (A1 : Option Addr) (c1 : Nat) (l1 : List Int) (r1 : List Int) (r2 : Int) (w : World) (hr0_1 : Kd.C k37 w A0_1 l0_1.length l0_1) (hc0_1 : l0_1.length ≤ c0_1) (hr1 : Kd.C (Kd.int .i64) w A1 l1.length l1) (hc1 : l1.length ≤ c1) (h : tBridges.f k a0_0 l0_1 l1 = some (r1, r2)) :
  Calls Try.prog 55 #[.agg #[.int .i64 a0_0, .slice A0_1 l0_1.length c0_1], .slice A1 l1.length c1] w fun e w' => ∃ v0_ : Value, e = .returned (.tuple #[v0_, .int .i64 r2]) ∧ Kd.R (Kd.int .i64) 3 w' w.heap.size (fun _ => True) v0_ r1 ∧ Below w.heap.size w w' := by
 unfold tBridges.f at h
 obtain ⟨⟨t, e1⟩, ht, h⟩ := Option.bind_eq_some_iff.1 h
 obtain ⟨⟨a, e2⟩, ha, h⟩ := Option.bind_eq_some_iff.1 h
 split at h
 ·rename_i hg
  simp only [Option.some.injEq, Prod.mk.injEq] at h
  obtain ⟨rfl, rfl⟩ := h
  have hu24 := Try.underlying24
  have HG := Lib.hid hg
  have HT := Lib.hid ht
  have HA := Lib.hid ha
  have HR0 := Lib.hid hr0_1
  have HR1 := Lib.hid hr1
  have hmf : ∀ (fn : Fn) (first cap : Array Value) (w : World), (Instr.makeFunc fn first cap).run Try.prog w = .ok (.func fn first cap) w := fun _ _ _ _ => rfl
  clear hg ht ha hr0_1 hr1
  go_enter Try.func55, Try.ntmps55
  go_wp2_with fail
  go_at_call 56
  refine (tTree.calls k a0_0 A0_1 c0_1 l0_1 A1 c1 l1 t e1 _ (Kd.C_alloc HR0.out _) hc0_1 (Kd.C_alloc HR1.out _) hc1 HT.out).mono ?_
  rintro e w1 ⟨v1, rfl, h1, b1⟩
  obtain ⟨A2, c2, rfl⟩ := Kd.R_slice h1
  have b1' := (below_alloc (Below.refl w.heap.size w) (.cells #[.int .i64 a0_0, .slice A0_1 l0_1.length c0_1] 24)).trans (b1.mono (by simp))
  have X1 : RowKit.Hid (Kd.R (Kd.int .i64) 3 w1 w.heap.size (fun _ => True) (.slice A2 t.length c2) t) := Lib.hid (Kd.R_lower h1 (by simp))
  have B1 := Lib.hid b1'
  have K1 := Lib.hid ((b1.block _ (by simp)).trans (blk_new w _))
  clear h1 b1 b1'
  have c10 : w1.cell? ⟨w.heap.size, 0, none⟩ = some (.int .i64 a0_0) := (kC K1.out 0).trans rfl
  have c11 : w1.cell? ⟨w.heap.size, 1, none⟩ = some (.slice A0_1 l0_1.length c0_1) := (kC K1.out 1).trans rfl
  go_wp2_with fail
  go_at_call 57
  refine (tCycles.calls k a0_0 A0_1 c0_1 l0_1 A1 c1 l1 a e2 _ (Kd.C_below HR0.out B1.out) hc0_1 (Kd.C_below HR1.out B1.out) hc1 HA.out).mono ?_
  rintro e w2 ⟨v2, rfl, h2, b2⟩
  obtain ⟨A3, c3, rfl⟩ := Kd.R_slice (Kd.S_R h2)
  have hS2 := (Kd.R_reads' (Kd.S_R h2)).2.2
  have X2 := Lib.hid (Kd.R_below X1.out b2)
  have Y2 := Lib.hid hS2
  have B2 := Lib.hid (B1.out.trans (b2.mono B1.out.size))
  clear h2 b2 hS2 B1 X1 c10 c11
  go_wp2_with fail
  obtain ⟨Bz, hBz⟩ : ∃ Bz, Bz = w2.heap.size := ⟨_, rfl⟩
  have HBZ := Lib.hid hBz
  have hlt := (Kd.R_reads' X2.out).2.2
  have htl := Kd.C_max hlt
  have XT := Lib.hid hlt
  clear hBz hlt
  go_loopg [4, 25] t.length (fun kq v4 v25 wr => ∃ i : Nat, i ≤ t.length ∧ v25 = .int .i64 (i : Int) ∧ Hid (kq = t.length - i ∧ Kd.R (Kd.int .i64) 3 wr Bz (fun _ => True) v4 ((t.take i).filter (fun x => !a.any (usesW x))) ∧ Below w2.heap.size w2 wr))
  case atStart => exact ⟨0, Nat.zero_le _, rfl, rfl, Kd.R_nil _ _ _ _ _, Below.refl _ _⟩
  case round =>
   obtain ⟨i, hi, rfl, HI⟩ := hrel
   by_cases hlt : i < t.length
   ·have q1 : decide ((i : Int) < (t.length : Int)) = true := decide_eq_true (by omega)
    obtain ⟨hkq, hr4, hbw⟩ := HI.out
    obtain ⟨A4, c4, rfl⟩ := Kd.R_slice hr4
    obtain ⟨X, hX⟩ : ∃ X, X = (t.take i).filter (fun x => !a.any (usesW x)) := ⟨_, rfl⟩
    rw [← hX] at hr4 ⊢
    have hXl : X.length ≤ 1000000 := by
     rw [hX]
     refine Nat.le_trans (List.length_filter_le _ _) ?_
     rw [List.length_take]; have := HG.out.2; omega
    obtain ⟨ad, hAd, hx⟩ := Kd.at_int (Kd.C_below XT.out hbw) (i : Int) (by omega) (by omega)
    subst hAd
    obtain ⟨kk, hkk⟩ : ∃ kk, kk = t[i] := ⟨_, rfl⟩
    rw [rd_nat _ i hlt, ← hkk, Int.toNat_natCast] at hx
    have hkm : kk ∈ t := by rw [hkk]; exact List.getElem_mem hlt
    obtain ⟨b, hb⟩ : ∃ b, b = a.any (usesW kk) := ⟨_, rfl⟩
    have hcall := containsUsed_calls wr.heap.size kk A3 c3 a (wr.alloc (.cells #[.int .i64 kk] 3)) (blk_new wr _) (Kd.C_alloc (Kd.C_below Y2.out hbw) _) (fun way hw => HG.out.1 kk hkm way hw) b hb
    have hnext : (t.take (i + 1)).filter (fun x => !a.any (usesW x)) = if b = true then X else X ++ [kk] := by
     rw [List.take_succ_eq_append_getElem hlt, List.filter_append, ← hX, ← hkk, hb]
     by_cases hc : a.any (usesW kk) = true
     ·rw [if_pos hc]; simp [hc]
     ·rw [if_neg hc]; simp [hc]
    have hsz : Bz ≤ wr.heap.size := by rw [HBZ.out]; exact hbw.size
    have HCALL := Lib.hid hcall
    have HNEXT := Lib.hid hnext
    have HR4 := Lib.hid hr4
    have HBW := Lib.hid hbw
    have HXL := Lib.hid hXl
    have HSZ := Lib.hid hsz
    clear hcall hnext hr4 hbw hXl hsz hX hkk hkm hb
    cases b with
    | true =>
     go_wp2_with (go_at_call 99; refine HCALL.out.mono ?_; rintro e w' ⟨rfl, hb'⟩; have HB' := Lib.hid hb'; clear hb')
     go_roundg (t.length - (i + 1))
     case measure => have := HI.out.1; omega
     case rel =>
      have hb3 := (below_alloc (Below.refl wr.heap.size wr) (.cells #[.int .i64 kk] 3)).trans (HB'.out.mono (by simp))
      exact ⟨i + 1, by omega, by go_num, rfl, by rw [HNEXT.out, if_pos (by trivial)]; exact Kd.R_below HR4.out hb3, HBW.out.trans (hb3.mono HBW.out.size)⟩
    | false =>
     go_wp2_with (first | (go_at_call 99; refine HCALL.out.mono ?_; rintro e w' ⟨rfl, hb'⟩; have hb3 := (below_alloc (Below.refl wr.heap.size wr) (.cells #[.int .i64 kk] 3)).trans (hb'.mono (by simp)); have kb := (hb'.block wr.heap.size (by simp)).trans (blk_new wr _); have KB := Lib.hid kb; have HB3 := Lib.hid hb3; have cb : w'.cell? ⟨wr.heap.size, 0, none⟩ = some (.int .i64 kk) := (kC KB.out 0).trans rfl; clear hb' hb3 kb) | ((with_reducible refine gate_builtin (b := .append) (xs := #[.tmp 33, .tmp 35]) rfl ?_); at_builtin; refine Kd.R_append (Kd.int .i64) (w0 := w2) Bz rfl (.tmp 33) (.tmp 35) 25 3 (.int .i64 0) 8 rfl Try.underlying25 info3 rfl (by decide) (by omega) (.slice A4 X.length c4) X kk [.int .i64 kk] (fun _ => True) (fun _ => False) rfl rfl ?aP (fun _ hk => hk.elim) ?aF ?aO ?aB ?aS ?aL ?_; (case aP => exact rfl); (case aF => exact (fun _ _ => trivial)); (case aO => exact Kd.R_below HR4.out HB3.out); (case aB => rw [HBZ.out]; exact HBW.out.trans (HB3.out.mono HBW.out.size)); (case aS => exact Nat.le_trans HSZ.out HB3.out.size); (case aL => have := HXL.out; omega); intro v1 w5 hr5 hb5 hg5 hat5; have R5 := Lib.hid hr5; have B5 := Lib.hid hb5; clear hr5 hb5 hg5 hat5))
     go_roundg (t.length - (i + 1))
     case measure => have := HI.out.1; omega
     case rel => exact ⟨i + 1, by omega, by go_num, rfl, by rw [HNEXT.out, if_neg (by simp)]; exact R5.out, by have := B5.out; rw [HBZ.out] at this; exact this⟩
   ·have q1 : decide ((i : Int) < (t.length : Int)) = false := decide_eq_false (by omega)
    have hit : i = t.length := by omega
    subst hit
    obtain ⟨hkq, hr4, hbw⟩ := HI.out
    rw [List.take_length] at hr4
    obtain ⟨A4, c4, rfl⟩ := Kd.R_slice hr4
    have HR4 := Lib.hid hr4
    have HBW := Lib.hid hbw
    clear hr4 hbw hkq
    go_wp2_with fail
    exact bodyPost_ret (v := .tuple #[.slice A4 (t.filter (fun x => !a.any (usesW x))).length c4, .int .i64 e1]) (by simp [results, Try.f55, go_sem]) rfl ⟨_, rfl, Kd.R_lower HR4.out (by rw [HBZ.out]; exact B2.out.size), B2.out.trans (HBW.out.mono B2.out.size)⟩
 ·cases h
def tPath.f (k : Nat) (a0_0 : Int) (l0_1 : List (S37)) (l1 : List Int) (a2 : Int) (a3 : Int) : Option (List Int × Int) := (iConnected.f a0_0 l0_1 l1 a2 a3).bind fun bt622 => (if bt622.2 = 0 then (if bt622.1 = true then ((tTree.f k a0_0 l0_1 l1).bind fun bt624 => (if 0 ≤ (l0_1.length : Int) then (if ((l0_1.length : Int) : Int).toNat ≤ 35184372088832 then ((twalk.f k a0_0 l0_1 bt624.1 a2 a3 (List.replicate ((l0_1.length : Int) : Int).toNat 0)).bind fun bt631 => (some (bt631.2, 0))) else (none)) else (none))) else (some (([] : List Int), 8))) else (some (([] : List Int), bt622.2)))
set_option maxHeartbeats 8000000 in
set_option maxRecDepth 100000 in
theorem tPath.calls (k : Nat) (a0_0 : Int) (A0_1 : Option Addr) (c0_1 : Nat) (l0_1 : List (S37)) (A1 : Option Addr) (c1 : Nat) (l1 : List Int) (a2 : Int) (a3 : Int) (r1 : List Int) (r2 : Int) (w : World) (hr0_1 : Kd.C k37 w A0_1 l0_1.length l0_1) (hc0_1 : l0_1.length ≤ c0_1) (hr1 : Kd.C (Kd.int .i64) w A1 l1.length l1) (hc1 : l1.length ≤ c1) (h : tPath.f k a0_0 l0_1 l1 a2 a3 = some (r1, r2)) :
  Calls Try.prog 62 #[.agg #[.int .i64 a0_0, .slice A0_1 l0_1.length c0_1], .slice A1 l1.length c1, .int .i64 a2, .int .i64 a3] w fun e w' => ∃ v0_ : Value, e = .returned (.tuple #[v0_, .int .i64 r2]) ∧ Kd.R (Kd.int .i64) 3 w' w.heap.size (fun _ => True) v0_ r1 ∧ Below w.heap.size w w' := by
 have hu24 := Try.underlying24
 have HR0_1 := Z0.mk hr0_1
 have HC0_1 := Z0.mk hc0_1
 clear hr0_1 hc0_1
 have HR1 := Z0.mk hr1
 have HC1 := Z0.mk hc1
 clear hr1 hc1
 have HB := Z0.mk (Below.refl w.heap.size w)
 have H : ((iConnected.f a0_0 l0_1 l1 a2 a3).bind fun bt622 => (if bt622.2 = 0 then (if bt622.1 = true then ((tTree.f k a0_0 l0_1 l1).bind fun bt624 => (if 0 ≤ (l0_1.length : Int) then (if ((l0_1.length : Int) : Int).toNat ≤ 35184372088832 then ((twalk.f k a0_0 l0_1 bt624.1 a2 a3 (List.replicate ((l0_1.length : Int) : Int).toNat 0)).bind fun bt631 => (some (bt631.2, 0))) else (none)) else (none))) else (some (([] : List Int), 8))) else (some (([] : List Int), bt622.2)))) = some (r1, r2) := h
 clear h
 replace H := Option.bind_eq_some_iff.mp H
 obtain ⟨⟨t622, t623⟩, A50, H⟩ := H
 replace H : (if t623 = 0 then (if t622 = true then ((tTree.f k a0_0 l0_1 l1).bind fun bt624 => (if 0 ≤ (l0_1.length : Int) then (if ((l0_1.length : Int) : Int).toNat ≤ 35184372088832 then ((twalk.f k a0_0 l0_1 bt624.1 a2 a3 (List.replicate ((l0_1.length : Int) : Int).toNat 0)).bind fun bt631 => (some (bt631.2, 0))) else (none)) else (none))) else (some (([] : List Int), 8))) else (some (([] : List Int), t623))) = some (r1, r2) := H
 have A5 := Z0.mk A50
 clear A50
 by_cases c6 : t623 = 0
 ·rw [if_pos c6] at H
  have c6b0 : (t623 == 0) = true := beq_iff_eq.mpr c6
  have c6b1 : (t623 != 0) = false := bne_eq_false_iff_eq.mpr c6
  clear c6
  by_cases c7 : t622 = true
  ·subst c7
   have H1 : ((tTree.f k a0_0 l0_1 l1).bind fun bt624 => (if 0 ≤ (l0_1.length : Int) then (if ((l0_1.length : Int) : Int).toNat ≤ 35184372088832 then ((twalk.f k a0_0 l0_1 bt624.1 a2 a3 (List.replicate ((l0_1.length : Int) : Int).toNat 0)).bind fun bt631 => (some (bt631.2, 0))) else (none)) else (none))) = some (r1, r2) := by rw [if_pos rfl] at H; exact H
   clear H
   have H := H1
   clear H1
   replace H := Option.bind_eq_some_iff.mp H
   obtain ⟨⟨t624, t627⟩, A80, H⟩ := H
   replace H : (if 0 ≤ (l0_1.length : Int) then (if ((l0_1.length : Int) : Int).toNat ≤ 35184372088832 then ((twalk.f k a0_0 l0_1 t624 a2 a3 (List.replicate ((l0_1.length : Int) : Int).toNat 0)).bind fun bt631 => (some (bt631.2, 0))) else (none)) else (none)) = some (r1, r2) := H
   have A8 := Z0.mk A80
   clear A80
   by_cases c9 : 0 ≤ (l0_1.length : Int)
   ·rw [if_pos c9] at H
    have c9b0 := eq_true c9
    have c9b1 : decide (0 ≤ (l0_1.length : Int)) = true := decide_eq_true c9
    clear c9
    by_cases c10 : ((l0_1.length : Int) : Int).toNat ≤ 35184372088832
    ·rw [if_pos c10] at H
     have c10b0 := eq_true c10
     have c10b1 : decide (((l0_1.length : Int) : Int).toNat ≤ 35184372088832) = true := decide_eq_true c10
     clear c10
     obtain ⟨y628, hy628⟩ : ∃ y_ : List Int, y_ = (List.replicate ((l0_1.length : Int) : Int).toNat 0) := ⟨_, rfl⟩
     replace H : ((twalk.f k a0_0 l0_1 t624 a2 a3 y628).bind fun bt631 => (some (bt631.2, 0))) = some (r1, r2) := by first | (rw [hy628]; with_reducible exact H) | (have H2_ := (Option.bind_some _ _).symm.trans H; rw [hy628]; with_reducible exact H2_) | (have H2_ := (Option.bind_some _ _).symm.trans H; with_reducible exact H2_) | with_reducible exact H | (rw [hy628]; exact H) | exact H
     have Ny628 := Z0.mk hy628
     clear hy628
     replace H := Option.bind_eq_some_iff.mp H
     obtain ⟨⟨t631, t632⟩, A110, H⟩ := H
     replace H : (some (t632, 0)) = some (r1, r2) := H
     have A11 := Z0.mk A110
     clear A110
     simp only [Option.some.injEq, Prod.mk.injEq] at H
     obtain ⟨rfl, rfl⟩ := H
     go_enter Try.func62, Try.ntmps62
     go_wp2_with (first | ((with_reducible refine gate_dst (N := 4) rfl ?_); refine bE ?hg (N := 4) ?hd (cs := #[.int .i64 a0_0, .slice A0_1 l0_1.length c0_1]) (t := 24) ?hr ?_; (case hd => rfl); (case hg => rfl); (case hr => first | (go_simp; done) | (go_simp; rfl)); intro gb621 hg w12 hbox hb; have n0_ := Z0.mk (bT (by repeat (first | (with_reducible first | exact HB.out | apply below_alloc | apply bN | apply bD) | exact HB.out)) hb); have n1_ := Z0.mk (hbox); have n2_ := Z0.mk ((by rw [hg]; exact (bZ (by repeat (first | (with_reducible first | exact HB.out | apply below_alloc | apply bN | apply bD) | exact HB.out))) : w.heap.size ≤ gb621)); have n3_ := Z0.mk ((by rw [hg]; exact (bZ (by repeat (first | (with_reducible first | exact HB.out | apply below_alloc | apply bN | apply bD) | exact HB.out))) : w.heap.size ≤ gb621)); clear HB; have HB := n0_; have BK621 := n1_; have GW621 := n2_; have GE621 := n3_; clear n0_ n1_ n2_ n3_; clear hb hbox hg; have hcz13_0 : w12.cell? ⟨gb621, 0, none⟩ = some (.int .i64 a0_0) := (kC BK621.out 0).trans rfl; have hcz13_1 : w12.cell? ⟨gb621, 1, none⟩ = some (.slice A0_1 l0_1.length c0_1) := (kC BK621.out 1).trans rfl; have hfz13_0 := kF BK621.out 0; have hfz13_1 := kF BK621.out 1) | ((with_reducible refine gC (f := 33) rfl ?_); refine gL (some 20) rfl rfl Try.func33 (by kernel_rfl) rfl #[.agg #[.int .i64 a0_0, .slice A0_1 l0_1.length c0_1], .slice A1 l1.length c1, .int .i64 a2, .int .i64 a3] rfl (by (try simp only [List.map_toArray, List.map_cons, List.map_nil]); first | done | rfl | (simp only [List.length_drop, List.length_take]; rfl)) ?_; (with_reducible refine (iConnected.calls a0_0 _ _ l0_1 _ _ l1 a2 a3 true t623 _ ?side1 ?side2 ?side3 ?side4 A5.out).mono ?_); (case side1 => repeat (first | exact (Kd.C_below HR0_1.out HB.out) | (with_reducible refine Kd.C_alloc ?_ _) | (with_reducible refine Kd.C_drewN ?_ _) | (with_reducible refine Kd.C_drew ?_))); (case side2 => exact HC0_1.out); (case side3 => repeat (first | exact (Kd.C_below HR1.out HB.out) | (with_reducible refine Kd.C_alloc ?_ _) | (with_reducible refine Kd.C_drewN ?_ _) | (with_reducible refine Kd.C_drew ?_))); (case side4 => exact HC1.out); rintro e w14 ⟨rfl, hb⟩; refine ⟨_, rfl, ?_⟩; have n0_ := Z0.mk (kB (g := gb621) (o := .cells #[.int .i64 a0_0, .slice A0_1 l0_1.length c0_1] 24 (0, 0)) (by (with_reducible repeat (first | refine kN ?_ _ | refine kD ?_ | refine kA ?_ _)); exact BK621.out) hb); have n1_ := Z0.mk (bT (by repeat (first | (with_reducible first | exact HB.out | apply below_alloc | apply bN | apply bD | refine bS ?_ GE621.out) | exact HB.out)) hb); clear BK621; clear HB; have BK621 := n0_; have HB := n1_; clear n0_ n1_; (try clear hb); (try clear hb2); (try clear hk); (try clear hi); have hcz15_0 : w14.cell? ⟨gb621, 0, none⟩ = some (.int .i64 a0_0) := (kC BK621.out 0).trans rfl; have hcz15_1 : w14.cell? ⟨gb621, 1, none⟩ = some (.slice A0_1 l0_1.length c0_1) := (kC BK621.out 1).trans rfl; have hfz15_0 := kF BK621.out 0; have hfz15_1 := kF BK621.out 1) | ((with_reducible refine gC (f := 56) rfl ?_); refine gL (some 33) rfl rfl Try.func56 (by kernel_rfl) rfl #[.agg #[.int .i64 a0_0, .slice A0_1 l0_1.length c0_1], .slice A1 l1.length c1] rfl (by (try simp only [List.map_toArray, List.map_cons, List.map_nil]); first | done | rfl | (simp only [List.length_drop, List.length_take]; rfl)) ?_; (with_reducible refine (tTree.calls k a0_0 _ _ l0_1 _ _ l1 t624 t627 _ ?side1 ?side2 ?side3 ?side4 A8.out).mono ?_); (case side1 => repeat (first | exact (Kd.C_below HR0_1.out HB.out) | (with_reducible refine Kd.C_alloc ?_ _) | (with_reducible refine Kd.C_drewN ?_ _) | (with_reducible refine Kd.C_drew ?_))); (case side2 => exact HC0_1.out); (case side3 => repeat (first | exact (Kd.C_below HR1.out HB.out) | (with_reducible refine Kd.C_alloc ?_ _) | (with_reducible refine Kd.C_drewN ?_ _) | (with_reducible refine Kd.C_drew ?_))); (case side4 => exact HC1.out); rintro e w16 ⟨v625, rfl, ho0, hb⟩; refine ⟨_, rfl, ?_⟩; have n0_ := Z0.mk (Kd.R_lower ho0 (bZ (by repeat (first | (with_reducible first | exact HB.out | apply below_alloc | apply bN | apply bD | refine bS ?_ GE621.out) | exact HB.out)))); have n1_ := Z0.mk (kB (g := gb621) (o := .cells #[.int .i64 a0_0, .slice A0_1 l0_1.length c0_1] 24 (0, 0)) (by (with_reducible repeat (first | refine kN ?_ _ | refine kD ?_ | refine kA ?_ _)); exact BK621.out) hb); have n2_ := Z0.mk (bT (by repeat (first | (with_reducible first | exact HB.out | apply below_alloc | apply bN | apply bD | refine bS ?_ GE621.out) | exact HB.out)) hb); clear BK621; clear HB; have HO626 := n0_; have BK621 := n1_; have HB := n2_; clear n0_ n1_ n2_; (try clear hb); (try clear hb2); (try clear hk); (try clear hi); (try clear ho0); have hcz17_0 : w16.cell? ⟨gb621, 0, none⟩ = some (.int .i64 a0_0) := (kC BK621.out 0).trans rfl; have hcz17_1 : w16.cell? ⟨gb621, 1, none⟩ = some (.slice A0_1 l0_1.length c0_1) := (kC BK621.out 1).trans rfl; have hfz17_0 := kF BK621.out 0; have hfz17_1 := kF BK621.out 1) | ((with_reducible refine gate_dst (N := 39) rfl ?_); refine Kd.R_make (Kd.int .i64) _ 3 rfl (N := 39) rfl 25 _ _ rfl (l0_1.length : Int) rfl rfl Try.underlying25 (.int .i64 0) 8 info3 rfl (by decide) (by omega) 0 (ok := fun _ => True) (okp := fun _ => True) rfl (fun _ hk => hk) trivial (of_decide_eq_true (by first | (with_reducible assumption) | assumption)) (Nat.le_trans (Nat.mul_le_mul_right _ (of_decide_eq_true (by first | (with_reducible assumption) | assumption) : (l0_1.length : Int).toNat ≤ 35184372088832)) (by omega)) (Below.refl _ _) (Nat.le_refl _) ?_; intro v629 w18 ho19 hb hg_ hnew_; clear hg_ hnew_; (first | rw [← Ny628.out] at ho19 | (simp only [Int.reduceToNat] at ho19; rw [← Ny628.out] at ho19)); have n0_ := Z0.mk (Kd.R_elder' (by (with_reducible repeat (first | apply Kd.R_alloc | apply Kd.R_drewN | apply Kd.R_drew)); exact HO626.out) (Kd.R_base ho19) hb); have n1_ := Z0.mk (Kd.R_lower (Kd.R_new' ho19 (Kd.R_lt (by (with_reducible repeat (first | apply Kd.R_alloc | apply Kd.R_drewN | apply Kd.R_drew)); exact HO626.out))) (bZ (by repeat (first | (with_reducible first | exact HB.out | apply below_alloc | apply bN | apply bD | refine bS ?_ GE621.out) | exact HB.out)))); have n2_ := Z0.mk (kB (g := gb621) (o := .cells #[.int .i64 a0_0, .slice A0_1 l0_1.length c0_1] 24 (0, 0)) (by (with_reducible repeat (first | refine kN ?_ _ | refine kD ?_ | refine kA ?_ _)); exact BK621.out) hb); have n3_ := Z0.mk (bT (by repeat (first | (with_reducible first | exact HB.out | apply below_alloc | apply bN | apply bD | refine bS ?_ GE621.out) | exact HB.out)) hb); clear HO626; clear BK621; clear HB; have HO626 := n0_; have HO630 := n1_; have BK621 := n2_; have HB := n3_; clear n0_ n1_ n2_ n3_; clear hb ho19; have hcz20_0 : w18.cell? ⟨gb621, 0, none⟩ = some (.int .i64 a0_0) := (kC BK621.out 0).trans rfl; have hcz20_1 : w18.cell? ⟨gb621, 1, none⟩ = some (.slice A0_1 l0_1.length c0_1) := (kC BK621.out 1).trans rfl; have hfz20_0 := kF BK621.out 0; have hfz20_1 := kF BK621.out 1; obtain ⟨Ao21, co21, eo21⟩ := Kd.R_slice HO626.out; subst eo21; obtain ⟨Ao22, co22, eo22⟩ := Kd.R_slice HO630.out; subst eo22) | ((with_reducible refine gC (f := 103) rfl ?_); refine gL (some 45) rfl rfl Try.func103 (by kernel_rfl) rfl #[.agg #[.int .i64 a0_0, .slice A0_1 l0_1.length c0_1], .slice Ao21 t624.length co21, .int .i64 a2, .int .i64 a3, .slice Ao22 y628.length co22] rfl (by (try simp only [List.map_toArray, List.map_cons, List.map_nil]); first | done | rfl | (simp only [List.length_drop, List.length_take]; rfl)) ?_; (with_reducible refine (twalk.calls k a0_0 _ _ l0_1 _ _ t624 a2 a3 (fun k_ => some k_ = (.slice Ao22 y628.length co22 : Value).ownBlock) (.slice Ao22 y628.length co22) y628 t631 t632 w _ ?side1 ?side2 ?side3 ?side4 ?side5 ?side6 A11.out).mono ?_); (case side1 => repeat (first | (with_reducible first | exact HB.out | apply below_alloc | apply bN | apply bD | refine bS ?_ GE621.out) | exact HB.out)); (case side2 => exact Kd.C_kept_came k37_heap HR0_1.out (by repeat (first | (with_reducible first | exact HB.out | apply below_alloc | apply bN | apply bD | refine bS ?_ GE621.out) | exact HB.out)) (fun k_ hs_ => (fun e_ => Kd.R_base HO630.out k_ e_.symm) hs_)); (case side3 => exact HC0_1.out); (case side4 => exact Kd.C_kept_own (HO626.out) (fun k_ hk_ hs_ => (hk_.2) hs_)); (case side5 => exact (Kd.R_reads' HO626.out).2.1); (case side6 => exact Kd.R_tight rfl HO630.out); rintro e w23 ⟨rfl, hy0, hb, hkp⟩; refine ⟨_, rfl, ?_⟩; have n0_ := Z0.mk (blk_kept (by (with_reducible repeat (first | refine kN ?_ _ | refine kD ?_ | refine kA ?_ _)); exact BK621.out) hkp (fun hs_ => (fun e_ => (Kd.R_ne HO630.out BK621.out (by decide)) e_) hs_)); have n1_ := Z0.mk (Kd.R_mono (ok' := fun k_ => some k_ ≠ (.slice Ao22 y628.length co22 : Value).ownBlock) (Kd.R_keptB (HO626.out) hkp (fun k_ hk_ hs_ => (hk_.2) hs_)) (fun k_ hk_ => hk_.1.2)); have n2_ := Z0.mk (Kd.R_reok rfl hy0 (fun k_ e_ => HO630.out.1 k_ e_)); have n3_ := Z0.mk (hb); clear BK621; clear HO626; clear HO630; clear HB; have BK621 := n0_; have HO626 := n1_; have HO630 := n2_; have HB := n3_; clear n0_ n1_ n2_ n3_; (try clear hb); (try clear hkp); (try clear hy0)))
     go_ret2
     exact ⟨_, by first | rfl | (simp [errW_none, errW_some] <;> rfl) | (simp [*, errW_none, errW_some] <;> rfl), by (with_reducible repeat (first | apply Kd.R_alloc | apply Kd.R_drewN | apply Kd.R_drew)); exact Kd.R_mono HO630.out (fun _ hk => trivial), by repeat (first | (with_reducible first | exact HB.out | apply below_alloc | apply bN | apply bD | refine bS ?_ GE621.out) | exact HB.out)⟩
    ·rw [if_neg c10] at H
     exact absurd H (by simp)
   ·rw [if_neg c9] at H
    exact absurd H (by simp)
  ·replace c7 := Bool.eq_false_iff.mpr c7
   subst c7
   have H1 : (some (([] : List Int), 8)) = some (r1, r2) := by rw [if_neg (show ¬ (false = true) by decide)] at H; exact H
   clear H
   have H := H1
   clear H1
   simp only [Option.some.injEq, Prod.mk.injEq] at H
   obtain ⟨rfl, rfl⟩ := H
   go_enter Try.func62, Try.ntmps62
   go_wp2_with (first | ((with_reducible refine gate_dst (N := 4) rfl ?_); refine bE ?hg (N := 4) ?hd (cs := #[.int .i64 a0_0, .slice A0_1 l0_1.length c0_1]) (t := 24) ?hr ?_; (case hd => rfl); (case hg => rfl); (case hr => first | (go_simp; done) | (go_simp; rfl)); intro gb621 hg w24 hbox hb; have n0_ := Z0.mk (bT (by repeat (first | (with_reducible first | exact HB.out | apply below_alloc | apply bN | apply bD) | exact HB.out)) hb); have n1_ := Z0.mk (hbox); have n2_ := Z0.mk ((by rw [hg]; exact (bZ (by repeat (first | (with_reducible first | exact HB.out | apply below_alloc | apply bN | apply bD) | exact HB.out))) : w.heap.size ≤ gb621)); have n3_ := Z0.mk ((by rw [hg]; exact (bZ (by repeat (first | (with_reducible first | exact HB.out | apply below_alloc | apply bN | apply bD) | exact HB.out))) : w.heap.size ≤ gb621)); clear HB; have HB := n0_; have BK621 := n1_; have GW621 := n2_; have GE621 := n3_; clear n0_ n1_ n2_ n3_; clear hb hbox hg; have hcz25_0 : w24.cell? ⟨gb621, 0, none⟩ = some (.int .i64 a0_0) := (kC BK621.out 0).trans rfl; have hcz25_1 : w24.cell? ⟨gb621, 1, none⟩ = some (.slice A0_1 l0_1.length c0_1) := (kC BK621.out 1).trans rfl; have hfz25_0 := kF BK621.out 0; have hfz25_1 := kF BK621.out 1) | ((with_reducible refine gC (f := 33) rfl ?_); refine gL (some 20) rfl rfl Try.func33 (by kernel_rfl) rfl #[.agg #[.int .i64 a0_0, .slice A0_1 l0_1.length c0_1], .slice A1 l1.length c1, .int .i64 a2, .int .i64 a3] rfl (by (try simp only [List.map_toArray, List.map_cons, List.map_nil]); first | done | rfl | (simp only [List.length_drop, List.length_take]; rfl)) ?_; (with_reducible refine (iConnected.calls a0_0 _ _ l0_1 _ _ l1 a2 a3 false t623 _ ?side1 ?side2 ?side3 ?side4 A5.out).mono ?_); (case side1 => repeat (first | exact (Kd.C_below HR0_1.out HB.out) | (with_reducible refine Kd.C_alloc ?_ _) | (with_reducible refine Kd.C_drewN ?_ _) | (with_reducible refine Kd.C_drew ?_))); (case side2 => exact HC0_1.out); (case side3 => repeat (first | exact (Kd.C_below HR1.out HB.out) | (with_reducible refine Kd.C_alloc ?_ _) | (with_reducible refine Kd.C_drewN ?_ _) | (with_reducible refine Kd.C_drew ?_))); (case side4 => exact HC1.out); rintro e w26 ⟨rfl, hb⟩; refine ⟨_, rfl, ?_⟩; have n0_ := Z0.mk (kB (g := gb621) (o := .cells #[.int .i64 a0_0, .slice A0_1 l0_1.length c0_1] 24 (0, 0)) (by (with_reducible repeat (first | refine kN ?_ _ | refine kD ?_ | refine kA ?_ _)); exact BK621.out) hb); have n1_ := Z0.mk (bT (by repeat (first | (with_reducible first | exact HB.out | apply below_alloc | apply bN | apply bD | refine bS ?_ GE621.out) | exact HB.out)) hb); clear BK621; clear HB; have BK621 := n0_; have HB := n1_; clear n0_ n1_; (try clear hb); (try clear hb2); (try clear hk); (try clear hi)))
   go_ret2
   exact ⟨_, by first | rfl | (simp [errW_none, errW_some] <;> rfl) | (simp [*, errW_none, errW_some] <;> rfl), by first | exact Kd.R_nil _ _ _ _ _ | exact Kd.N_nil _ _ _ _ _ | exact Kd.V_nil _ _ _ _ _ | exact Kd.Q_nil _ _ _ _ _ | exact Kd.S_nil _ _ _ _ _, by repeat (first | (with_reducible first | exact HB.out | apply below_alloc | apply bN | apply bD | refine bS ?_ GE621.out) | exact HB.out)⟩
 ·rw [if_neg c6] at H
  have c6b0 : (t623 == 0) = false := beq_eq_false_iff_ne.mpr c6
  have c6b1 : (t623 != 0) = true := bne_iff_ne.mpr c6
  simp only [Option.some.injEq, Prod.mk.injEq] at H
  obtain ⟨rfl, rfl⟩ := H
  go_enter Try.func62, Try.ntmps62
  go_wp2_with (first | ((with_reducible refine gate_dst (N := 4) rfl ?_); refine bE ?hg (N := 4) ?hd (cs := #[.int .i64 a0_0, .slice A0_1 l0_1.length c0_1]) (t := 24) ?hr ?_; (case hd => rfl); (case hg => rfl); (case hr => first | (go_simp; done) | (go_simp; rfl)); intro gb621 hg w27 hbox hb; have n0_ := Z0.mk (bT (by repeat (first | (with_reducible first | exact HB.out | apply below_alloc | apply bN | apply bD) | exact HB.out)) hb); have n1_ := Z0.mk (hbox); have n2_ := Z0.mk ((by rw [hg]; exact (bZ (by repeat (first | (with_reducible first | exact HB.out | apply below_alloc | apply bN | apply bD) | exact HB.out))) : w.heap.size ≤ gb621)); have n3_ := Z0.mk ((by rw [hg]; exact (bZ (by repeat (first | (with_reducible first | exact HB.out | apply below_alloc | apply bN | apply bD) | exact HB.out))) : w.heap.size ≤ gb621)); clear HB; have HB := n0_; have BK621 := n1_; have GW621 := n2_; have GE621 := n3_; clear n0_ n1_ n2_ n3_; clear hb hbox hg; have hcz28_0 : w27.cell? ⟨gb621, 0, none⟩ = some (.int .i64 a0_0) := (kC BK621.out 0).trans rfl; have hcz28_1 : w27.cell? ⟨gb621, 1, none⟩ = some (.slice A0_1 l0_1.length c0_1) := (kC BK621.out 1).trans rfl; have hfz28_0 := kF BK621.out 0; have hfz28_1 := kF BK621.out 1) | ((with_reducible refine gC (f := 33) rfl ?_); refine gL (some 20) rfl rfl Try.func33 (by kernel_rfl) rfl #[.agg #[.int .i64 a0_0, .slice A0_1 l0_1.length c0_1], .slice A1 l1.length c1, .int .i64 a2, .int .i64 a3] rfl (by (try simp only [List.map_toArray, List.map_cons, List.map_nil]); first | done | rfl | (simp only [List.length_drop, List.length_take]; rfl)) ?_; (with_reducible refine (iConnected.calls a0_0 _ _ l0_1 _ _ l1 a2 a3 t622 t623 _ ?side1 ?side2 ?side3 ?side4 A5.out).mono ?_); (case side1 => repeat (first | exact (Kd.C_below HR0_1.out HB.out) | (with_reducible refine Kd.C_alloc ?_ _) | (with_reducible refine Kd.C_drewN ?_ _) | (with_reducible refine Kd.C_drew ?_))); (case side2 => exact HC0_1.out); (case side3 => repeat (first | exact (Kd.C_below HR1.out HB.out) | (with_reducible refine Kd.C_alloc ?_ _) | (with_reducible refine Kd.C_drewN ?_ _) | (with_reducible refine Kd.C_drew ?_))); (case side4 => exact HC1.out); rintro e w29 ⟨rfl, hb⟩; refine ⟨_, rfl, ?_⟩; have n0_ := Z0.mk (kB (g := gb621) (o := .cells #[.int .i64 a0_0, .slice A0_1 l0_1.length c0_1] 24 (0, 0)) (by (with_reducible repeat (first | refine kN ?_ _ | refine kD ?_ | refine kA ?_ _)); exact BK621.out) hb); have n1_ := Z0.mk (bT (by repeat (first | (with_reducible first | exact HB.out | apply below_alloc | apply bN | apply bD | refine bS ?_ GE621.out) | exact HB.out)) hb); clear BK621; clear HB; have BK621 := n0_; have HB := n1_; clear n0_ n1_; (try clear hb); (try clear hb2); (try clear hk); (try clear hi)))
  go_ret2
  exact ⟨_, by first | rfl | (simp [errW_none, errW_some] <;> rfl) | (simp [*, errW_none, errW_some] <;> rfl), by first | exact Kd.R_nil _ _ _ _ _ | exact Kd.N_nil _ _ _ _ _ | exact Kd.V_nil _ _ _ _ _ | exact Kd.Q_nil _ _ _ _ _ | exact Kd.S_nil _ _ _ _ _, by repeat (first | (with_reducible first | exact HB.out | apply below_alloc | apply bN | apply bD | refine bS ?_ GE621.out) | exact HB.out)⟩
def three16 : List S37 := [(⟨0, 1, 10, 100⟩ : S37), (⟨1, 2, 5, 50⟩ : S37), (⟨0, 2, 10, 70⟩ : S37)]
theorem a16_three : ql16three.f = some (3, three16) := rfl
theorem a16_tree : tTree.f 60 3 three16 [] = some ([0, 1], 0) := by kernel_rfl
theorem a16_br : tBridges.f 60 3 three16 [] = some ([], 0) := by kernel_rfl
theorem a16_path : tPath.f 60 3 three16 [] 2 0 = some ([-1, -1, 0], 0) := by kernel_rfl
theorem a16_cyc : tCycles.f 60 3 three16 [] = some ([[-1, -1, 1]], 0) := by kernel_rfl
theorem a16_br2 : tBridges.f 60 3 three16 [2] = some ([0, 1], 0) := by kernel_rfl
theorem a16_cyc2 : tCycles.f 60 3 three16 [2] = some ([], 0) := by kernel_rfl
theorem a16_i1 : qr14Ints.f 20 [0, 1] [0, 1] = some true := by kernel_rfl
theorem a16_i2 : qr14Ints.f 20 [-1, -1, 0] [-1, -1, 0] = some true := by kernel_rfl
theorem a16_rows : qr15Rows.f 20 [[-1, -1, 1]] [[-1, -1, 1]] = some true := by kernel_rfl
theorem C_row1S (W : World) (s : Nat) (hs : W.heap.size = s) (xs : List Int) (h : xs.length ≤ 9223372036854775807) : Kd.C (Kd.slice 3 (Kd.int .i64)) ((W.alloc (.cells (xs.map (Value.int .i64)).toArray 3)).alloc (.cells #[.slice (some ⟨s, 0, none⟩) xs.length xs.length] 25)) (some ⟨s + 1, 0, none⟩) 1 [xs] := by
 have hC := Kd.C_alloc (C_litS W s hs xs 3 h) (.cells #[.slice (some ⟨s, 0, none⟩) xs.length xs.length] 25)
 have hb := blk_newS (W.alloc (.cells (xs.map (Value.int .i64)).toArray 3)) (s + 1) (by simp [hs]) (.cells #[.slice (some ⟨s, 0, none⟩) xs.length xs.length] 25)
 refine ⟨rfl, by decide, fun _ => ⟨_, rfl, fun j p hj => ?_⟩⟩
 have hj0 : j = 0 := by
  rcases Nat.lt_or_ge j 1 with h | h
  ·omega
  ·rw [List.getElem?_eq_none (by simpa using h)] at hj; cases hj
 subst hj0
 cases hj
 refine ⟨[.slice (some ⟨s, 0, none⟩) xs.length xs.length], rfl, ⟨_, _, rfl, Nat.le_refl _, hC⟩, fun i u hu => ?_⟩
 have hi0 : i = 0 := by
  rcases Nat.lt_or_ge i 1 with h | h
  ·omega
  ·rw [List.getElem?_eq_none (by simpa using h)] at hu; cases hu
 subst hi0
 have e := kC hb 0
 rw [show ((⟨s + 1, 0, none⟩ : Addr).add (0 * (Kd.slice 3 (Kd.int .i64)).sz + 0)) = ⟨s + 1, 0, none⟩ by simp [Addr.add]]
 rw [e]; exact hu
def ql16awake.f : Option (Bool) := some true
set_option maxRecDepth 100000 in
set_option maxHeartbeats 8000000 in
theorem ql16awake.calls  (r : Bool) (w : World) (h : ql16awake.f  = some r) :
  Calls Try.prog 51 #[] w fun e w' => e = .returned (.bool r) ∧ Below w.heap.size w w' := by
 have hr : true = r := Option.some.inj h
 subst hr
 clear h
 go_enter Try.func51, Try.ntmps51
 go_wp2_with fail
 go_at_call 63
 refine (ql16three.calls  3 three16 _  a16_three).mono ?_
 rintro e w1 ⟨v1, rfl, h1, b1⟩
 obtain ⟨A1, c1, rfl⟩ := Kd.R_slice h1
 obtain ⟨_, hc1, hC1⟩ := Kd.R_reads' h1
 have X1_0 := Lib.hid hC1
 clear h1 hC1
 have d1 := b1
 have B1 := Lib.hid (d1)
 clear d1
 go_wp2_with fail
 go_at_call 56
 refine (tTree.calls 60 3 A1 c1 three16 none 0 [] [0, 1] 0 _ X1_0.out hc1 (Kd.C_nil _ _) (Nat.le_refl _) a16_tree).mono ?_
 rintro e w2 ⟨v2, rfl, h2, b2⟩
 obtain ⟨A2, c2, rfl⟩ := Kd.R_slice h2
 obtain ⟨_, hc2, hC2⟩ := Kd.R_reads' h2
 have X2_0 := Lib.hid hC2
 clear h2 hC2
 have d2 := b2
 have X_2 := Lib.hid (Kd.C_below X1_0.out d2)
 clear X1_0
 have B3 := Lib.hid (B1.out.trans (d2.mono B1.out.size))
 clear d2 B1; clear X_2
 go_wp2_with fail
 go_at_call 63
 refine (ql16three.calls  3 three16 _  a16_three).mono ?_
 rintro e w3 ⟨v3, rfl, h3, b3⟩
 obtain ⟨A3, c3, rfl⟩ := Kd.R_slice h3
 obtain ⟨_, hc3, hC3⟩ := Kd.R_reads' h3
 have X3_0 := Lib.hid hC3
 clear h3 hC3
 have d3 := b3
 have X_4 := Lib.hid (Kd.C_below X2_0.out d3)
 clear X2_0
 have B5 := Lib.hid (B3.out.trans (d3.mono B3.out.size))
 clear d3 B3
 go_wp2_with fail
 go_at_call 55
 refine (tBridges.calls 60 3 A3 c3 three16 none 0 [] [] 0 _ X3_0.out hc3 (Kd.C_nil _ _) (Nat.le_refl _) a16_br).mono ?_
 rintro e w4 ⟨v4, rfl, h4, b4⟩
 obtain ⟨A4, c4, rfl⟩ := Kd.R_slice h4
 obtain ⟨_, hc4, hC4⟩ := Kd.R_reads' h4
 have X4_0 := Lib.hid hC4
 clear h4 hC4
 have d4 := b4
 have X_6 := Lib.hid (Kd.C_below X_4.out d4)
 clear X_4
 have X_7 := Lib.hid (Kd.C_below X3_0.out d4)
 clear X3_0
 have B8 := Lib.hid (B5.out.trans (d4.mono B5.out.size))
 clear d4 B5; clear X_7
 go_wp2_with fail
 go_at_call 63
 refine (ql16three.calls  3 three16 _  a16_three).mono ?_
 rintro e w5 ⟨v5, rfl, h5, b5⟩
 obtain ⟨A5, c5, rfl⟩ := Kd.R_slice h5
 obtain ⟨_, hc5, hC5⟩ := Kd.R_reads' h5
 have X5_0 := Lib.hid hC5
 clear h5 hC5
 have d5 := b5
 have X_9 := Lib.hid (Kd.C_below X_6.out d5)
 clear X_6
 have X_10 := Lib.hid (Kd.C_below X4_0.out d5)
 clear X4_0
 have B11 := Lib.hid (B8.out.trans (d5.mono B8.out.size))
 clear d5 B8
 go_wp2_with fail
 go_at_call 62
 refine (tPath.calls 60 3 A5 c5 three16 none 0 [] 2 0 [-1, -1, 0] 0 _ X5_0.out hc5 (Kd.C_nil _ _) (Nat.le_refl _) a16_path).mono ?_
 rintro e w6 ⟨v6, rfl, h6, b6⟩
 obtain ⟨A6, c6, rfl⟩ := Kd.R_slice h6
 obtain ⟨_, hc6, hC6⟩ := Kd.R_reads' h6
 have X6_0 := Lib.hid hC6
 clear h6 hC6
 have d6 := b6
 have X_12 := Lib.hid (Kd.C_below X_9.out d6)
 clear X_9
 have X_13 := Lib.hid (Kd.C_below X_10.out d6)
 clear X_10
 have X_14 := Lib.hid (Kd.C_below X5_0.out d6)
 clear X5_0
 have B15 := Lib.hid (B11.out.trans (d6.mono B11.out.size))
 clear d6 B11; clear X_14
 go_wp2_with fail
 go_at_call 63
 refine (ql16three.calls  3 three16 _  a16_three).mono ?_
 rintro e w7 ⟨v7, rfl, h7, b7⟩
 obtain ⟨A7, c7, rfl⟩ := Kd.R_slice h7
 obtain ⟨_, hc7, hC7⟩ := Kd.R_reads' h7
 have X7_0 := Lib.hid hC7
 clear h7 hC7
 have d7 := b7
 have X_16 := Lib.hid (Kd.C_below X_12.out d7)
 clear X_12
 have X_17 := Lib.hid (Kd.C_below X_13.out d7)
 clear X_13
 have X_18 := Lib.hid (Kd.C_below X6_0.out d7)
 clear X6_0
 have B19 := Lib.hid (B15.out.trans (d7.mono B15.out.size))
 clear d7 B15
 go_wp2_with fail
 go_at_call 57
 refine (tCycles.calls 60 3 A7 c7 three16 none 0 [] [[-1, -1, 1]] 0 _ X7_0.out hc7 (Kd.C_nil _ _) (Nat.le_refl _) a16_cyc).mono ?_
 rintro e w8 ⟨v8, rfl, g8, b8⟩
 have h8 := Kd.S_R g8
 obtain ⟨A8, c8, rfl⟩ := Kd.R_slice h8
 obtain ⟨_, hc8, hC8⟩ := Kd.R_reads' h8
 have X8_0 := Lib.hid hC8
 clear g8 h8 hC8
 have d8 := b8
 have X_20 := Lib.hid (Kd.C_below X_16.out d8)
 clear X_16
 have X_21 := Lib.hid (Kd.C_below X_17.out d8)
 clear X_17
 have X_22 := Lib.hid (Kd.C_below X_18.out d8)
 clear X_18
 have X_23 := Lib.hid (Kd.C_below X7_0.out d8)
 clear X7_0
 have B24 := Lib.hid (B19.out.trans (d8.mono B19.out.size))
 clear d8 B19; clear X_23
 go_wp2_with fail
 go_at_call 63
 refine (ql16three.calls  3 three16 _  a16_three).mono ?_
 rintro e w9 ⟨v9, rfl, h9, b9⟩
 obtain ⟨A9, c9, rfl⟩ := Kd.R_slice h9
 obtain ⟨_, hc9, hC9⟩ := Kd.R_reads' h9
 have X9_0 := Lib.hid hC9
 clear h9 hC9
 have d9 := b9
 have X_25 := Lib.hid (Kd.C_below X_20.out d9)
 clear X_20
 have X_26 := Lib.hid (Kd.C_below X_21.out d9)
 clear X_21
 have X_27 := Lib.hid (Kd.C_below X_22.out d9)
 clear X_22
 have X_28 := Lib.hid (Kd.C_below X8_0.out d9)
 clear X8_0
 have B29 := Lib.hid (B24.out.trans (d9.mono B24.out.size))
 clear d9 B24
 go_wp2_with fail
 go_at_call 55
 refine (tBridges.calls 60 3 A9 c9 three16 (some ⟨w9.heap.size, 0, none⟩) 1 [2] [0, 1] 0 _ (Kd.C_alloc X9_0.out _) hc9 (C_litS w9 (w9.heap.size) (by simp) [2] 3 (by decide)) (Nat.le_refl _) a16_br2).mono ?_
 rintro e w10 ⟨v10, rfl, h10, b10⟩
 obtain ⟨A10, c10, rfl⟩ := Kd.R_slice h10
 obtain ⟨_, hc10, hC10⟩ := Kd.R_reads' h10
 have X10_0 := Lib.hid hC10
 clear h10 hC10
 have d10 : Below w9.heap.size w9 w10 := (below_alloc (Below.refl w9.heap.size w9) _).trans (b10.mono (by simp <;> omega))
 have X_30 := Lib.hid (Kd.C_below X_25.out d10)
 clear X_25
 have X_31 := Lib.hid (Kd.C_below X_26.out d10)
 clear X_26
 have X_32 := Lib.hid (Kd.C_below X_27.out d10)
 clear X_27
 have X_33 := Lib.hid (Kd.C_below X_28.out d10)
 clear X_28
 have X_34 := Lib.hid (Kd.C_below X9_0.out d10)
 clear X9_0
 have B35 := Lib.hid (B29.out.trans (d10.mono B29.out.size))
 clear d10 B29; clear X_34
 go_wp2_with fail
 go_at_call 63
 refine (ql16three.calls  3 three16 _  a16_three).mono ?_
 rintro e w11 ⟨v11, rfl, h11, b11⟩
 obtain ⟨A11, c11, rfl⟩ := Kd.R_slice h11
 obtain ⟨_, hc11, hC11⟩ := Kd.R_reads' h11
 have X11_0 := Lib.hid hC11
 clear h11 hC11
 have d11 := b11
 have X_36 := Lib.hid (Kd.C_below X_30.out d11)
 clear X_30
 have X_37 := Lib.hid (Kd.C_below X_31.out d11)
 clear X_31
 have X_38 := Lib.hid (Kd.C_below X_32.out d11)
 clear X_32
 have X_39 := Lib.hid (Kd.C_below X_33.out d11)
 clear X_33
 have X_40 := Lib.hid (Kd.C_below X10_0.out d11)
 clear X10_0
 have B41 := Lib.hid (B35.out.trans (d11.mono B35.out.size))
 clear d11 B35
 go_wp2_with fail
 go_at_call 57
 refine (tCycles.calls 60 3 A11 c11 three16 (some ⟨w11.heap.size, 0, none⟩) 1 [2] [] 0 _ (Kd.C_alloc X11_0.out _) hc11 (C_litS w11 (w11.heap.size) (by simp) [2] 3 (by decide)) (Nat.le_refl _) a16_cyc2).mono ?_
 rintro e w12 ⟨v12, rfl, g12, b12⟩
 have h12 := Kd.S_R g12
 obtain ⟨A12, c12, rfl⟩ := Kd.R_slice h12
 obtain ⟨_, hc12, hC12⟩ := Kd.R_reads' h12
 have X12_0 := Lib.hid hC12
 clear g12 h12 hC12
 have d12 : Below w11.heap.size w11 w12 := (below_alloc (Below.refl w11.heap.size w11) _).trans (b12.mono (by simp <;> omega))
 have X_42 := Lib.hid (Kd.C_below X_36.out d12)
 clear X_36
 have X_43 := Lib.hid (Kd.C_below X_37.out d12)
 clear X_37
 have X_44 := Lib.hid (Kd.C_below X_38.out d12)
 clear X_38
 have X_45 := Lib.hid (Kd.C_below X_39.out d12)
 clear X_39
 have X_46 := Lib.hid (Kd.C_below X_40.out d12)
 clear X_40
 have X_47 := Lib.hid (Kd.C_below X11_0.out d12)
 clear X11_0
 have B48 := Lib.hid (B41.out.trans (d12.mono B41.out.size))
 clear d12 B41; clear X_47
 go_wp2_with fail
 go_at_call 36
 refine (qr14Ints.calls 20 A2 c2 [0, 1] (some ⟨w12.heap.size, 0, none⟩) 2 [0, 1] true _ (Kd.C_alloc X_42.out _) hc2 (C_litS w12 (w12.heap.size) (by simp) [0, 1] 3 (by decide)) (Nat.le_refl _) a16_i1).mono ?_
 rintro e w' ⟨rfl, ⟨m, rfl⟩⟩
 have b13 : Below w12.heap.size w12 ((w12.alloc (.cells (([0, 1] : List Int).map (Value.int .i64)).toArray 3)).drewN m) := bN (below_alloc (Below.refl _ _) _) m
 generalize (w12.alloc (.cells (([0, 1] : List Int).map (Value.int .i64)).toArray 3)).drewN m = w13 at b13 ⊢
 have d13 := b13
 have X_49 := Lib.hid (Kd.C_below X_42.out d13)
 clear X_42
 have X_50 := Lib.hid (Kd.C_below X_43.out d13)
 clear X_43
 have X_51 := Lib.hid (Kd.C_below X_44.out d13)
 clear X_44
 have X_52 := Lib.hid (Kd.C_below X_45.out d13)
 clear X_45
 have X_53 := Lib.hid (Kd.C_below X_46.out d13)
 clear X_46
 have X_54 := Lib.hid (Kd.C_below X12_0.out d13)
 clear X12_0
 have B55 := Lib.hid (B48.out.trans (d13.mono B48.out.size))
 clear d13 B48; clear X_49
 go_wp2_with fail
 go_at_call 36
 refine (qr14Ints.calls 20 A6 c6 [-1, -1, 0] (some ⟨w13.heap.size, 0, none⟩) 3 [-1, -1, 0] true _ (Kd.C_alloc X_51.out _) hc6 (C_litS w13 (w13.heap.size) (by simp) [-1, -1, 0] 3 (by decide)) (Nat.le_refl _) a16_i2).mono ?_
 rintro e w' ⟨rfl, ⟨m, rfl⟩⟩
 have b14 : Below w13.heap.size w13 ((w13.alloc (.cells (([-1, -1, 0] : List Int).map (Value.int .i64)).toArray 3)).drewN m) := bN (below_alloc (Below.refl _ _) _) m
 generalize (w13.alloc (.cells (([-1, -1, 0] : List Int).map (Value.int .i64)).toArray 3)).drewN m = w14 at b14 ⊢
 have d14 := b14
 have X_56 := Lib.hid (Kd.C_below X_50.out d14)
 clear X_50
 have X_57 := Lib.hid (Kd.C_below X_51.out d14)
 clear X_51
 have X_58 := Lib.hid (Kd.C_below X_52.out d14)
 clear X_52
 have X_59 := Lib.hid (Kd.C_below X_53.out d14)
 clear X_53
 have X_60 := Lib.hid (Kd.C_below X_54.out d14)
 clear X_54
 have B61 := Lib.hid (B55.out.trans (d14.mono B55.out.size))
 clear d14 B55; clear X_57
 go_wp2_with fail
 go_at_call 44
 refine (qr15Rows.calls 20 A8 c8 [[-1, -1, 1]] (some ⟨w14.heap.size + 1, 0, none⟩) 1 [[-1, -1, 1]] true _ (Kd.C_alloc (Kd.C_alloc X_58.out _) _) hc8 (C_row1S w14 (w14.heap.size) (by simp) [-1, -1, 1] (by decide)) (Nat.le_refl _) a16_rows).mono ?_
 rintro e w' ⟨rfl, ⟨m, rfl⟩⟩
 have b15 : Below w14.heap.size w14 (((w14.alloc (.cells (([-1, -1, 1] : List Int).map (Value.int .i64)).toArray 3)).alloc (.cells #[.slice (some ⟨w14.heap.size, 0, none⟩) 3 3] 25)).drewN m) := bN (below_alloc (below_alloc (Below.refl _ _) _) _) m
 generalize ((w14.alloc (.cells (([-1, -1, 1] : List Int).map (Value.int .i64)).toArray 3)).alloc (.cells #[.slice (some ⟨w14.heap.size, 0, none⟩) 3 3] 25)).drewN m = w15 at b15 ⊢
 have d15 := b15
 have X_62 := Lib.hid (Kd.C_below X_56.out d15)
 clear X_56
 have X_63 := Lib.hid (Kd.C_below X_58.out d15)
 clear X_58
 have X_64 := Lib.hid (Kd.C_below X_59.out d15)
 clear X_59
 have X_65 := Lib.hid (Kd.C_below X_60.out d15)
 clear X_60
 have B66 := Lib.hid (B61.out.trans (d15.mono B61.out.size))
 clear d15 B61; clear X_63
 go_wp2_with fail
 go_at_call 36
 refine (qr14Ints.calls 20 A10 c10 [0, 1] (some ⟨w15.heap.size, 0, none⟩) 2 [0, 1] true _ (Kd.C_alloc X_64.out _) hc10 (C_litS w15 (w15.heap.size) (by simp) [0, 1] 3 (by decide)) (Nat.le_refl _) a16_i1).mono ?_
 rintro e w' ⟨rfl, ⟨m, rfl⟩⟩
 have b16 : Below w15.heap.size w15 ((w15.alloc (.cells (([0, 1] : List Int).map (Value.int .i64)).toArray 3)).drewN m) := bN (below_alloc (Below.refl _ _) _) m
 generalize (w15.alloc (.cells (([0, 1] : List Int).map (Value.int .i64)).toArray 3)).drewN m = w16 at b16 ⊢
 have d16 := b16
 have X_67 := Lib.hid (Kd.C_below X_62.out d16)
 clear X_62
 have X_68 := Lib.hid (Kd.C_below X_64.out d16)
 clear X_64
 have X_69 := Lib.hid (Kd.C_below X_65.out d16)
 clear X_65
 have B70 := Lib.hid (B66.out.trans (d16.mono B66.out.size))
 clear d16 B66; clear X_68
 go_wp2_with fail
 go_ret
 exact ⟨rfl, B70.out⟩
end Go.Proofs.Ytdpgdelimffjpaa.P
