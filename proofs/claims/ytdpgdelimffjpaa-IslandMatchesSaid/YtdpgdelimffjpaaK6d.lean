/- Texts of this claim, merged: the words that print.sh and the prover's driver wrote, and hand-proved contracts and lemmas, less what this claim does not name. Lean checks them. -/
import Derived.Outline
import Derived.Lib.Hide
import Derived.Test.YtdpgdelimffjpaaK6a
import Derived.Test.YtdpgdelimffjpaaK6b
import Derived.Test.YtdpgdelimffjpaaK6c
namespace Go.Proofs.Ytdpgdelimffjpaa.P
open Go.RowKit Go.Proofs.YtdpgdelimffjpaaW.PrintWords Go.Proofs.YtdpgdelimffjpaaW.PrintLast Go.Proofs.YtdpgdelimffjpaaW.PrintMore
attribute [local go_sem] max2_int min2_int max_two min_two max_three min_three max_four min_four   -- for this text's walks alone
set_option linter.unusedVariables false
set_option linter.unusedSimpArgs false

/-! ### pylonref15_reach: function 89 -/
mutual
def pylonref15_reach.l0 : Nat → List Bool → List Int → Int → Int → List (S37) → Option (List Bool)
 | 0, _, _, _, _, _ => none
 | k + 1, x7, x8, x9, x248000, x248001 => if x9 < x248000 then (pylonref15_reach.l1 k x7 x8 x9 0 x248000 x248001) else (some x7)
def pylonref15_reach.l1 : Nat → List Bool → List Int → Int → Int → Int → List (S37) → Option (List Bool)
 | 0, _, _, _, _, _, _ => none
 | k + 1, x7, x8, x9, x10, x248000, x248001 => if x10 < (x8.length : Int) then (if 0 ≤ x10 then (if 0 ≤ (rd x8 x10) then (if (rd x8 x10) < (x248001.length : Int) then (if 0 ≤ ((rd_T37 x248001 (rd x8 x10)).f0) then (if ((rd_T37 x248001 (rd x8 x10)).f0) < (x7.length : Int) then (if rdOf false x7 ((rd_T37 x248001 (rd x8 x10)).f0) = true then (if 0 ≤ ((rd_T37 x248001 (rd x8 x10)).f1) then (if ((rd_T37 x248001 (rd x8 x10)).f1) < (x7.length : Int) then (pylonref15_reach.l1 k ((x7.set (((rd_T37 x248001 (rd x8 x10)).f0) : Int).toNat true).set (((rd_T37 x248001 (rd x8 x10)).f1) : Int).toNat true) x8 x9 (wrap64 (x10 + 1)) x248000 x248001) else (none)) else (none)) else (if 0 ≤ ((rd_T37 x248001 (rd x8 x10)).f1) then (if ((rd_T37 x248001 (rd x8 x10)).f1) < (x7.length : Int) then (if rdOf false x7 ((rd_T37 x248001 (rd x8 x10)).f1) = true then (pylonref15_reach.l1 k ((x7.set (((rd_T37 x248001 (rd x8 x10)).f0) : Int).toNat true).set (((rd_T37 x248001 (rd x8 x10)).f1) : Int).toNat true) x8 x9 (wrap64 (x10 + 1)) x248000 x248001) else (pylonref15_reach.l1 k x7 x8 x9 (wrap64 (x10 + 1)) x248000 x248001)) else (none)) else (none))) else (none)) else (none)) else (none)) else (none)) else (none)) else (pylonref15_reach.l0 k x7 x8 (wrap64 (x9 + 1)) x248000 x248001)
end
def pylonref15_reach.f (k : Nat) (a0_0 : Int) (l0_1 : List (S37)) (l1 : List Int) (a2 : Int) : Option (List Bool) := if 0 ≤ a0_0 then (if (a0_0 : Int).toNat ≤ 281474976710656 then ((some (List.replicate (a0_0 : Int).toNat false : List Bool)).bind fun y248 => (if 0 ≤ a2 then (if a2 < (y248.length : Int) then ((pylonref14_In.f k a0_0 l0_1 l1).bind fun t252 => (pylonref15_reach.l0 k (y248.set (a2 : Int).toNat true) t252 0 a0_0 l0_1)) else (none)) else (none))) else (none)) else (none)
def pylonref15_reach.T10 : Bool × List (List Nat × List Nat) := (true, [([], []), ([0], [0]), ([], []), ([], []), ([2, 3], [2, 3]), ([4], [4]), ([1, 5], [1, 5]), ([6], [6]), ([], []), ([8, 7, 0, 1, 2, 3, 4, 5, 6, 7, 8], [7, 8])])
def pylonref15_reach.B10 : List Nat := [0, 1, 0, 0, 12, 28, 63, 127, 0, 511]
theorem pylonref15_reach.tab10 : rtab .any (opsOf Try.f89 10) = pylonref15_reach.T10 := by kernel_rfl
theorem pylonref15_reach.bits10 : waitsOk pylonref15_reach.T10.2 pylonref15_reach.B10 = true := by kernel_rfl
set_option maxHeartbeats 8000000 in
set_option maxRecDepth 100000 in
theorem pylonref15_reach.calls (k : Nat) (a0_0 : Int) (A0_1 : Option Addr) (c0_1 : Nat) (l0_1 : List (S37)) (A1 : Option Addr) (c1 : Nat) (l1 : List Int) (a2 : Int) (r : List Bool) (w : World) (hr0_1 : Kd.C k37 w A0_1 l0_1.length l0_1) (hc0_1 : l0_1.length ≤ c0_1) (hr1 : Kd.C (Kd.int .i64) w A1 l1.length l1) (hc1 : l1.length ≤ c1) (h : pylonref15_reach.f k a0_0 l0_1 l1 a2 = some r) :
  Calls Try.prog 89 #[.agg #[.int .i64 a0_0, .slice A0_1 l0_1.length c0_1], .slice A1 l1.length c1, .int .i64 a2] w fun e w' => ∃ v0_ : Value, e = .returned (v0_) ∧ Kd.R Kd.bool 4 w' w.heap.size (fun _ => True) v0_ r ∧ Below w.heap.size w w' := by
 have hu24 := Try.underlying24
 have hu37 := Try.underlying37
 have HR0_1 := Aside0.mk hr0_1
 have HC0_1 := Aside0.mk hc0_1
 clear hr0_1 hc0_1
 have HR1 := Aside0.mk hr1
 have HC1 := Aside0.mk hc1
 clear hr1 hc1
 have HB := Aside0.mk (Below.refl w.heap.size w)
 have H : (if 0 ≤ a0_0 then (if (a0_0 : Int).toNat ≤ 281474976710656 then ((some (List.replicate (a0_0 : Int).toNat false : List Bool)).bind fun y248 => (if 0 ≤ a2 then (if a2 < (y248.length : Int) then ((pylonref14_In.f k a0_0 l0_1 l1).bind fun t252 => (pylonref15_reach.l0 k (y248.set (a2 : Int).toNat true) t252 0 a0_0 l0_1)) else (none)) else (none))) else (none)) else (none)) = some r := h
 clear h
 by_cases c4 : 0 ≤ a0_0
 ·rw [if_pos c4] at H
  have c4b0 := eq_true c4
  have c4b1 : decide (0 ≤ a0_0) = true := decide_eq_true c4
  clear c4
  by_cases c5 : (a0_0 : Int).toNat ≤ 281474976710656
  ·rw [if_pos c5] at H
   have c5b0 := eq_true c5
   have c5b1 : decide ((a0_0 : Int).toNat ≤ 281474976710656) = true := decide_eq_true c5
   clear c5
   obtain ⟨y248, hy248⟩ : ∃ y_ : List Bool, y_ = (List.replicate (a0_0 : Int).toNat false) := ⟨_, rfl⟩
   replace H : (if 0 ≤ a2 then (if a2 < (y248.length : Int) then ((pylonref14_In.f k a0_0 l0_1 l1).bind fun t252 => (pylonref15_reach.l0 k (y248.set (a2 : Int).toNat true) t252 0 a0_0 l0_1)) else (none)) else (none)) = some r := by first | (rw [hy248]; with_reducible exact H) | (have H2_ := (Option.bind_some _ _).symm.trans H; rw [hy248]; with_reducible exact H2_) | (have H2_ := (Option.bind_some _ _).symm.trans H; with_reducible exact H2_) | with_reducible exact H | (rw [hy248]; exact H) | exact H
   have Ny248 := Aside0.mk hy248
   clear hy248
   by_cases c6 : 0 ≤ a2
   ·rw [if_pos c6] at H
    have c6b0 : decide (0 ≤ a2) = true := decide_eq_true c6
    clear c6
    by_cases c7 : a2 < (y248.length : Int)
    ·rw [if_pos c7] at H
     have c7b0 : decide (a2 < (y248.length : Int)) = true := decide_eq_true c7
     clear c7
     obtain ⟨y251, hy251⟩ : ∃ y_ : List Bool, y_ = (y248.set (a2 : Int).toNat true) := ⟨_, rfl⟩
     replace H : ((pylonref14_In.f k a0_0 l0_1 l1).bind fun t252 => (pylonref15_reach.l0 k y251 t252 0 a0_0 l0_1)) = some r := by first | (rw [hy251]; with_reducible exact H) | (have H2_ := (Option.bind_some _ _).symm.trans H; rw [hy251]; with_reducible exact H2_) | (have H2_ := (Option.bind_some _ _).symm.trans H; with_reducible exact H2_) | with_reducible exact H | (rw [hy251]; exact H) | exact H
     have Ny251 := Aside0.mk hy251
     clear hy251
     replace H := Option.bind_eq_some_iff.mp H
     obtain ⟨t252, A90, H⟩ := H
     replace H : (pylonref15_reach.l0 k y251 t252 0 a0_0 l0_1) = some r := H
     have A9 := Aside0.mk A90
     clear A90
     have H' := Aside0.mk H
     clear H
     go_enter Try.func89, Try.ntmps89
     go_wp2_with (first | ((with_reducible refine gate_dst (N := 3) rfl ?_); refine box_event ?hg (N := 3) ?hd (cs := #[.int .i64 a0_0, .slice A0_1 l0_1.length c0_1]) (t := 24) ?hr ?_; (case hd => rfl); (case hg => rfl); (case hr => first | (go_simp; done) | (go_simp; rfl)); intro gb247 hg w10 hbox hb; have n0_ := Aside0.mk (below_step (by repeat (first | (with_reducible first | exact HB.out | apply below_alloc | apply pw_below_drewN | apply below_drew1) | exact HB.out)) hb); have n1_ := Aside0.mk (hbox); have n2_ := Aside0.mk ((by rw [hg]; exact (below_size (by repeat (first | (with_reducible first | exact HB.out | apply below_alloc | apply pw_below_drewN | apply below_drew1) | exact HB.out))) : w.heap.size ≤ gb247)); have n3_ := Aside0.mk ((by rw [hg]; exact (below_size (by repeat (first | (with_reducible first | exact HB.out | apply below_alloc | apply pw_below_drewN | apply below_drew1) | exact HB.out))) : w.heap.size ≤ gb247)); clear HB; have HB := n0_; have BK247 := n1_; have GW247 := n2_; have GE247 := n3_; clear n0_ n1_ n2_ n3_; clear hb hbox hg; have hcz11_0 : w10.cell? ⟨gb247, 0, none⟩ = some (.int .i64 a0_0) := (blk_cell BK247.out 0).trans rfl; have hcz11_1 : w10.cell? ⟨gb247, 1, none⟩ = some (.slice A0_1 l0_1.length c0_1) := (blk_cell BK247.out 1).trans rfl; have hfz11_0 := blk_frozen BK247.out 0; have hfz11_1 := blk_frozen BK247.out 1) | ((with_reducible refine gate_dst (N := 14) rfl ?_); refine Kd.R_make Kd.bool _ 4 rfl (N := 14) rfl 96 _ _ rfl a0_0 rfl rfl Try.underlying96 (.bool false) 1 info4 rfl (by decide) (by omega) false (ok := fun _ => True) (okp := fun _ => True) rfl (fun _ hk => hk) trivial (of_decide_eq_true (by first | (with_reducible assumption) | assumption)) (Nat.le_trans (Nat.mul_le_mul_right _ (of_decide_eq_true (by first | (with_reducible assumption) | assumption) : a0_0.toNat ≤ 281474976710656)) (by omega)) (Below.refl _ _) (Nat.le_refl _) ?_; intro v249 w12 ho13 hb hg_ hnew_; clear hg_ hnew_; (first | rw [← Ny248.out] at ho13 | (simp only [Int.reduceToNat] at ho13; rw [← Ny248.out] at ho13)); have n0_ := Aside0.mk (Kd.R_lower ho13 (below_size (by repeat (first | (with_reducible first | exact HB.out | apply below_alloc | apply pw_below_drewN | apply below_drew1 | refine below_set ?_ GE247.out) | exact HB.out)))); have n1_ := Aside0.mk (blk_below (g := gb247) (o := .cells #[.int .i64 a0_0, .slice A0_1 l0_1.length c0_1] 24 (0, 0)) (by (with_reducible repeat (first | refine blk_drewN ?_ _ | refine blk_drew ?_ | refine blk_alloc ?_ _)); exact BK247.out) hb); have n2_ := Aside0.mk (below_step (by repeat (first | (with_reducible first | exact HB.out | apply below_alloc | apply pw_below_drewN | apply below_drew1 | refine below_set ?_ GE247.out) | exact HB.out)) hb); clear BK247; clear HB; have HO250 := n0_; have BK247 := n1_; have HB := n2_; clear n0_ n1_ n2_; clear hb ho13; have p8 : 0 ≤ (a2 : Int) := of_decide_eq_true (by first | (with_reducible assumption) | assumption); have q8 : (a2 : Int) < ((y248.length : Int) : Int) := of_decide_eq_true (by first | (with_reducible assumption) | assumption); obtain ⟨go8, co8, eo8, gb8, gl8, cl8, HG8⟩ := Kd.R_form HO250.out (by omega); (first | cases eo8 | (injection eo8 with ea_ en_ ec_; (first | subst ea_ | (injection ea_ with ea_; subst ea_)); subst ec_; clear en_)); have GB8 := Aside0.mk gb8; have GG8 := Aside0.mk HG8; clear gb8 gl8 HG8; obtain ⟨hx8_0, hf8_0⟩ := Kd.R_celln false HO250.out (a2 : Int) p8 q8; replace p8 := eq_true p8; replace q8 := eq_true q8; obtain ⟨hy14_, hz14_⟩ := Kd.R_celln false HO250.out (a2 : Int) (of_decide_eq_true (by first | (with_reducible assumption) | assumption)) (of_decide_eq_true (by first | (with_reducible assumption) | assumption)); have HP14 := Kd.R_putg HO250.out (a2 : Int) true) | ((with_reducible refine gate_store (t := 4) (p := 17) rfl ?_); refine store_event (t := 4) (p := 17) (v := ?vo_w15) (w1 := (w12.setCell ⟨go8, (a2 : Int).toNat, none⟩ (.bool true))) ?hg ?ho ?hn ?hr ?_; (case ho => rfl); (case hg => rfl); (case hn => rfl); (case hr => first | (go_simp; done) | (go_simp; rfl)); intro w15 hw; have hg : w12.grownBy w15 (some go8) := (by rw [hw]; exact HP14.2); have hp_ : Kd.R Kd.bool 4 w15 w.heap.size (fun _ => True) (.slice (some ⟨go8, 0, none⟩) y248.length co8) y251 := (by rw [hw, Ny251.out]; exact HP14.1); clear HP14; have n0_ := Aside0.mk (blk_grown (g := gb247) (o := .cells #[.int .i64 a0_0, .slice A0_1 l0_1.length c0_1] 24 (0, 0)) (by (with_reducible repeat (first | refine blk_drewN ?_ _ | refine blk_drew ?_ | refine blk_alloc ?_ _)); exact BK247.out) hg (Kd.R_ne HO250.out BK247.out (by decide))); have n1_ := Aside0.mk (hp_); have n2_ := Aside0.mk ((by rw [hw]; exact below_set (HB.out) GB8.out : Below w.heap.size w w15)); clear BK247; clear HO250; clear HB; have BK247 := n0_; have HO250 := n1_; have HB := n2_; clear n0_ n1_ n2_; clear hg hw hp_; have hcz16_0 : w15.cell? ⟨gb247, 0, none⟩ = some (.int .i64 a0_0) := (blk_cell BK247.out 0).trans rfl; have hcz16_1 : w15.cell? ⟨gb247, 1, none⟩ = some (.slice A0_1 l0_1.length c0_1) := (blk_cell BK247.out 1).trans rfl; have hfz16_0 := blk_frozen BK247.out 0; have hfz16_1 := blk_frozen BK247.out 1) | ((with_reducible refine gate_callee (f := 72) rfl ?_); refine goesL_ (some 20) rfl rfl Try.func72 (by kernel_rfl) rfl #[.agg #[.int .i64 a0_0, .slice A0_1 l0_1.length c0_1], .slice A1 l1.length c1] rfl (by (try simp only [List.map_toArray, List.map_cons, List.map_nil]); first | done | rfl | (simp only [List.length_drop, List.length_take]; rfl)) ?_; (with_reducible refine (pylonref14_In.calls k a0_0 _ _ l0_1 _ _ l1 t252 _ ?side1 ?side2 ?side3 ?side4 A9.out).mono ?_); (case side1 => repeat (first | exact (Kd.C_below HR0_1.out HB.out) | (with_reducible refine Kd.C_alloc ?_ _) | (with_reducible refine Kd.C_drewN ?_ _) | (with_reducible refine Kd.C_drew ?_))); (case side2 => exact HC0_1.out); (case side3 => repeat (first | exact (Kd.C_below HR1.out HB.out) | (with_reducible refine Kd.C_alloc ?_ _) | (with_reducible refine Kd.C_drewN ?_ _) | (with_reducible refine Kd.C_drew ?_))); (case side4 => exact HC1.out); rintro e w17 ⟨v253, rfl, ho0, hb⟩; refine ⟨_, rfl, ?_⟩; have n0_ := Aside0.mk (Kd.R_below (by (with_reducible repeat (first | apply Kd.R_alloc | apply Kd.R_drewN | apply Kd.R_drew)); exact HO250.out) hb); have n1_ := Aside0.mk (Kd.R_lower ho0 (below_size (by repeat (first | (with_reducible first | exact HB.out | apply below_alloc | apply pw_below_drewN | apply below_drew1 | refine below_set ?_ GE247.out) | exact HB.out)))); have n2_ := Aside0.mk (blk_below (g := gb247) (o := .cells #[.int .i64 a0_0, .slice A0_1 l0_1.length c0_1] 24 (0, 0)) (by (with_reducible repeat (first | refine blk_drewN ?_ _ | refine blk_drew ?_ | refine blk_alloc ?_ _)); exact BK247.out) hb); have n3_ := Aside0.mk (below_step (by repeat (first | (with_reducible first | exact HB.out | apply below_alloc | apply pw_below_drewN | apply below_drew1 | refine below_set ?_ GE247.out) | exact HB.out)) hb); clear HO250; clear BK247; clear HB; have HO250 := n0_; have HO254 := n1_; have BK247 := n2_; have HB := n3_; clear n0_ n1_ n2_ n3_; (try clear hb); (try clear hb2); (try clear hk); (try clear hi); (try clear ho0)))
     go_loopg [9] k (fun kq v9 w' => ∃ (x7_1 : List Bool) (x9_1 : Int), v9 = .int .i64 x9_1 ∧ Aside0 (pylonref15_reach.l0 kq x7_1 t252 x9_1 a0_0 l0_1 = some r) ∧ Aside0 (kq ≤ k) ∧ Aside0 (Kd.R Kd.bool 4 w' w.heap.size (fun _ => True) (.slice (some ⟨go8, 0, none⟩) y248.length co8) x7_1) ∧ Aside0 (Kd.R (Kd.int .i64) 3 w' w.heap.size (fun _ => True) v253 t252) ∧ Aside0 (w'.heap[gb247]? = some (.cells #[.int .i64 a0_0, (.slice A0_1 l0_1.length c0_1)] 24 (0, 0))) ∧ Aside0 (Below w.heap.size w w'))
     case atStart => exact ⟨(y251), (0), (by first | rfl | (simp; done) | (simp [*]; done)), H', ⟨Nat.le_refl _⟩, ⟨by (with_reducible repeat (first | apply Kd.R_alloc | apply Kd.R_drewN | apply Kd.R_drew)); exact HO250.out⟩, ⟨by (with_reducible repeat (first | apply Kd.R_alloc | apply Kd.R_drewN | apply Kd.R_drew)); exact HO254.out⟩, ⟨by (with_reducible repeat (first | refine blk_drewN ?_ _ | refine blk_drew ?_ | refine blk_alloc ?_ _)); exact BK247.out⟩, ⟨by repeat (first | (with_reducible first | exact HB.out | apply below_alloc | apply pw_below_drewN | apply below_drew1 | refine below_set ?_ GE247.out) | exact HB.out)⟩⟩
     case round =>
      clear H'; (try clear c1); (try clear p2); (try clear c4); (try clear c4b0); (try clear c4b1); (try clear c5); (try clear c5b0); (try clear c5b1); (try clear c6); (try clear c6b0); (try clear c7); (try clear c7b0); (try clear c8); (try clear p8); (try clear q8); (try clear hx8); (try clear hf8); (try clear hcz11_0); (try clear hcz11_1); (try clear hcz16_0); (try clear hcz16_1); (try clear hfz11_0); (try clear hfz11_1); (try clear hfz16_0); (try clear hfz16_1); (try clear hx8_0); (try clear p8); (try clear q8)
      obtain ⟨x7_1, x9_1, rfl, HA, HK1, HO_7, HO_8, BK247, HB⟩ := hrel
      have hl7_1 := (Kd.R_reads' HO_7.out).1
      rw [hl7_1] at HO_7
      (try simp only [hl7_1])
      (try simp only [hl7_1] at BK247)
      (try simp only [hl7_1] at HO_8)
      cases gk with
      | zero => exact absurd HA.out (by simp [pylonref15_reach.l0])
      | succ k1 =>
       have H := HA.out
       clear HA
       simp only [pylonref15_reach.l0] at H
       by_cases c18 : x9_1 < a0_0
       ·rw [if_pos c18] at H
        have c18b0 : decide (x9_1 < a0_0) = true := decide_eq_true c18
        clear c18
        have H' := Aside0.mk H
        clear H
        have hcz19_0 : wr.cell? ⟨gb247, 0, none⟩ = some (.int .i64 a0_0) := (blk_cell BK247.out 0).trans rfl
        have hcz19_1 : wr.cell? ⟨gb247, 1, none⟩ = some (.slice A0_1 l0_1.length c0_1) := (blk_cell BK247.out 1).trans rfl
        have hfz19_0 := blk_frozen BK247.out 0
        have hfz19_1 := blk_frozen BK247.out 1
        go_wp2
        go_loopg [10] k1 (fun kq v10 w' => ∃ (x7_2 : List Bool) (x10_2 : Int), v10 = .int .i64 x10_2 ∧ Aside0 (pylonref15_reach.l1 kq x7_2 t252 x9_1 x10_2 a0_0 l0_1 = some r) ∧ Aside0 (kq ≤ k1) ∧ Aside0 (Kd.R Kd.bool 4 w' w.heap.size (fun _ => True) (.slice (some ⟨go8, 0, none⟩) x7_1.length co8) x7_2) ∧ Aside0 (Kd.R (Kd.int .i64) 3 w' w.heap.size (fun _ => True) v253 t252) ∧ Aside0 (w'.heap[gb247]? = some (.cells #[.int .i64 a0_0, (.slice A0_1 l0_1.length c0_1)] 24 (0, 0))) ∧ Aside0 (Below w.heap.size w w'))
        case atStart => exact ⟨(x7_1), (0), (by first | rfl | (simp; done) | (simp [*]; done)), H', ⟨Nat.le_refl _⟩, ⟨by (try simp only [hl7_1]); (with_reducible repeat (first | apply Kd.R_alloc | apply Kd.R_drewN | apply Kd.R_drew)); exact HO_7.out⟩, ⟨by (try simp only [hl7_1]); (with_reducible repeat (first | apply Kd.R_alloc | apply Kd.R_drewN | apply Kd.R_drew)); exact HO_8.out⟩, ⟨by (try simp only [hl7_1]); (with_reducible repeat (first | refine blk_drewN ?_ _ | refine blk_drew ?_ | refine blk_alloc ?_ _)); exact BK247.out⟩, ⟨by repeat (first | (with_reducible first | exact HB.out | apply below_alloc | apply pw_below_drewN | apply below_drew1 | refine below_set ?_ GE247.out) | exact HB.out)⟩⟩
        case round =>
         clear H'; (try clear c1); (try clear p2); (try clear c4); (try clear c4b0); (try clear c4b1); (try clear c5); (try clear c5b0); (try clear c5b1); (try clear c6); (try clear c6b0); (try clear c7); (try clear c7b0); (try clear c8); (try clear p8); (try clear q8); (try clear hx8); (try clear hf8); (try clear c18); (try clear c18b0); (try clear hcz11_0); (try clear hcz11_1); (try clear hcz16_0); (try clear hcz16_1); (try clear hcz19_0); (try clear hcz19_1); (try clear hfz11_0); (try clear hfz11_1); (try clear hfz16_0); (try clear hfz16_1); (try clear hfz19_0); (try clear hfz19_1); (try clear hx8_0); (try clear p2); (try clear p8); (try clear q8)
         obtain ⟨x7_2, x10_2, rfl, HA, HK2, HO_7, HO_8, BK247, HB⟩ := hrel
         have hl7_2 := (Kd.R_reads' HO_7.out).1
         rw [hl7_2] at HO_7
         (try simp only [hl7_2])
         (try simp only [hl7_2] at BK247)
         (try simp only [hl7_2] at HO_8)
         cases gk with
         | zero => exact absurd HA.out (by simp [pylonref15_reach.l1])
         | succ k2 =>
          have H := HA.out
          clear HA
          simp only [pylonref15_reach.l1] at H
          by_cases c20 : x10_2 < (t252.length : Int)
          ·rw [if_pos c20] at H
           have c20b0 : decide (x10_2 < (t252.length : Int)) = true := decide_eq_true c20
           clear c20
           by_cases c21 : 0 ≤ x10_2
           ·rw [if_pos c21] at H
            have c21b0 : decide (0 ≤ x10_2) = true := decide_eq_true c21
            clear c21
            by_cases c22 : 0 ≤ (rd t252 x10_2)
            ·rw [if_pos c22] at H
             have c22b0 : decide (0 ≤ (rd t252 x10_2)) = true := decide_eq_true c22
             clear c22
             by_cases c23 : (rd t252 x10_2) < (l0_1.length : Int)
             ·rw [if_pos c23] at H
              have c23b0 : decide ((rd t252 x10_2) < (l0_1.length : Int)) = true := decide_eq_true c23
              clear c23
              by_cases c24 : 0 ≤ ((rd_T37 l0_1 (rd t252 x10_2)).f0)
              ·rw [if_pos c24] at H
               have c24b0 : decide (0 ≤ ((rd_T37 l0_1 (rd t252 x10_2)).f0)) = true := decide_eq_true c24
               clear c24
               by_cases c25 : ((rd_T37 l0_1 (rd t252 x10_2)).f0) < (x7_2.length : Int)
               ·rw [if_pos c25] at H
                have c25b0 : decide (((rd_T37 l0_1 (rd t252 x10_2)).f0) < (x7_2.length : Int)) = true := decide_eq_true c25
                clear c25
                obtain ⟨bq26, hbq26⟩ : ∃ b_ : Bool, b_ = (rdOf false x7_2 ((rd_T37 l0_1 (rd t252 x10_2)).f0)) := ⟨_, rfl⟩
                replace H : (if bq26 = true then (if 0 ≤ ((rd_T37 l0_1 (rd t252 x10_2)).f1) then (if ((rd_T37 l0_1 (rd t252 x10_2)).f1) < (x7_2.length : Int) then (pylonref15_reach.l1 k2 ((x7_2.set (((rd_T37 l0_1 (rd t252 x10_2)).f0) : Int).toNat true).set (((rd_T37 l0_1 (rd t252 x10_2)).f1) : Int).toNat true) t252 x9_1 (wrap64 (x10_2 + 1)) a0_0 l0_1) else (none)) else (none)) else (if 0 ≤ ((rd_T37 l0_1 (rd t252 x10_2)).f1) then (if ((rd_T37 l0_1 (rd t252 x10_2)).f1) < (x7_2.length : Int) then (if rdOf false x7_2 ((rd_T37 l0_1 (rd t252 x10_2)).f1) = true then (pylonref15_reach.l1 k2 ((x7_2.set (((rd_T37 l0_1 (rd t252 x10_2)).f0) : Int).toNat true).set (((rd_T37 l0_1 (rd t252 x10_2)).f1) : Int).toNat true) t252 x9_1 (wrap64 (x10_2 + 1)) a0_0 l0_1) else (pylonref15_reach.l1 k2 x7_2 t252 x9_1 (wrap64 (x10_2 + 1)) a0_0 l0_1)) else (none)) else (none))) = some r := by rw [← hbq26] at H; exact H
                have Nbq26 := Aside0.mk hbq26
                clear hbq26
                by_cases c27 : bq26 = true
                ·subst c27
                 have H1 : (if 0 ≤ ((rd_T37 l0_1 (rd t252 x10_2)).f1) then (if ((rd_T37 l0_1 (rd t252 x10_2)).f1) < (x7_2.length : Int) then (pylonref15_reach.l1 k2 ((x7_2.set (((rd_T37 l0_1 (rd t252 x10_2)).f0) : Int).toNat true).set (((rd_T37 l0_1 (rd t252 x10_2)).f1) : Int).toNat true) t252 x9_1 (wrap64 (x10_2 + 1)) a0_0 l0_1) else (none)) else (none)) = some r := by rw [if_pos rfl] at H; exact H
                 clear H
                 have H := H1
                 clear H1
                 obtain ⟨y259, hy259⟩ : ∃ y_ : List Bool, y_ = (x7_2.set (((rd_T37 l0_1 (rd t252 x10_2)).f0) : Int).toNat true) := ⟨_, rfl⟩
                 replace H : (if 0 ≤ ((rd_T37 l0_1 (rd t252 x10_2)).f1) then (if ((rd_T37 l0_1 (rd t252 x10_2)).f1) < (x7_2.length : Int) then (pylonref15_reach.l1 k2 (y259.set (((rd_T37 l0_1 (rd t252 x10_2)).f1) : Int).toNat true) t252 x9_1 (wrap64 (x10_2 + 1)) a0_0 l0_1) else (none)) else (none)) = some r := by first | (rw [hy259]; with_reducible exact H) | (have H2_ := (Option.bind_some _ _).symm.trans H; rw [hy259]; with_reducible exact H2_) | (have H2_ := (Option.bind_some _ _).symm.trans H; with_reducible exact H2_) | with_reducible exact H | (rw [hy259]; exact H) | exact H
                 have Ny259 := Aside0.mk hy259
                 clear hy259
                 by_cases c29 : 0 ≤ ((rd_T37 l0_1 (rd t252 x10_2)).f1)
                 ·rw [if_pos c29] at H
                  have c29b0 : decide (0 ≤ ((rd_T37 l0_1 (rd t252 x10_2)).f1)) = true := decide_eq_true c29
                  clear c29
                  by_cases c30 : ((rd_T37 l0_1 (rd t252 x10_2)).f1) < (x7_2.length : Int)
                  ·rw [if_pos c30] at H
                   have c30b0 : decide (((rd_T37 l0_1 (rd t252 x10_2)).f1) < (x7_2.length : Int)) = true := decide_eq_true c30
                   clear c30
                   obtain ⟨y260, hy260⟩ : ∃ y_ : List Bool, y_ = (y259.set (((rd_T37 l0_1 (rd t252 x10_2)).f1) : Int).toNat true) := ⟨_, rfl⟩
                   replace H : (pylonref15_reach.l1 k2 y260 t252 x9_1 (wrap64 (x10_2 + 1)) a0_0 l0_1) = some r := by first | (rw [hy260]; with_reducible exact H) | (have H2_ := (Option.bind_some _ _).symm.trans H; rw [hy260]; with_reducible exact H2_) | (have H2_ := (Option.bind_some _ _).symm.trans H; with_reducible exact H2_) | with_reducible exact H | (rw [hy260]; exact H) | exact H
                   have Ny260 := Aside0.mk hy260
                   clear hy260
                   have H' := Aside0.mk H
                   clear H
                   obtain ⟨Ao32, co32, eo32⟩ := Kd.R_slice HO_8.out
                   subst eo32
                   try go_wp2
                   have n0_ := Aside0.mk (Kd.R_drew HO_7.out)
                   have n1_ := Aside0.mk (Kd.R_drew HO_8.out)
                   have n2_ := Aside0.mk (blk_drew BK247.out)
                   have n3_ := Aside0.mk (below_drew1 HB.out)
                   clear HO_7; clear HO_8; clear BK247; clear HB
                   have HO_7 := n0_
                   have HO_8 := n1_
                   have BK247 := n2_
                   have HB := n3_
                   clear n0_ n1_ n2_ n3_
                   have p255 : 0 ≤ (x10_2 : Int) := of_decide_eq_true (by first | (with_reducible assumption) | assumption)
                   have q255 : x10_2 < (t252.length : Int) := of_decide_eq_true (by first | (with_reducible assumption) | assumption)
                   obtain ⟨ad255, e255, hx255_0⟩ := Kd.at_int (Kd.R_reads' HO_8.out).2.2 x10_2 p255 q255
                   cases e255
                   replace p255 := eq_true p255
                   replace q255 := eq_true q255
                   have p256 : 0 ≤ ((rd t252 x10_2) : Int) := of_decide_eq_true (by first | (with_reducible assumption) | assumption)
                   have q256 : (rd t252 x10_2) < (l0_1.length : Int) := of_decide_eq_true (by first | (with_reducible assumption) | assumption)
                   obtain ⟨ad256, e256, hx256_0, hx256_1, hx256_2, hx256_3⟩ := at_T37 HR0_1.out (rd t252 x10_2) p256 q256
                   have hw256_3 := hx256_3
                   have hw256_2 := hx256_2
                   have hw256_1 := hx256_1
                   have hw256_0 := hx256_0
                   cases e256
                   replace hx256_0 := (HB.out.cell (World.block_lt_of_cell? w _ hx256_0)).trans hx256_0
                   replace hx256_1 := (HB.out.cell (World.block_lt_of_cell? w _ hx256_1)).trans hx256_1
                   replace hx256_2 := (HB.out.cell (World.block_lt_of_cell? w _ hx256_2)).trans hx256_2
                   replace hx256_3 := (HB.out.cell (World.block_lt_of_cell? w _ hx256_3)).trans hx256_3
                   replace p256 := eq_true p256
                   replace q256 := eq_true q256
                   refine start_ (n := 10) (S := fun w' => w'.cell? ⟨gb247, 0, none⟩ = some (.int .i64 a0_0) ∧ w'.cell? ⟨gb247, 1, none⟩ = some (.slice (some ad256) l0_1.length c0_1) ∧ w'.cell? (ad255.add (x10_2).toNat) = some (.int .i64 (rd t252 x10_2)) ∧ w'.cell? (ad256.add (((rd t252 x10_2)).toNat * 4)) = some (.int .i64 ((rd_T37 l0_1 (rd t252 x10_2)).f0)) ∧ w'.cell? ⟨(ad256.add (((rd t252 x10_2)).toNat * 4)).block, (ad256.add (((rd t252 x10_2)).toNat * 4)).off + 1, none⟩ = some (.int .i64 ((rd_T37 l0_1 (rd t252 x10_2)).f1)) ∧ w'.cell? ⟨(ad256.add (((rd t252 x10_2)).toNat * 4)).block, (ad256.add (((rd t252 x10_2)).toNat * 4)).off + 2, none⟩ = some (.int .i64 ((rd_T37 l0_1 (rd t252 x10_2)).f2)) ∧ w'.cell? ⟨(ad256.add (((rd t252 x10_2)).toNat * 4)).block, (ad256.add (((rd t252 x10_2)).toNat * 4)).off + 3, none⟩ = some (.int .i64 ((rd_T37 l0_1 (rd t252 x10_2)).f3))) (ds := []) #[false, false, false, false, false, false, false, false, false, false] (by kernel_rfl) rfl rfl ⟨(blk_cell BK247.out 0).trans rfl, (blk_cell BK247.out 1).trans rfl, hx255_0, ((HB.out.cell (World.block_lt_of_cell? w _ hw256_0)).trans hw256_0), ((HB.out.cell (World.block_lt_of_cell? w _ hw256_1)).trans hw256_1), ((HB.out.cell (World.block_lt_of_cell? w _ hw256_2)).trans hw256_2), ((HB.out.cell (World.block_lt_of_cell? w _ hw256_3)).trans hw256_3)⟩ (fun hHeld => ?_); refine with_tabW pylonref15_reach.tab10 pylonref15_reach.bits10 (fun HT_ HW_ => ?_)
                   generalize wr.drew = w33 at HO_7 HO_8 BK247 HB hx255_0 hx256_0 hx256_1 hx256_2 hx256_3 hHeld ⊢
                   refine pure_ (i := 0) (N := some 33) (v := ?_) (a' := ?_) #[true, false, false, false, false, false, false, false, false, false] rfl rfl (any_of HT_.out (by kernel_rfl)) (fun _ _ _ h => h) (Or.inl ⟨by rfl, ?_⟩) ?_ ?_
                   rotate_left; (intro w'; go_simp; with_reducible rfl); rotate_left; (simp only [Act.put, List.setIfInBounds_toArray, List.set_cons_zero, List.set_cons_succ, i64_w, i32_w]; rfl)
                   refine pure_ (i := 2) (N := some 35) (v := ?_) (a' := ?_) #[true, false, true, false, false, false, false, false, false, false] rfl rfl (any_of HT_.out (by kernel_rfl)) (fun _ _ _ h => h) (Or.inl ⟨by rfl, ?_⟩) ?_ ?_
                   rotate_left; (intro w'; go_simp; with_reducible rfl); rotate_left; (simp only [Act.put, List.setIfInBounds_toArray, List.set_cons_zero, List.set_cons_succ, i64_w, i32_w]; rfl)
                   refine pure_ (i := 3) (N := some 36) (v := ?_) (a' := ?_) #[true, false, true, true, false, false, false, false, false, false] rfl rfl (any_of HT_.out (by kernel_rfl)) (fun _ _ _ h => h) (Or.inl ⟨by rfl, ?_⟩) ?_ ?_
                   rotate_left; (intro w'; go_simp; with_reducible rfl); rotate_left; (simp only [Act.put, List.setIfInBounds_toArray, List.set_cons_zero, List.set_cons_succ, i64_w, i32_w]; rfl)
                   refine pure_ (i := 4) (N := some 37) (v := ?_) (a' := ?_) #[true, false, true, true, true, false, false, false, false, false] rfl rfl (any_of HT_.out (by kernel_rfl)) (fun _ _ _ h => h) (Or.inl ⟨by rfl, ?_⟩) ?_ ?_
                   rotate_left; (intro w'; go_simp; with_reducible rfl); rotate_left; (simp only [Act.put, List.setIfInBounds_toArray, List.set_cons_zero, List.set_cons_succ, i64_w, i32_w]; rfl)
                   refine take_ (i := 1) (N := some 34) (v := ?_) (a' := ?_) #[true, true, true, true, true, false, false, false, false, false] rfl rfl (take_ofW HT_.out HW_.out (by kernel_rfl)) (fun _ _ _ h => h) (Or.inl ⟨by rfl, ?_⟩) hHeld ?_ ?_
                   rotate_left; (rintro w' ⟨s0, s1, s2, s3, s4, s5, s6⟩; go_simp; with_reducible rfl); rotate_left; (simp only [Act.put, List.setIfInBounds_toArray, List.set_cons_zero, List.set_cons_succ, i64_w, i32_w]; rfl)
                   refine take_ (i := 5) (N := some 38) (v := ?_) (a' := ?_) #[true, true, true, true, true, true, false, false, false, false] rfl rfl (take_ofW HT_.out HW_.out (by kernel_rfl)) (fun _ _ _ h => h) (Or.inl ⟨by rfl, ?_⟩) hHeld ?_ ?_
                   rotate_left; (rintro w' ⟨s0, s1, s2, s3, s4, s5, s6⟩; go_simp; with_reducible rfl); rotate_left; (simp only [Act.put, List.setIfInBounds_toArray, List.set_cons_zero, List.set_cons_succ, i64_w, i32_w]; rfl)
                   refine pure_ (i := 6) (N := some 39) (v := ?_) (a' := ?_) #[true, true, true, true, true, true, true, false, false, false] rfl rfl (any_of HT_.out (by kernel_rfl)) (fun _ _ _ h => h) (Or.inl ⟨by rfl, ?_⟩) ?_ ?_
                   rotate_left; (intro w'; go_simp; with_reducible rfl); rotate_left; (simp only [Act.put, List.setIfInBounds_toArray, List.set_cons_zero, List.set_cons_succ, i64_w, i32_w]; rfl)
                   refine take_ (i := 7) (N := some 40) (v := ?_) (a' := ?_) #[true, true, true, true, true, true, true, true, false, false] rfl rfl (take_ofW HT_.out HW_.out (by kernel_rfl)) (fun _ _ _ h => h) (Or.inl ⟨by rfl, ?_⟩) hHeld ?_ ?_
                   rotate_left; (rintro w' ⟨s0, s1, s2, s3, s4, s5, s6⟩; go_simp; with_reducible rfl); rotate_left; (simp only [Act.put, List.setIfInBounds_toArray, List.set_cons_zero, List.set_cons_succ, i64_w, i32_w]; rfl)
                   refine one_ (i := 8) (N := some 11) #[true, true, true, true, true, true, true, true, true, false] rfl rfl (one_of HT_.out (by kernel_rfl)) (by decide) (fun K hK => ?_)
                   refine box_step ?hg (N := 11) ?hd (cs := #[.int .i64 0, .int .i64 0, .int .i64 0, .int .i64 0]) (t := 37) ?hr ?_; (case hd => rfl); (case hg => rfl); (case hr => first | (go_simp; done) | (go_simp; rfl))
                   intro gb257 hg w34 hbox hb
                   have HS2_ := (hb.cell (World.block_lt_of_cell? _ _ (hHeld.2.2.1))).trans (hHeld.2.2.1)
                   have n0_ := Aside0.mk (Kd.R_below (by (with_reducible repeat (first | apply Kd.R_alloc | apply Kd.R_drewN | apply Kd.R_drew)); exact HO_7.out) hb)
                   have n1_ := Aside0.mk (Kd.R_below (by (with_reducible repeat (first | apply Kd.R_alloc | apply Kd.R_drewN | apply Kd.R_drew)); exact HO_8.out) hb)
                   have n2_ := Aside0.mk (blk_below (g := gb247) (o := .cells #[.int .i64 a0_0, .slice (some ad256) l0_1.length c0_1] 24 (0, 0)) (by (with_reducible repeat (first | refine blk_drewN ?_ _ | refine blk_drew ?_ | refine blk_alloc ?_ _)); exact BK247.out) hb)
                   have n3_ := Aside0.mk (below_step (by repeat (first | (with_reducible first | exact HB.out | apply below_alloc | apply pw_below_drewN | apply below_drew1 | refine below_set ?_ GE247.out) | exact HB.out)) hb)
                   have n4_ := Aside0.mk (hbox)
                   have n5_ := Aside0.mk ((by rw [hg]; exact (below_size (by repeat (first | (with_reducible first | exact HB.out | apply below_alloc | apply pw_below_drewN | apply below_drew1 | refine below_set ?_ GE247.out) | exact HB.out))) : w.heap.size ≤ gb257))
                   have n6_ := Aside0.mk ((by rw [hg]; exact (below_size (by repeat (first | (with_reducible first | exact HB.out | apply below_alloc | apply pw_below_drewN | apply below_drew1 | refine below_set ?_ GE247.out) | exact HB.out))) : w.heap.size ≤ gb257))
                   have n7_ := Aside0.mk ((by rw [hg]; exact Nat.ne_of_lt (blk_lt (g := gb247) (o := .cells #[.int .i64 a0_0, .slice (some ad256) l0_1.length c0_1] 24 (0, 0)) (by (with_reducible repeat (first | refine blk_drewN ?_ _ | refine blk_drew ?_ | refine blk_alloc ?_ _)); exact BK247.out)) : gb247 ≠ gb257))
                   have n8_ := Aside0.mk ((by rw [hg]; exact Nat.ne_of_gt (blk_lt (g := gb247) (o := .cells #[.int .i64 a0_0, .slice (some ad256) l0_1.length c0_1] 24 (0, 0)) (by (with_reducible repeat (first | refine blk_drewN ?_ _ | refine blk_drew ?_ | refine blk_alloc ?_ _)); exact BK247.out)) : gb257 ≠ gb247))
                   clear HO_7; clear HO_8; clear BK247; clear HB
                   have HO_7 := n0_
                   have HO_8 := n1_
                   have BK247 := n2_
                   have HB := n3_
                   have BK257 := n4_
                   have GW257 := n5_
                   have GE257 := n6_
                   have NB247_257 := n7_
                   have NB257_247 := n8_
                   clear n0_ n1_ n2_ n3_ n4_ n5_ n6_ n7_ n8_; clear hb hbox hg
                   refine hK.out _ _ ⟨(blk_cell BK247.out 0).trans rfl, (blk_cell BK247.out 1).trans rfl, HS2_, ((HB.out.cell (World.block_lt_of_cell? w _ hw256_0)).trans hw256_0), ((HB.out.cell (World.block_lt_of_cell? w _ hw256_1)).trans hw256_1), ((HB.out.cell (World.block_lt_of_cell? w _ hw256_2)).trans hw256_2), ((HB.out.cell (World.block_lt_of_cell? w _ hw256_3)).trans hw256_3)⟩ (fun hHeld => ?_)
                   clear hK K
                   refine norm_ (a' := ?_) ?_ ?_
                   rotate_left
                   ·show Act.put _ (some 11) _ = _
                    simp only [Act.put, List.setIfInBounds_toArray, List.set_cons_zero, List.set_cons_succ, i64_w, i32_w]
                    rfl
                   refine one_ (i := 9) (N := none) #[true, true, true, true, true, true, true, true, true, true] rfl rfl (one_of HT_.out (by kernel_rfl)) (by decide) (fun K hK => ?_)
                   have hs35 : w34.cell? ⟨gb257, 0, none⟩ = some (.int .i64 0) := (blk_cell BK257.out 0).trans rfl
                   have hfs35 := blk_frozen BK257.out 0
                   have hns35_0 := NB247_257.out
                   have hms35_0 := NB257_247.out
                   have hs36 : w34.cell? ⟨gb257, 1, none⟩ = some (.int .i64 0) := (blk_cell BK257.out 1).trans rfl
                   have hfs36 := blk_frozen BK257.out 1
                   have hns36_0 := NB247_257.out
                   have hms36_0 := NB257_247.out
                   have hs37 : w34.cell? ⟨gb257, 2, none⟩ = some (.int .i64 0) := (blk_cell BK257.out 2).trans rfl
                   have hfs37 := blk_frozen BK257.out 2
                   have hns37_0 := NB247_257.out
                   have hms37_0 := NB257_247.out
                   have hs38 : w34.cell? ⟨gb257, 3, none⟩ = some (.int .i64 0) := (blk_cell BK257.out 3).trans rfl
                   have hfs38 := blk_frozen BK257.out 3
                   have hns38_0 := NB247_257.out
                   have hms38_0 := NB257_247.out
                   refine skip_ (w1 := ?_) (by rfl) rfl ?_ ?_
                   rotate_left
                   ·go_simp
                    rfl
                   refine hK.out _ _ ⟨((cell_far (p := ⟨gb257, _, none⟩) NB247_257.out _).trans (((cell_far (p := ⟨gb257, _, none⟩) NB247_257.out _).trans (((cell_far (p := ⟨gb257, _, none⟩) NB247_257.out _).trans (((cell_far (p := ⟨gb257, _, none⟩) NB247_257.out _).trans (hHeld.1)))))))), ((cell_far (p := ⟨gb257, _, none⟩) NB247_257.out _).trans (((cell_far (p := ⟨gb257, _, none⟩) NB247_257.out _).trans (((cell_far (p := ⟨gb257, _, none⟩) NB247_257.out _).trans (((cell_far (p := ⟨gb257, _, none⟩) NB247_257.out _).trans (hHeld.2.1)))))))), ((cell_far (p := ⟨gb257, _, none⟩) (by first | exact Kd.own_blk (Kd.R_ne HO_8.out BK257.out (by decide)) | (rw [add_block]; exact Kd.own_blk (Kd.R_ne HO_8.out BK257.out (by decide))) | (show (Addr.add _ _).block ≠ _; rw [add_block]; exact Kd.own_blk (Kd.R_ne HO_8.out BK257.out (by decide))) | (dsimp only; exact Kd.own_blk (Kd.R_ne HO_8.out BK257.out (by decide)))) _).trans (((cell_far (p := ⟨gb257, _, none⟩) (by first | exact Kd.own_blk (Kd.R_ne HO_8.out BK257.out (by decide)) | (rw [add_block]; exact Kd.own_blk (Kd.R_ne HO_8.out BK257.out (by decide))) | (show (Addr.add _ _).block ≠ _; rw [add_block]; exact Kd.own_blk (Kd.R_ne HO_8.out BK257.out (by decide))) | (dsimp only; exact Kd.own_blk (Kd.R_ne HO_8.out BK257.out (by decide)))) _).trans (((cell_far (p := ⟨gb257, _, none⟩) (by first | exact Kd.own_blk (Kd.R_ne HO_8.out BK257.out (by decide)) | (rw [add_block]; exact Kd.own_blk (Kd.R_ne HO_8.out BK257.out (by decide))) | (show (Addr.add _ _).block ≠ _; rw [add_block]; exact Kd.own_blk (Kd.R_ne HO_8.out BK257.out (by decide))) | (dsimp only; exact Kd.own_blk (Kd.R_ne HO_8.out BK257.out (by decide)))) _).trans (((cell_far (p := ⟨gb257, _, none⟩) (by first | exact Kd.own_blk (Kd.R_ne HO_8.out BK257.out (by decide)) | (rw [add_block]; exact Kd.own_blk (Kd.R_ne HO_8.out BK257.out (by decide))) | (show (Addr.add _ _).block ≠ _; rw [add_block]; exact Kd.own_blk (Kd.R_ne HO_8.out BK257.out (by decide))) | (dsimp only; exact Kd.own_blk (Kd.R_ne HO_8.out BK257.out (by decide)))) _).trans (hHeld.2.2.1)))))))), ((cell_far (p := ⟨gb257, _, none⟩) (by first | exact Nat.ne_of_lt (Nat.lt_of_lt_of_le (by have := World.block_lt_of_cell? _ _ hw256_0; first | rwa [add_block] at this | exact this) GW257.out) | (rw [add_block]; exact Nat.ne_of_lt (Nat.lt_of_lt_of_le (by have := World.block_lt_of_cell? _ _ hw256_0; first | rwa [add_block] at this | exact this) GW257.out)) | (show (Addr.add _ _).block ≠ _; rw [add_block]; exact Nat.ne_of_lt (Nat.lt_of_lt_of_le (by have := World.block_lt_of_cell? _ _ hw256_0; first | rwa [add_block] at this | exact this) GW257.out)) | (dsimp only; exact Nat.ne_of_lt (Nat.lt_of_lt_of_le (by have := World.block_lt_of_cell? _ _ hw256_0; first | rwa [add_block] at this | exact this) GW257.out))) _).trans (((cell_far (p := ⟨gb257, _, none⟩) (by first | exact Nat.ne_of_lt (Nat.lt_of_lt_of_le (by have := World.block_lt_of_cell? _ _ hw256_0; first | rwa [add_block] at this | exact this) GW257.out) | (rw [add_block]; exact Nat.ne_of_lt (Nat.lt_of_lt_of_le (by have := World.block_lt_of_cell? _ _ hw256_0; first | rwa [add_block] at this | exact this) GW257.out)) | (show (Addr.add _ _).block ≠ _; rw [add_block]; exact Nat.ne_of_lt (Nat.lt_of_lt_of_le (by have := World.block_lt_of_cell? _ _ hw256_0; first | rwa [add_block] at this | exact this) GW257.out)) | (dsimp only; exact Nat.ne_of_lt (Nat.lt_of_lt_of_le (by have := World.block_lt_of_cell? _ _ hw256_0; first | rwa [add_block] at this | exact this) GW257.out))) _).trans (((cell_far (p := ⟨gb257, _, none⟩) (by first | exact Nat.ne_of_lt (Nat.lt_of_lt_of_le (by have := World.block_lt_of_cell? _ _ hw256_0; first | rwa [add_block] at this | exact this) GW257.out) | (rw [add_block]; exact Nat.ne_of_lt (Nat.lt_of_lt_of_le (by have := World.block_lt_of_cell? _ _ hw256_0; first | rwa [add_block] at this | exact this) GW257.out)) | (show (Addr.add _ _).block ≠ _; rw [add_block]; exact Nat.ne_of_lt (Nat.lt_of_lt_of_le (by have := World.block_lt_of_cell? _ _ hw256_0; first | rwa [add_block] at this | exact this) GW257.out)) | (dsimp only; exact Nat.ne_of_lt (Nat.lt_of_lt_of_le (by have := World.block_lt_of_cell? _ _ hw256_0; first | rwa [add_block] at this | exact this) GW257.out))) _).trans (((cell_far (p := ⟨gb257, _, none⟩) (by first | exact Nat.ne_of_lt (Nat.lt_of_lt_of_le (by have := World.block_lt_of_cell? _ _ hw256_0; first | rwa [add_block] at this | exact this) GW257.out) | (rw [add_block]; exact Nat.ne_of_lt (Nat.lt_of_lt_of_le (by have := World.block_lt_of_cell? _ _ hw256_0; first | rwa [add_block] at this | exact this) GW257.out)) | (show (Addr.add _ _).block ≠ _; rw [add_block]; exact Nat.ne_of_lt (Nat.lt_of_lt_of_le (by have := World.block_lt_of_cell? _ _ hw256_0; first | rwa [add_block] at this | exact this) GW257.out)) | (dsimp only; exact Nat.ne_of_lt (Nat.lt_of_lt_of_le (by have := World.block_lt_of_cell? _ _ hw256_0; first | rwa [add_block] at this | exact this) GW257.out))) _).trans (hHeld.2.2.2.1)))))))), ((cell_far (p := ⟨gb257, _, none⟩) (by first | exact Nat.ne_of_lt (Nat.lt_of_lt_of_le (by have := World.block_lt_of_cell? _ _ hw256_1; first | rwa [add_block] at this | exact this) GW257.out) | (rw [add_block]; exact Nat.ne_of_lt (Nat.lt_of_lt_of_le (by have := World.block_lt_of_cell? _ _ hw256_1; first | rwa [add_block] at this | exact this) GW257.out)) | (show (Addr.add _ _).block ≠ _; rw [add_block]; exact Nat.ne_of_lt (Nat.lt_of_lt_of_le (by have := World.block_lt_of_cell? _ _ hw256_1; first | rwa [add_block] at this | exact this) GW257.out)) | (dsimp only; exact Nat.ne_of_lt (Nat.lt_of_lt_of_le (by have := World.block_lt_of_cell? _ _ hw256_1; first | rwa [add_block] at this | exact this) GW257.out))) _).trans (((cell_far (p := ⟨gb257, _, none⟩) (by first | exact Nat.ne_of_lt (Nat.lt_of_lt_of_le (by have := World.block_lt_of_cell? _ _ hw256_1; first | rwa [add_block] at this | exact this) GW257.out) | (rw [add_block]; exact Nat.ne_of_lt (Nat.lt_of_lt_of_le (by have := World.block_lt_of_cell? _ _ hw256_1; first | rwa [add_block] at this | exact this) GW257.out)) | (show (Addr.add _ _).block ≠ _; rw [add_block]; exact Nat.ne_of_lt (Nat.lt_of_lt_of_le (by have := World.block_lt_of_cell? _ _ hw256_1; first | rwa [add_block] at this | exact this) GW257.out)) | (dsimp only; exact Nat.ne_of_lt (Nat.lt_of_lt_of_le (by have := World.block_lt_of_cell? _ _ hw256_1; first | rwa [add_block] at this | exact this) GW257.out))) _).trans (((cell_far (p := ⟨gb257, _, none⟩) (by first | exact Nat.ne_of_lt (Nat.lt_of_lt_of_le (by have := World.block_lt_of_cell? _ _ hw256_1; first | rwa [add_block] at this | exact this) GW257.out) | (rw [add_block]; exact Nat.ne_of_lt (Nat.lt_of_lt_of_le (by have := World.block_lt_of_cell? _ _ hw256_1; first | rwa [add_block] at this | exact this) GW257.out)) | (show (Addr.add _ _).block ≠ _; rw [add_block]; exact Nat.ne_of_lt (Nat.lt_of_lt_of_le (by have := World.block_lt_of_cell? _ _ hw256_1; first | rwa [add_block] at this | exact this) GW257.out)) | (dsimp only; exact Nat.ne_of_lt (Nat.lt_of_lt_of_le (by have := World.block_lt_of_cell? _ _ hw256_1; first | rwa [add_block] at this | exact this) GW257.out))) _).trans (((cell_far (p := ⟨gb257, _, none⟩) (by first | exact Nat.ne_of_lt (Nat.lt_of_lt_of_le (by have := World.block_lt_of_cell? _ _ hw256_1; first | rwa [add_block] at this | exact this) GW257.out) | (rw [add_block]; exact Nat.ne_of_lt (Nat.lt_of_lt_of_le (by have := World.block_lt_of_cell? _ _ hw256_1; first | rwa [add_block] at this | exact this) GW257.out)) | (show (Addr.add _ _).block ≠ _; rw [add_block]; exact Nat.ne_of_lt (Nat.lt_of_lt_of_le (by have := World.block_lt_of_cell? _ _ hw256_1; first | rwa [add_block] at this | exact this) GW257.out)) | (dsimp only; exact Nat.ne_of_lt (Nat.lt_of_lt_of_le (by have := World.block_lt_of_cell? _ _ hw256_1; first | rwa [add_block] at this | exact this) GW257.out))) _).trans (hHeld.2.2.2.2.1)))))))), ((cell_far (p := ⟨gb257, _, none⟩) (by first | exact Nat.ne_of_lt (Nat.lt_of_lt_of_le (by have := World.block_lt_of_cell? _ _ hw256_2; first | rwa [add_block] at this | exact this) GW257.out) | (rw [add_block]; exact Nat.ne_of_lt (Nat.lt_of_lt_of_le (by have := World.block_lt_of_cell? _ _ hw256_2; first | rwa [add_block] at this | exact this) GW257.out)) | (show (Addr.add _ _).block ≠ _; rw [add_block]; exact Nat.ne_of_lt (Nat.lt_of_lt_of_le (by have := World.block_lt_of_cell? _ _ hw256_2; first | rwa [add_block] at this | exact this) GW257.out)) | (dsimp only; exact Nat.ne_of_lt (Nat.lt_of_lt_of_le (by have := World.block_lt_of_cell? _ _ hw256_2; first | rwa [add_block] at this | exact this) GW257.out))) _).trans (((cell_far (p := ⟨gb257, _, none⟩) (by first | exact Nat.ne_of_lt (Nat.lt_of_lt_of_le (by have := World.block_lt_of_cell? _ _ hw256_2; first | rwa [add_block] at this | exact this) GW257.out) | (rw [add_block]; exact Nat.ne_of_lt (Nat.lt_of_lt_of_le (by have := World.block_lt_of_cell? _ _ hw256_2; first | rwa [add_block] at this | exact this) GW257.out)) | (show (Addr.add _ _).block ≠ _; rw [add_block]; exact Nat.ne_of_lt (Nat.lt_of_lt_of_le (by have := World.block_lt_of_cell? _ _ hw256_2; first | rwa [add_block] at this | exact this) GW257.out)) | (dsimp only; exact Nat.ne_of_lt (Nat.lt_of_lt_of_le (by have := World.block_lt_of_cell? _ _ hw256_2; first | rwa [add_block] at this | exact this) GW257.out))) _).trans (((cell_far (p := ⟨gb257, _, none⟩) (by first | exact Nat.ne_of_lt (Nat.lt_of_lt_of_le (by have := World.block_lt_of_cell? _ _ hw256_2; first | rwa [add_block] at this | exact this) GW257.out) | (rw [add_block]; exact Nat.ne_of_lt (Nat.lt_of_lt_of_le (by have := World.block_lt_of_cell? _ _ hw256_2; first | rwa [add_block] at this | exact this) GW257.out)) | (show (Addr.add _ _).block ≠ _; rw [add_block]; exact Nat.ne_of_lt (Nat.lt_of_lt_of_le (by have := World.block_lt_of_cell? _ _ hw256_2; first | rwa [add_block] at this | exact this) GW257.out)) | (dsimp only; exact Nat.ne_of_lt (Nat.lt_of_lt_of_le (by have := World.block_lt_of_cell? _ _ hw256_2; first | rwa [add_block] at this | exact this) GW257.out))) _).trans (((cell_far (p := ⟨gb257, _, none⟩) (by first | exact Nat.ne_of_lt (Nat.lt_of_lt_of_le (by have := World.block_lt_of_cell? _ _ hw256_2; first | rwa [add_block] at this | exact this) GW257.out) | (rw [add_block]; exact Nat.ne_of_lt (Nat.lt_of_lt_of_le (by have := World.block_lt_of_cell? _ _ hw256_2; first | rwa [add_block] at this | exact this) GW257.out)) | (show (Addr.add _ _).block ≠ _; rw [add_block]; exact Nat.ne_of_lt (Nat.lt_of_lt_of_le (by have := World.block_lt_of_cell? _ _ hw256_2; first | rwa [add_block] at this | exact this) GW257.out)) | (dsimp only; exact Nat.ne_of_lt (Nat.lt_of_lt_of_le (by have := World.block_lt_of_cell? _ _ hw256_2; first | rwa [add_block] at this | exact this) GW257.out))) _).trans (hHeld.2.2.2.2.2.1)))))))), ((cell_far (p := ⟨gb257, _, none⟩) (by first | exact Nat.ne_of_lt (Nat.lt_of_lt_of_le (by have := World.block_lt_of_cell? _ _ hw256_3; first | rwa [add_block] at this | exact this) GW257.out) | (rw [add_block]; exact Nat.ne_of_lt (Nat.lt_of_lt_of_le (by have := World.block_lt_of_cell? _ _ hw256_3; first | rwa [add_block] at this | exact this) GW257.out)) | (show (Addr.add _ _).block ≠ _; rw [add_block]; exact Nat.ne_of_lt (Nat.lt_of_lt_of_le (by have := World.block_lt_of_cell? _ _ hw256_3; first | rwa [add_block] at this | exact this) GW257.out)) | (dsimp only; exact Nat.ne_of_lt (Nat.lt_of_lt_of_le (by have := World.block_lt_of_cell? _ _ hw256_3; first | rwa [add_block] at this | exact this) GW257.out))) _).trans (((cell_far (p := ⟨gb257, _, none⟩) (by first | exact Nat.ne_of_lt (Nat.lt_of_lt_of_le (by have := World.block_lt_of_cell? _ _ hw256_3; first | rwa [add_block] at this | exact this) GW257.out) | (rw [add_block]; exact Nat.ne_of_lt (Nat.lt_of_lt_of_le (by have := World.block_lt_of_cell? _ _ hw256_3; first | rwa [add_block] at this | exact this) GW257.out)) | (show (Addr.add _ _).block ≠ _; rw [add_block]; exact Nat.ne_of_lt (Nat.lt_of_lt_of_le (by have := World.block_lt_of_cell? _ _ hw256_3; first | rwa [add_block] at this | exact this) GW257.out)) | (dsimp only; exact Nat.ne_of_lt (Nat.lt_of_lt_of_le (by have := World.block_lt_of_cell? _ _ hw256_3; first | rwa [add_block] at this | exact this) GW257.out))) _).trans (((cell_far (p := ⟨gb257, _, none⟩) (by first | exact Nat.ne_of_lt (Nat.lt_of_lt_of_le (by have := World.block_lt_of_cell? _ _ hw256_3; first | rwa [add_block] at this | exact this) GW257.out) | (rw [add_block]; exact Nat.ne_of_lt (Nat.lt_of_lt_of_le (by have := World.block_lt_of_cell? _ _ hw256_3; first | rwa [add_block] at this | exact this) GW257.out)) | (show (Addr.add _ _).block ≠ _; rw [add_block]; exact Nat.ne_of_lt (Nat.lt_of_lt_of_le (by have := World.block_lt_of_cell? _ _ hw256_3; first | rwa [add_block] at this | exact this) GW257.out)) | (dsimp only; exact Nat.ne_of_lt (Nat.lt_of_lt_of_le (by have := World.block_lt_of_cell? _ _ hw256_3; first | rwa [add_block] at this | exact this) GW257.out))) _).trans (((cell_far (p := ⟨gb257, _, none⟩) (by first | exact Nat.ne_of_lt (Nat.lt_of_lt_of_le (by have := World.block_lt_of_cell? _ _ hw256_3; first | rwa [add_block] at this | exact this) GW257.out) | (rw [add_block]; exact Nat.ne_of_lt (Nat.lt_of_lt_of_le (by have := World.block_lt_of_cell? _ _ hw256_3; first | rwa [add_block] at this | exact this) GW257.out)) | (show (Addr.add _ _).block ≠ _; rw [add_block]; exact Nat.ne_of_lt (Nat.lt_of_lt_of_le (by have := World.block_lt_of_cell? _ _ hw256_3; first | rwa [add_block] at this | exact this) GW257.out)) | (dsimp only; exact Nat.ne_of_lt (Nat.lt_of_lt_of_le (by have := World.block_lt_of_cell? _ _ hw256_3; first | rwa [add_block] at this | exact this) GW257.out))) _).trans (hHeld.2.2.2.2.2.2))))))))⟩ (fun hHeld => ?_)
                   clear hK K
                   refine done_ (done_of HT_.out (by kernel_rfl)) ?_
                   have n0_ : Aside0 (Kd.R Kd.bool 4 ((((w34.setCell ⟨gb257, 0, none⟩ (.int .i64 ((rd_T37 l0_1 (rd t252 x10_2)).f0))).setCell ⟨gb257, 1, none⟩ (.int .i64 ((rd_T37 l0_1 (rd t252 x10_2)).f1))).setCell ⟨gb257, 2, none⟩ (.int .i64 ((rd_T37 l0_1 (rd t252 x10_2)).f2))).setCell ⟨gb257, 3, none⟩ (.int .i64 ((rd_T37 l0_1 (rd t252 x10_2)).f3))) w.heap.size (fun _ => True) (.slice (some ⟨go8, 0, none⟩) x7_2.length co8) x7_2) := ⟨by (with_reducible repeat (first | apply Kd.R_alloc | apply Kd.R_drewN | apply Kd.R_drew)); exact Kd.R_mono (Kd.R_far (p := ⟨gb257, 3, none⟩) (Kd.R_far (p := ⟨gb257, 2, none⟩) (Kd.R_far (p := ⟨gb257, 1, none⟩) (Kd.R_far (p := ⟨gb257, 0, none⟩) (Kd.R_types HO_7.out BK257.out (by decide)) (fun _ hk => hk.2) (.int .i64 ((rd_T37 l0_1 (rd t252 x10_2)).f0))) (fun _ hk => hk.2) (.int .i64 ((rd_T37 l0_1 (rd t252 x10_2)).f1))) (fun _ hk => hk.2) (.int .i64 ((rd_T37 l0_1 (rd t252 x10_2)).f2))) (fun _ hk => hk.2) (.int .i64 ((rd_T37 l0_1 (rd t252 x10_2)).f3))) (fun _ hk => trivial)⟩
                   have n1_ : Aside0 (Kd.R (Kd.int .i64) 3 ((((w34.setCell ⟨gb257, 0, none⟩ (.int .i64 ((rd_T37 l0_1 (rd t252 x10_2)).f0))).setCell ⟨gb257, 1, none⟩ (.int .i64 ((rd_T37 l0_1 (rd t252 x10_2)).f1))).setCell ⟨gb257, 2, none⟩ (.int .i64 ((rd_T37 l0_1 (rd t252 x10_2)).f2))).setCell ⟨gb257, 3, none⟩ (.int .i64 ((rd_T37 l0_1 (rd t252 x10_2)).f3))) w.heap.size (fun _ => True) (.slice (some ad255) t252.length co32) t252) := ⟨by (with_reducible repeat (first | apply Kd.R_alloc | apply Kd.R_drewN | apply Kd.R_drew)); exact Kd.R_mono (Kd.R_far (p := ⟨gb257, 3, none⟩) (Kd.R_far (p := ⟨gb257, 2, none⟩) (Kd.R_far (p := ⟨gb257, 1, none⟩) (Kd.R_far (p := ⟨gb257, 0, none⟩) (Kd.R_types HO_8.out BK257.out (by decide)) (fun _ hk => hk.2) (.int .i64 ((rd_T37 l0_1 (rd t252 x10_2)).f0))) (fun _ hk => hk.2) (.int .i64 ((rd_T37 l0_1 (rd t252 x10_2)).f1))) (fun _ hk => hk.2) (.int .i64 ((rd_T37 l0_1 (rd t252 x10_2)).f2))) (fun _ hk => hk.2) (.int .i64 ((rd_T37 l0_1 (rd t252 x10_2)).f3))) (fun _ hk => trivial)⟩
                   have n2_ : Aside0 (((((w34.setCell ⟨gb257, 0, none⟩ (.int .i64 ((rd_T37 l0_1 (rd t252 x10_2)).f0))).setCell ⟨gb257, 1, none⟩ (.int .i64 ((rd_T37 l0_1 (rd t252 x10_2)).f1))).setCell ⟨gb257, 2, none⟩ (.int .i64 ((rd_T37 l0_1 (rd t252 x10_2)).f2))).setCell ⟨gb257, 3, none⟩ (.int .i64 ((rd_T37 l0_1 (rd t252 x10_2)).f3))).heap[gb247]? = some (.cells #[.int .i64 a0_0, .slice (some ad256) l0_1.length c0_1] 24 (0, 0))) := ⟨by (with_reducible repeat (first | refine blk_drewN ?_ _ | refine blk_drew ?_ | refine blk_alloc ?_ _)); refine blk_far ?_ NB247_257.out _; (with_reducible repeat (first | refine blk_drewN ?_ _ | refine blk_drew ?_ | refine blk_alloc ?_ _)); refine blk_far ?_ NB247_257.out _; (with_reducible repeat (first | refine blk_drewN ?_ _ | refine blk_drew ?_ | refine blk_alloc ?_ _)); refine blk_far ?_ NB247_257.out _; (with_reducible repeat (first | refine blk_drewN ?_ _ | refine blk_drew ?_ | refine blk_alloc ?_ _)); refine blk_far ?_ NB247_257.out _; (with_reducible repeat (first | refine blk_drewN ?_ _ | refine blk_drew ?_ | refine blk_alloc ?_ _)); exact BK247.out⟩
                   have n3_ : Aside0 (((((w34.setCell ⟨gb257, 0, none⟩ (.int .i64 ((rd_T37 l0_1 (rd t252 x10_2)).f0))).setCell ⟨gb257, 1, none⟩ (.int .i64 ((rd_T37 l0_1 (rd t252 x10_2)).f1))).setCell ⟨gb257, 2, none⟩ (.int .i64 ((rd_T37 l0_1 (rd t252 x10_2)).f2))).setCell ⟨gb257, 3, none⟩ (.int .i64 ((rd_T37 l0_1 (rd t252 x10_2)).f3))).heap[gb257]? = some (.cells #[.int .i64 ((rd_T37 l0_1 (rd t252 x10_2)).f0), .int .i64 ((rd_T37 l0_1 (rd t252 x10_2)).f1), .int .i64 ((rd_T37 l0_1 (rd t252 x10_2)).f2), .int .i64 ((rd_T37 l0_1 (rd t252 x10_2)).f3)] 37 (0, 0))) := ⟨by (with_reducible repeat (first | refine blk_drewN ?_ _ | refine blk_drew ?_ | refine blk_alloc ?_ _)); refine blk_put (cs := #[.int .i64 ((rd_T37 l0_1 (rd t252 x10_2)).f0), .int .i64 ((rd_T37 l0_1 (rd t252 x10_2)).f1), .int .i64 ((rd_T37 l0_1 (rd t252 x10_2)).f2), .int .i64 0]) ?_ 3 _ rfl; (with_reducible repeat (first | refine blk_drewN ?_ _ | refine blk_drew ?_ | refine blk_alloc ?_ _)); refine blk_put (cs := #[.int .i64 ((rd_T37 l0_1 (rd t252 x10_2)).f0), .int .i64 ((rd_T37 l0_1 (rd t252 x10_2)).f1), .int .i64 0, .int .i64 0]) ?_ 2 _ rfl; (with_reducible repeat (first | refine blk_drewN ?_ _ | refine blk_drew ?_ | refine blk_alloc ?_ _)); refine blk_put (cs := #[.int .i64 ((rd_T37 l0_1 (rd t252 x10_2)).f0), .int .i64 0, .int .i64 0, .int .i64 0]) ?_ 1 _ rfl; (with_reducible repeat (first | refine blk_drewN ?_ _ | refine blk_drew ?_ | refine blk_alloc ?_ _)); refine blk_put (cs := #[.int .i64 0, .int .i64 0, .int .i64 0, .int .i64 0]) ?_ 0 _ rfl; (with_reducible repeat (first | refine blk_drewN ?_ _ | refine blk_drew ?_ | refine blk_alloc ?_ _)); exact BK257.out⟩
                   have n4_ : Aside0 (Below w.heap.size w ((((w34.setCell ⟨gb257, 0, none⟩ (.int .i64 ((rd_T37 l0_1 (rd t252 x10_2)).f0))).setCell ⟨gb257, 1, none⟩ (.int .i64 ((rd_T37 l0_1 (rd t252 x10_2)).f1))).setCell ⟨gb257, 2, none⟩ (.int .i64 ((rd_T37 l0_1 (rd t252 x10_2)).f2))).setCell ⟨gb257, 3, none⟩ (.int .i64 ((rd_T37 l0_1 (rd t252 x10_2)).f3)))) := ⟨by repeat (first | (with_reducible first | exact HB.out | apply below_alloc | apply pw_below_drewN | apply below_drew1 | refine below_set ?_ GE247.out | refine below_set ?_ GE257.out) | exact HB.out)⟩
                   (try clear HO_7)
                   (try clear HO_8)
                   (try clear BK247)
                   (try clear BK257)
                   (try clear HB)
                   generalize ((((w34.setCell ⟨gb257, 0, none⟩ (.int .i64 ((rd_T37 l0_1 (rd t252 x10_2)).f0))).setCell ⟨gb257, 1, none⟩ (.int .i64 ((rd_T37 l0_1 (rd t252 x10_2)).f1))).setCell ⟨gb257, 2, none⟩ (.int .i64 ((rd_T37 l0_1 (rd t252 x10_2)).f2))).setCell ⟨gb257, 3, none⟩ (.int .i64 ((rd_T37 l0_1 (rd t252 x10_2)).f3))) = w39 at n0_ n1_ n2_ n3_ n4_ ⊢
                   have HO_7 := n0_
                   have HO_8 := n1_
                   have BK247 := n2_
                   have BK257 := n3_
                   have HB := n4_
                   clear n0_ n1_ n2_ n3_ n4_
                   have hnb40 := NB257_247.out
                   have hnc40 := NB247_257.out
                   have hcz41_0 : w39.cell? ⟨gb257, 0, none⟩ = some (.int .i64 ((rd_T37 l0_1 (rd t252 x10_2)).f0)) := (blk_cell BK257.out 0).trans rfl
                   have hcz41_1 : w39.cell? ⟨gb257, 1, none⟩ = some (.int .i64 ((rd_T37 l0_1 (rd t252 x10_2)).f1)) := (blk_cell BK257.out 1).trans rfl
                   have hcz41_2 : w39.cell? ⟨gb257, 2, none⟩ = some (.int .i64 ((rd_T37 l0_1 (rd t252 x10_2)).f2)) := (blk_cell BK257.out 2).trans rfl
                   have hcz41_3 : w39.cell? ⟨gb257, 3, none⟩ = some (.int .i64 ((rd_T37 l0_1 (rd t252 x10_2)).f3)) := (blk_cell BK257.out 3).trans rfl
                   have hfz41_0 := blk_frozen BK257.out 0
                   have hfz41_1 := blk_frozen BK257.out 1
                   have hfz41_2 := blk_frozen BK257.out 2
                   have hfz41_3 := blk_frozen BK257.out 3
                   have p258 : 0 ≤ (((rd_T37 l0_1 (rd t252 x10_2)).f0) : Int) := of_decide_eq_true (by first | (with_reducible assumption) | assumption)
                   have q258 : ((rd_T37 l0_1 (rd t252 x10_2)).f0) < (x7_2.length : Int) := of_decide_eq_true (by first | (with_reducible assumption) | assumption)
                   obtain ⟨ad258, e258, hx258_0⟩ := Kd.at_bool (Kd.R_reads' HO_7.out).2.2 ((rd_T37 l0_1 (rd t252 x10_2)).f0) p258 q258
                   (try rw [← Nbq26.out] at hx258_0)
                   obtain rfl : (⟨go8, 0, none⟩ : Addr) = ad258 := (by injection e258)
                   (first | simp only [add_plain] at hx258_0 | simp only [add_at] at hx258_0 | simp only [Addr.add, Nat.zero_add] at hx258_0 | skip)
                   replace p258 := eq_true p258
                   replace q258 := eq_true q258
                   have p28 : 0 ≤ (((rd_T37 l0_1 (rd t252 x10_2)).f0) : Int) := of_decide_eq_true (by first | (with_reducible assumption) | assumption)
                   have q28 : (((rd_T37 l0_1 (rd t252 x10_2)).f0) : Int) < ((x7_2.length : Int) : Int) := of_decide_eq_true (by first | (with_reducible assumption) | assumption)
                   obtain ⟨hx28_0, hf28_0⟩ := Kd.R_celln false HO_7.out (((rd_T37 l0_1 (rd t252 x10_2)).f0) : Int) p28 q28
                   replace p28 := eq_true p28
                   replace q28 := eq_true q28
                   obtain ⟨hy42_, hz42_⟩ := Kd.R_celln false HO_7.out (((rd_T37 l0_1 (rd t252 x10_2)).f0) : Int) (of_decide_eq_true (by first | (with_reducible assumption) | assumption)) (of_decide_eq_true (by first | (with_reducible assumption) | assumption))
                   have HP42 := Kd.R_putg HO_7.out (((rd_T37 l0_1 (rd t252 x10_2)).f0) : Int) true
                   try go_wp2_with (first | ((with_reducible refine gate_store (t := 4) (p := 56) rfl ?_); refine store_event (t := 4) (p := 56) (v := ?vo_w43) (w1 := (w39.setCell ⟨go8, (((rd_T37 l0_1 (rd t252 x10_2)).f0) : Int).toNat, none⟩ (.bool true))) ?hg ?ho ?hn ?hr ?_; (case ho => rfl); (case hg => rfl); (case hn => rfl); (case hr => first | (go_simp; done) | (go_simp; rfl)); intro w43 hw; have hg : w39.grownBy w43 (some go8) := (by rw [hw]; exact HP42.2); have hp_ : Kd.R Kd.bool 4 w43 w.heap.size (fun _ => True) (.slice (some ⟨go8, 0, none⟩) x7_2.length co8) y259 := (by rw [hw, Ny259.out]; exact HP42.1); clear HP42; have n0_ := Aside0.mk (hp_); have n1_ := Aside0.mk (Kd.R_over' (v := (.slice (some ⟨go8, 0, none⟩) x7_2.length co8)) (by (with_reducible repeat (first | apply Kd.R_alloc | apply Kd.R_drewN | apply Kd.R_drew)); exact HO_8.out) (Kd.R_typed HO_7.out) (by decide) hg); have n2_ := Aside0.mk (blk_grown (g := gb247) (o := .cells #[.int .i64 a0_0, .slice (some ad256) l0_1.length c0_1] 24 (0, 0)) (by (with_reducible repeat (first | refine blk_drewN ?_ _ | refine blk_drew ?_ | refine blk_alloc ?_ _)); exact BK247.out) hg (Kd.R_ne HO_7.out BK247.out (by decide))); have n3_ := Aside0.mk (blk_grown (g := gb257) (o := .cells #[.int .i64 ((rd_T37 l0_1 (rd t252 x10_2)).f0), .int .i64 ((rd_T37 l0_1 (rd t252 x10_2)).f1), .int .i64 ((rd_T37 l0_1 (rd t252 x10_2)).f2), .int .i64 ((rd_T37 l0_1 (rd t252 x10_2)).f3)] 37 (0, 0)) (by (with_reducible repeat (first | refine blk_drewN ?_ _ | refine blk_drew ?_ | refine blk_alloc ?_ _)); exact BK257.out) hg (Kd.R_ne HO_7.out BK257.out (by decide))); have n4_ := Aside0.mk ((by rw [hw]; exact below_set (HB.out) GB8.out : Below w.heap.size w w43)); clear HO_7; clear HO_8; clear BK247; clear BK257; clear HB; have HO_7 := n0_; have HO_8 := n1_; have BK247 := n2_; have BK257 := n3_; have HB := n4_; clear n0_ n1_ n2_ n3_ n4_; clear hg hw hp_; have hcz44_0 : w43.cell? ⟨gb257, 0, none⟩ = some (.int .i64 ((rd_T37 l0_1 (rd t252 x10_2)).f0)) := (blk_cell BK257.out 0).trans rfl; have hcz44_1 : w43.cell? ⟨gb257, 1, none⟩ = some (.int .i64 ((rd_T37 l0_1 (rd t252 x10_2)).f1)) := (blk_cell BK257.out 1).trans rfl; have hcz44_2 : w43.cell? ⟨gb257, 2, none⟩ = some (.int .i64 ((rd_T37 l0_1 (rd t252 x10_2)).f2)) := (blk_cell BK257.out 2).trans rfl; have hcz44_3 : w43.cell? ⟨gb257, 3, none⟩ = some (.int .i64 ((rd_T37 l0_1 (rd t252 x10_2)).f3)) := (blk_cell BK257.out 3).trans rfl; have hfz44_0 := blk_frozen BK257.out 0; have hfz44_1 := blk_frozen BK257.out 1; have hfz44_2 := blk_frozen BK257.out 2; have hfz44_3 := blk_frozen BK257.out 3; have p31 : 0 ≤ (((rd_T37 l0_1 (rd t252 x10_2)).f1) : Int) := of_decide_eq_true (by first | (with_reducible assumption) | assumption); have q31 : (((rd_T37 l0_1 (rd t252 x10_2)).f1) : Int) < ((x7_2.length : Int) : Int) := of_decide_eq_true (by first | (with_reducible assumption) | assumption); obtain ⟨hx31_0, hf31_0⟩ := Kd.R_celln false HO_7.out (((rd_T37 l0_1 (rd t252 x10_2)).f1) : Int) p31 q31; replace p31 := eq_true p31; replace q31 := eq_true q31; obtain ⟨hy45_, hz45_⟩ := Kd.R_celln false HO_7.out (((rd_T37 l0_1 (rd t252 x10_2)).f1) : Int) (of_decide_eq_true (by first | (with_reducible assumption) | assumption)) (of_decide_eq_true (by first | (with_reducible assumption) | assumption)); have HP45 := Kd.R_putg HO_7.out (((rd_T37 l0_1 (rd t252 x10_2)).f1) : Int) true) | ((with_reducible refine gate_store (t := 4) (p := 60) rfl ?_); refine store_event (t := 4) (p := 60) (v := ?vo_w46) (w1 := (w43.setCell ⟨go8, (((rd_T37 l0_1 (rd t252 x10_2)).f1) : Int).toNat, none⟩ (.bool true))) ?hg ?ho ?hn ?hr ?_; (case ho => rfl); (case hg => rfl); (case hn => rfl); (case hr => first | (go_simp; done) | (go_simp; rfl)); intro w46 hw; have hg : w43.grownBy w46 (some go8) := (by rw [hw]; exact HP45.2); have hp_ : Kd.R Kd.bool 4 w46 w.heap.size (fun _ => True) (.slice (some ⟨go8, 0, none⟩) x7_2.length co8) y260 := (by rw [hw, Ny260.out]; exact HP45.1); clear HP45; have n0_ := Aside0.mk (hp_); have n1_ := Aside0.mk (Kd.R_over' (v := (.slice (some ⟨go8, 0, none⟩) x7_2.length co8)) (by (with_reducible repeat (first | apply Kd.R_alloc | apply Kd.R_drewN | apply Kd.R_drew)); exact HO_8.out) (Kd.R_typed HO_7.out) (by decide) hg); have n2_ := Aside0.mk (blk_grown (g := gb247) (o := .cells #[.int .i64 a0_0, .slice (some ad256) l0_1.length c0_1] 24 (0, 0)) (by (with_reducible repeat (first | refine blk_drewN ?_ _ | refine blk_drew ?_ | refine blk_alloc ?_ _)); exact BK247.out) hg (Kd.R_ne HO_7.out BK247.out (by decide))); have n3_ := Aside0.mk (blk_grown (g := gb257) (o := .cells #[.int .i64 ((rd_T37 l0_1 (rd t252 x10_2)).f0), .int .i64 ((rd_T37 l0_1 (rd t252 x10_2)).f1), .int .i64 ((rd_T37 l0_1 (rd t252 x10_2)).f2), .int .i64 ((rd_T37 l0_1 (rd t252 x10_2)).f3)] 37 (0, 0)) (by (with_reducible repeat (first | refine blk_drewN ?_ _ | refine blk_drew ?_ | refine blk_alloc ?_ _)); exact BK257.out) hg (Kd.R_ne HO_7.out BK257.out (by decide))); have n4_ := Aside0.mk ((by rw [hw]; exact below_set (HB.out) GB8.out : Below w.heap.size w w46)); clear HO_7; clear HO_8; clear BK247; clear BK257; clear HB; have HO_7 := n0_; have HO_8 := n1_; have BK247 := n2_; have BK257 := n3_; have HB := n4_; clear n0_ n1_ n2_ n3_ n4_; clear hg hw hp_))
                   (try simp only [← hl7_2])
                   go_roundg k2
                   case measure => have := HK1.out; have := HK2.out; omega
                   case rel => exact ⟨(y260), (wrap64 (x10_2 + 1)), (by first | rfl | (simp; done) | (simp [*]; done)), H', ⟨by have := HK1.out; have := HK2.out; omega⟩, ⟨by (try simp only [hl7_1]); (try simp only [hl7_2]); (with_reducible repeat (first | apply Kd.R_alloc | apply Kd.R_drewN | apply Kd.R_drew)); exact HO_7.out⟩, ⟨by (try simp only [hl7_1]); (try simp only [hl7_2]); (with_reducible repeat (first | apply Kd.R_alloc | apply Kd.R_drewN | apply Kd.R_drew)); exact HO_8.out⟩, ⟨by (try simp only [hl7_1]); (try simp only [hl7_2]); (with_reducible repeat (first | refine blk_drewN ?_ _ | refine blk_drew ?_ | refine blk_alloc ?_ _)); exact BK247.out⟩, ⟨by repeat (first | (with_reducible first | exact HB.out | apply below_alloc | apply pw_below_drewN | apply below_drew1 | refine below_set ?_ GE247.out | refine below_set ?_ GE257.out) | exact HB.out)⟩⟩
                  ·rw [if_neg c30] at H
                   exact absurd H (by simp)
                 ·rw [if_neg c29] at H
                  exact absurd H (by simp)
                ·replace c27 := Bool.eq_false_iff.mpr c27
                 subst c27
                 have H1 : (if 0 ≤ ((rd_T37 l0_1 (rd t252 x10_2)).f1) then (if ((rd_T37 l0_1 (rd t252 x10_2)).f1) < (x7_2.length : Int) then (if rdOf false x7_2 ((rd_T37 l0_1 (rd t252 x10_2)).f1) = true then (pylonref15_reach.l1 k2 ((x7_2.set (((rd_T37 l0_1 (rd t252 x10_2)).f0) : Int).toNat true).set (((rd_T37 l0_1 (rd t252 x10_2)).f1) : Int).toNat true) t252 x9_1 (wrap64 (x10_2 + 1)) a0_0 l0_1) else (pylonref15_reach.l1 k2 x7_2 t252 x9_1 (wrap64 (x10_2 + 1)) a0_0 l0_1)) else (none)) else (none)) = some r := by rw [if_neg (show ¬ (false = true) by decide)] at H; exact H
                 clear H
                 have H := H1
                 clear H1
                 by_cases c47 : 0 ≤ ((rd_T37 l0_1 (rd t252 x10_2)).f1)
                 ·rw [if_pos c47] at H
                  have c47b0 : decide (0 ≤ ((rd_T37 l0_1 (rd t252 x10_2)).f1)) = true := decide_eq_true c47
                  clear c47
                  by_cases c48 : ((rd_T37 l0_1 (rd t252 x10_2)).f1) < (x7_2.length : Int)
                  ·rw [if_pos c48] at H
                   have c48b0 : decide (((rd_T37 l0_1 (rd t252 x10_2)).f1) < (x7_2.length : Int)) = true := decide_eq_true c48
                   clear c48
                   obtain ⟨bq49, hbq49⟩ : ∃ b_ : Bool, b_ = (rdOf false x7_2 ((rd_T37 l0_1 (rd t252 x10_2)).f1)) := ⟨_, rfl⟩
                   replace H : (if bq49 = true then (pylonref15_reach.l1 k2 ((x7_2.set (((rd_T37 l0_1 (rd t252 x10_2)).f0) : Int).toNat true).set (((rd_T37 l0_1 (rd t252 x10_2)).f1) : Int).toNat true) t252 x9_1 (wrap64 (x10_2 + 1)) a0_0 l0_1) else (pylonref15_reach.l1 k2 x7_2 t252 x9_1 (wrap64 (x10_2 + 1)) a0_0 l0_1)) = some r := by rw [← hbq49] at H; exact H
                   have Nbq49 := Aside0.mk hbq49
                   clear hbq49
                   by_cases c50 : bq49 = true
                   ·subst c50
                    have H1 : (pylonref15_reach.l1 k2 ((x7_2.set (((rd_T37 l0_1 (rd t252 x10_2)).f0) : Int).toNat true).set (((rd_T37 l0_1 (rd t252 x10_2)).f1) : Int).toNat true) t252 x9_1 (wrap64 (x10_2 + 1)) a0_0 l0_1) = some r := by rw [if_pos rfl] at H; exact H
                    clear H
                    have H := H1
                    clear H1
                    obtain ⟨y262, hy262⟩ : ∃ y_ : List Bool, y_ = (x7_2.set (((rd_T37 l0_1 (rd t252 x10_2)).f0) : Int).toNat true) := ⟨_, rfl⟩
                    replace H : (pylonref15_reach.l1 k2 (y262.set (((rd_T37 l0_1 (rd t252 x10_2)).f1) : Int).toNat true) t252 x9_1 (wrap64 (x10_2 + 1)) a0_0 l0_1) = some r := by first | (rw [hy262]; with_reducible exact H) | (have H2_ := (Option.bind_some _ _).symm.trans H; rw [hy262]; with_reducible exact H2_) | (have H2_ := (Option.bind_some _ _).symm.trans H; with_reducible exact H2_) | with_reducible exact H | (rw [hy262]; exact H) | exact H
                    have Ny262 := Aside0.mk hy262
                    clear hy262
                    obtain ⟨y263, hy263⟩ : ∃ y_ : List Bool, y_ = (y262.set (((rd_T37 l0_1 (rd t252 x10_2)).f1) : Int).toNat true) := ⟨_, rfl⟩
                    replace H : (pylonref15_reach.l1 k2 y263 t252 x9_1 (wrap64 (x10_2 + 1)) a0_0 l0_1) = some r := by first | (rw [hy263]; with_reducible exact H) | (have H2_ := (Option.bind_some _ _).symm.trans H; rw [hy263]; with_reducible exact H2_) | (have H2_ := (Option.bind_some _ _).symm.trans H; with_reducible exact H2_) | with_reducible exact H | (rw [hy263]; exact H) | exact H
                    have Ny263 := Aside0.mk hy263
                    clear hy263
                    have H' := Aside0.mk H
                    clear H
                    obtain ⟨Ao53, co53, eo53⟩ := Kd.R_slice HO_8.out
                    subst eo53
                    try go_wp2
                    have n0_ := Aside0.mk (Kd.R_drew HO_7.out)
                    have n1_ := Aside0.mk (Kd.R_drew HO_8.out)
                    have n2_ := Aside0.mk (blk_drew BK247.out)
                    have n3_ := Aside0.mk (below_drew1 HB.out)
                    clear HO_7; clear HO_8; clear BK247; clear HB
                    have HO_7 := n0_
                    have HO_8 := n1_
                    have BK247 := n2_
                    have HB := n3_
                    clear n0_ n1_ n2_ n3_
                    have p255 : 0 ≤ (x10_2 : Int) := of_decide_eq_true (by first | (with_reducible assumption) | assumption)
                    have q255 : x10_2 < (t252.length : Int) := of_decide_eq_true (by first | (with_reducible assumption) | assumption)
                    obtain ⟨ad255, e255, hx255_0⟩ := Kd.at_int (Kd.R_reads' HO_8.out).2.2 x10_2 p255 q255
                    cases e255
                    replace p255 := eq_true p255
                    replace q255 := eq_true q255
                    have p256 : 0 ≤ ((rd t252 x10_2) : Int) := of_decide_eq_true (by first | (with_reducible assumption) | assumption)
                    have q256 : (rd t252 x10_2) < (l0_1.length : Int) := of_decide_eq_true (by first | (with_reducible assumption) | assumption)
                    obtain ⟨ad256, e256, hx256_0, hx256_1, hx256_2, hx256_3⟩ := at_T37 HR0_1.out (rd t252 x10_2) p256 q256
                    have hw256_3 := hx256_3
                    have hw256_2 := hx256_2
                    have hw256_1 := hx256_1
                    have hw256_0 := hx256_0
                    cases e256
                    replace hx256_0 := (HB.out.cell (World.block_lt_of_cell? w _ hx256_0)).trans hx256_0
                    replace hx256_1 := (HB.out.cell (World.block_lt_of_cell? w _ hx256_1)).trans hx256_1
                    replace hx256_2 := (HB.out.cell (World.block_lt_of_cell? w _ hx256_2)).trans hx256_2
                    replace hx256_3 := (HB.out.cell (World.block_lt_of_cell? w _ hx256_3)).trans hx256_3
                    replace p256 := eq_true p256
                    replace q256 := eq_true q256
                    refine start_ (n := 10) (S := fun w' => w'.cell? ⟨gb247, 0, none⟩ = some (.int .i64 a0_0) ∧ w'.cell? ⟨gb247, 1, none⟩ = some (.slice (some ad256) l0_1.length c0_1) ∧ w'.cell? (ad255.add (x10_2).toNat) = some (.int .i64 (rd t252 x10_2)) ∧ w'.cell? (ad256.add (((rd t252 x10_2)).toNat * 4)) = some (.int .i64 ((rd_T37 l0_1 (rd t252 x10_2)).f0)) ∧ w'.cell? ⟨(ad256.add (((rd t252 x10_2)).toNat * 4)).block, (ad256.add (((rd t252 x10_2)).toNat * 4)).off + 1, none⟩ = some (.int .i64 ((rd_T37 l0_1 (rd t252 x10_2)).f1)) ∧ w'.cell? ⟨(ad256.add (((rd t252 x10_2)).toNat * 4)).block, (ad256.add (((rd t252 x10_2)).toNat * 4)).off + 2, none⟩ = some (.int .i64 ((rd_T37 l0_1 (rd t252 x10_2)).f2)) ∧ w'.cell? ⟨(ad256.add (((rd t252 x10_2)).toNat * 4)).block, (ad256.add (((rd t252 x10_2)).toNat * 4)).off + 3, none⟩ = some (.int .i64 ((rd_T37 l0_1 (rd t252 x10_2)).f3))) (ds := []) #[false, false, false, false, false, false, false, false, false, false] (by kernel_rfl) rfl rfl ⟨(blk_cell BK247.out 0).trans rfl, (blk_cell BK247.out 1).trans rfl, hx255_0, ((HB.out.cell (World.block_lt_of_cell? w _ hw256_0)).trans hw256_0), ((HB.out.cell (World.block_lt_of_cell? w _ hw256_1)).trans hw256_1), ((HB.out.cell (World.block_lt_of_cell? w _ hw256_2)).trans hw256_2), ((HB.out.cell (World.block_lt_of_cell? w _ hw256_3)).trans hw256_3)⟩ (fun hHeld => ?_); refine with_tabW pylonref15_reach.tab10 pylonref15_reach.bits10 (fun HT_ HW_ => ?_)
                    generalize wr.drew = w54 at HO_7 HO_8 BK247 HB hx255_0 hx256_0 hx256_1 hx256_2 hx256_3 hHeld ⊢
                    refine pure_ (i := 0) (N := some 33) (v := ?_) (a' := ?_) #[true, false, false, false, false, false, false, false, false, false] rfl rfl (any_of HT_.out (by kernel_rfl)) (fun _ _ _ h => h) (Or.inl ⟨by rfl, ?_⟩) ?_ ?_
                    rotate_left; (intro w'; go_simp; with_reducible rfl); rotate_left; (simp only [Act.put, List.setIfInBounds_toArray, List.set_cons_zero, List.set_cons_succ, i64_w, i32_w]; rfl)
                    refine pure_ (i := 2) (N := some 35) (v := ?_) (a' := ?_) #[true, false, true, false, false, false, false, false, false, false] rfl rfl (any_of HT_.out (by kernel_rfl)) (fun _ _ _ h => h) (Or.inl ⟨by rfl, ?_⟩) ?_ ?_
                    rotate_left; (intro w'; go_simp; with_reducible rfl); rotate_left; (simp only [Act.put, List.setIfInBounds_toArray, List.set_cons_zero, List.set_cons_succ, i64_w, i32_w]; rfl)
                    refine pure_ (i := 3) (N := some 36) (v := ?_) (a' := ?_) #[true, false, true, true, false, false, false, false, false, false] rfl rfl (any_of HT_.out (by kernel_rfl)) (fun _ _ _ h => h) (Or.inl ⟨by rfl, ?_⟩) ?_ ?_
                    rotate_left; (intro w'; go_simp; with_reducible rfl); rotate_left; (simp only [Act.put, List.setIfInBounds_toArray, List.set_cons_zero, List.set_cons_succ, i64_w, i32_w]; rfl)
                    refine pure_ (i := 4) (N := some 37) (v := ?_) (a' := ?_) #[true, false, true, true, true, false, false, false, false, false] rfl rfl (any_of HT_.out (by kernel_rfl)) (fun _ _ _ h => h) (Or.inl ⟨by rfl, ?_⟩) ?_ ?_
                    rotate_left; (intro w'; go_simp; with_reducible rfl); rotate_left; (simp only [Act.put, List.setIfInBounds_toArray, List.set_cons_zero, List.set_cons_succ, i64_w, i32_w]; rfl)
                    refine take_ (i := 1) (N := some 34) (v := ?_) (a' := ?_) #[true, true, true, true, true, false, false, false, false, false] rfl rfl (take_ofW HT_.out HW_.out (by kernel_rfl)) (fun _ _ _ h => h) (Or.inl ⟨by rfl, ?_⟩) hHeld ?_ ?_
                    rotate_left; (rintro w' ⟨s0, s1, s2, s3, s4, s5, s6⟩; go_simp; with_reducible rfl); rotate_left; (simp only [Act.put, List.setIfInBounds_toArray, List.set_cons_zero, List.set_cons_succ, i64_w, i32_w]; rfl)
                    refine take_ (i := 5) (N := some 38) (v := ?_) (a' := ?_) #[true, true, true, true, true, true, false, false, false, false] rfl rfl (take_ofW HT_.out HW_.out (by kernel_rfl)) (fun _ _ _ h => h) (Or.inl ⟨by rfl, ?_⟩) hHeld ?_ ?_
                    rotate_left; (rintro w' ⟨s0, s1, s2, s3, s4, s5, s6⟩; go_simp; with_reducible rfl); rotate_left; (simp only [Act.put, List.setIfInBounds_toArray, List.set_cons_zero, List.set_cons_succ, i64_w, i32_w]; rfl)
                    refine pure_ (i := 6) (N := some 39) (v := ?_) (a' := ?_) #[true, true, true, true, true, true, true, false, false, false] rfl rfl (any_of HT_.out (by kernel_rfl)) (fun _ _ _ h => h) (Or.inl ⟨by rfl, ?_⟩) ?_ ?_
                    rotate_left; (intro w'; go_simp; with_reducible rfl); rotate_left; (simp only [Act.put, List.setIfInBounds_toArray, List.set_cons_zero, List.set_cons_succ, i64_w, i32_w]; rfl)
                    refine take_ (i := 7) (N := some 40) (v := ?_) (a' := ?_) #[true, true, true, true, true, true, true, true, false, false] rfl rfl (take_ofW HT_.out HW_.out (by kernel_rfl)) (fun _ _ _ h => h) (Or.inl ⟨by rfl, ?_⟩) hHeld ?_ ?_
                    rotate_left; (rintro w' ⟨s0, s1, s2, s3, s4, s5, s6⟩; go_simp; with_reducible rfl); rotate_left; (simp only [Act.put, List.setIfInBounds_toArray, List.set_cons_zero, List.set_cons_succ, i64_w, i32_w]; rfl)
                    refine one_ (i := 8) (N := some 11) #[true, true, true, true, true, true, true, true, true, false] rfl rfl (one_of HT_.out (by kernel_rfl)) (by decide) (fun K hK => ?_)
                    refine box_step ?hg (N := 11) ?hd (cs := #[.int .i64 0, .int .i64 0, .int .i64 0, .int .i64 0]) (t := 37) ?hr ?_; (case hd => rfl); (case hg => rfl); (case hr => first | (go_simp; done) | (go_simp; rfl))
                    intro gb257 hg w55 hbox hb
                    have HS2_ := (hb.cell (World.block_lt_of_cell? _ _ (hHeld.2.2.1))).trans (hHeld.2.2.1)
                    have n0_ := Aside0.mk (Kd.R_below (by (with_reducible repeat (first | apply Kd.R_alloc | apply Kd.R_drewN | apply Kd.R_drew)); exact HO_7.out) hb)
                    have n1_ := Aside0.mk (Kd.R_below (by (with_reducible repeat (first | apply Kd.R_alloc | apply Kd.R_drewN | apply Kd.R_drew)); exact HO_8.out) hb)
                    have n2_ := Aside0.mk (blk_below (g := gb247) (o := .cells #[.int .i64 a0_0, .slice (some ad256) l0_1.length c0_1] 24 (0, 0)) (by (with_reducible repeat (first | refine blk_drewN ?_ _ | refine blk_drew ?_ | refine blk_alloc ?_ _)); exact BK247.out) hb)
                    have n3_ := Aside0.mk (below_step (by repeat (first | (with_reducible first | exact HB.out | apply below_alloc | apply pw_below_drewN | apply below_drew1 | refine below_set ?_ GE247.out) | exact HB.out)) hb)
                    have n4_ := Aside0.mk (hbox)
                    have n5_ := Aside0.mk ((by rw [hg]; exact (below_size (by repeat (first | (with_reducible first | exact HB.out | apply below_alloc | apply pw_below_drewN | apply below_drew1 | refine below_set ?_ GE247.out) | exact HB.out))) : w.heap.size ≤ gb257))
                    have n6_ := Aside0.mk ((by rw [hg]; exact (below_size (by repeat (first | (with_reducible first | exact HB.out | apply below_alloc | apply pw_below_drewN | apply below_drew1 | refine below_set ?_ GE247.out) | exact HB.out))) : w.heap.size ≤ gb257))
                    have n7_ := Aside0.mk ((by rw [hg]; exact Nat.ne_of_lt (blk_lt (g := gb247) (o := .cells #[.int .i64 a0_0, .slice (some ad256) l0_1.length c0_1] 24 (0, 0)) (by (with_reducible repeat (first | refine blk_drewN ?_ _ | refine blk_drew ?_ | refine blk_alloc ?_ _)); exact BK247.out)) : gb247 ≠ gb257))
                    have n8_ := Aside0.mk ((by rw [hg]; exact Nat.ne_of_gt (blk_lt (g := gb247) (o := .cells #[.int .i64 a0_0, .slice (some ad256) l0_1.length c0_1] 24 (0, 0)) (by (with_reducible repeat (first | refine blk_drewN ?_ _ | refine blk_drew ?_ | refine blk_alloc ?_ _)); exact BK247.out)) : gb257 ≠ gb247))
                    clear HO_7; clear HO_8; clear BK247; clear HB
                    have HO_7 := n0_
                    have HO_8 := n1_
                    have BK247 := n2_
                    have HB := n3_
                    have BK257 := n4_
                    have GW257 := n5_
                    have GE257 := n6_
                    have NB247_257 := n7_
                    have NB257_247 := n8_
                    clear n0_ n1_ n2_ n3_ n4_ n5_ n6_ n7_ n8_; clear hb hbox hg
                    refine hK.out _ _ ⟨(blk_cell BK247.out 0).trans rfl, (blk_cell BK247.out 1).trans rfl, HS2_, ((HB.out.cell (World.block_lt_of_cell? w _ hw256_0)).trans hw256_0), ((HB.out.cell (World.block_lt_of_cell? w _ hw256_1)).trans hw256_1), ((HB.out.cell (World.block_lt_of_cell? w _ hw256_2)).trans hw256_2), ((HB.out.cell (World.block_lt_of_cell? w _ hw256_3)).trans hw256_3)⟩ (fun hHeld => ?_)
                    clear hK K
                    refine norm_ (a' := ?_) ?_ ?_
                    rotate_left
                    ·show Act.put _ (some 11) _ = _
                     simp only [Act.put, List.setIfInBounds_toArray, List.set_cons_zero, List.set_cons_succ, i64_w, i32_w]
                     rfl
                    refine one_ (i := 9) (N := none) #[true, true, true, true, true, true, true, true, true, true] rfl rfl (one_of HT_.out (by kernel_rfl)) (by decide) (fun K hK => ?_)
                    have hs56 : w55.cell? ⟨gb257, 0, none⟩ = some (.int .i64 0) := (blk_cell BK257.out 0).trans rfl
                    have hfs56 := blk_frozen BK257.out 0
                    have hns56_0 := NB247_257.out
                    have hms56_0 := NB257_247.out
                    have hs57 : w55.cell? ⟨gb257, 1, none⟩ = some (.int .i64 0) := (blk_cell BK257.out 1).trans rfl
                    have hfs57 := blk_frozen BK257.out 1
                    have hns57_0 := NB247_257.out
                    have hms57_0 := NB257_247.out
                    have hs58 : w55.cell? ⟨gb257, 2, none⟩ = some (.int .i64 0) := (blk_cell BK257.out 2).trans rfl
                    have hfs58 := blk_frozen BK257.out 2
                    have hns58_0 := NB247_257.out
                    have hms58_0 := NB257_247.out
                    have hs59 : w55.cell? ⟨gb257, 3, none⟩ = some (.int .i64 0) := (blk_cell BK257.out 3).trans rfl
                    have hfs59 := blk_frozen BK257.out 3
                    have hns59_0 := NB247_257.out
                    have hms59_0 := NB257_247.out
                    refine skip_ (w1 := ?_) (by rfl) rfl ?_ ?_
                    rotate_left
                    ·go_simp
                     rfl
                    refine hK.out _ _ ⟨((cell_far (p := ⟨gb257, _, none⟩) NB247_257.out _).trans (((cell_far (p := ⟨gb257, _, none⟩) NB247_257.out _).trans (((cell_far (p := ⟨gb257, _, none⟩) NB247_257.out _).trans (((cell_far (p := ⟨gb257, _, none⟩) NB247_257.out _).trans (hHeld.1)))))))), ((cell_far (p := ⟨gb257, _, none⟩) NB247_257.out _).trans (((cell_far (p := ⟨gb257, _, none⟩) NB247_257.out _).trans (((cell_far (p := ⟨gb257, _, none⟩) NB247_257.out _).trans (((cell_far (p := ⟨gb257, _, none⟩) NB247_257.out _).trans (hHeld.2.1)))))))), ((cell_far (p := ⟨gb257, _, none⟩) (by first | exact Kd.own_blk (Kd.R_ne HO_8.out BK257.out (by decide)) | (rw [add_block]; exact Kd.own_blk (Kd.R_ne HO_8.out BK257.out (by decide))) | (show (Addr.add _ _).block ≠ _; rw [add_block]; exact Kd.own_blk (Kd.R_ne HO_8.out BK257.out (by decide))) | (dsimp only; exact Kd.own_blk (Kd.R_ne HO_8.out BK257.out (by decide)))) _).trans (((cell_far (p := ⟨gb257, _, none⟩) (by first | exact Kd.own_blk (Kd.R_ne HO_8.out BK257.out (by decide)) | (rw [add_block]; exact Kd.own_blk (Kd.R_ne HO_8.out BK257.out (by decide))) | (show (Addr.add _ _).block ≠ _; rw [add_block]; exact Kd.own_blk (Kd.R_ne HO_8.out BK257.out (by decide))) | (dsimp only; exact Kd.own_blk (Kd.R_ne HO_8.out BK257.out (by decide)))) _).trans (((cell_far (p := ⟨gb257, _, none⟩) (by first | exact Kd.own_blk (Kd.R_ne HO_8.out BK257.out (by decide)) | (rw [add_block]; exact Kd.own_blk (Kd.R_ne HO_8.out BK257.out (by decide))) | (show (Addr.add _ _).block ≠ _; rw [add_block]; exact Kd.own_blk (Kd.R_ne HO_8.out BK257.out (by decide))) | (dsimp only; exact Kd.own_blk (Kd.R_ne HO_8.out BK257.out (by decide)))) _).trans (((cell_far (p := ⟨gb257, _, none⟩) (by first | exact Kd.own_blk (Kd.R_ne HO_8.out BK257.out (by decide)) | (rw [add_block]; exact Kd.own_blk (Kd.R_ne HO_8.out BK257.out (by decide))) | (show (Addr.add _ _).block ≠ _; rw [add_block]; exact Kd.own_blk (Kd.R_ne HO_8.out BK257.out (by decide))) | (dsimp only; exact Kd.own_blk (Kd.R_ne HO_8.out BK257.out (by decide)))) _).trans (hHeld.2.2.1)))))))), ((cell_far (p := ⟨gb257, _, none⟩) (by first | exact Nat.ne_of_lt (Nat.lt_of_lt_of_le (by have := World.block_lt_of_cell? _ _ hw256_0; first | rwa [add_block] at this | exact this) GW257.out) | (rw [add_block]; exact Nat.ne_of_lt (Nat.lt_of_lt_of_le (by have := World.block_lt_of_cell? _ _ hw256_0; first | rwa [add_block] at this | exact this) GW257.out)) | (show (Addr.add _ _).block ≠ _; rw [add_block]; exact Nat.ne_of_lt (Nat.lt_of_lt_of_le (by have := World.block_lt_of_cell? _ _ hw256_0; first | rwa [add_block] at this | exact this) GW257.out)) | (dsimp only; exact Nat.ne_of_lt (Nat.lt_of_lt_of_le (by have := World.block_lt_of_cell? _ _ hw256_0; first | rwa [add_block] at this | exact this) GW257.out))) _).trans (((cell_far (p := ⟨gb257, _, none⟩) (by first | exact Nat.ne_of_lt (Nat.lt_of_lt_of_le (by have := World.block_lt_of_cell? _ _ hw256_0; first | rwa [add_block] at this | exact this) GW257.out) | (rw [add_block]; exact Nat.ne_of_lt (Nat.lt_of_lt_of_le (by have := World.block_lt_of_cell? _ _ hw256_0; first | rwa [add_block] at this | exact this) GW257.out)) | (show (Addr.add _ _).block ≠ _; rw [add_block]; exact Nat.ne_of_lt (Nat.lt_of_lt_of_le (by have := World.block_lt_of_cell? _ _ hw256_0; first | rwa [add_block] at this | exact this) GW257.out)) | (dsimp only; exact Nat.ne_of_lt (Nat.lt_of_lt_of_le (by have := World.block_lt_of_cell? _ _ hw256_0; first | rwa [add_block] at this | exact this) GW257.out))) _).trans (((cell_far (p := ⟨gb257, _, none⟩) (by first | exact Nat.ne_of_lt (Nat.lt_of_lt_of_le (by have := World.block_lt_of_cell? _ _ hw256_0; first | rwa [add_block] at this | exact this) GW257.out) | (rw [add_block]; exact Nat.ne_of_lt (Nat.lt_of_lt_of_le (by have := World.block_lt_of_cell? _ _ hw256_0; first | rwa [add_block] at this | exact this) GW257.out)) | (show (Addr.add _ _).block ≠ _; rw [add_block]; exact Nat.ne_of_lt (Nat.lt_of_lt_of_le (by have := World.block_lt_of_cell? _ _ hw256_0; first | rwa [add_block] at this | exact this) GW257.out)) | (dsimp only; exact Nat.ne_of_lt (Nat.lt_of_lt_of_le (by have := World.block_lt_of_cell? _ _ hw256_0; first | rwa [add_block] at this | exact this) GW257.out))) _).trans (((cell_far (p := ⟨gb257, _, none⟩) (by first | exact Nat.ne_of_lt (Nat.lt_of_lt_of_le (by have := World.block_lt_of_cell? _ _ hw256_0; first | rwa [add_block] at this | exact this) GW257.out) | (rw [add_block]; exact Nat.ne_of_lt (Nat.lt_of_lt_of_le (by have := World.block_lt_of_cell? _ _ hw256_0; first | rwa [add_block] at this | exact this) GW257.out)) | (show (Addr.add _ _).block ≠ _; rw [add_block]; exact Nat.ne_of_lt (Nat.lt_of_lt_of_le (by have := World.block_lt_of_cell? _ _ hw256_0; first | rwa [add_block] at this | exact this) GW257.out)) | (dsimp only; exact Nat.ne_of_lt (Nat.lt_of_lt_of_le (by have := World.block_lt_of_cell? _ _ hw256_0; first | rwa [add_block] at this | exact this) GW257.out))) _).trans (hHeld.2.2.2.1)))))))), ((cell_far (p := ⟨gb257, _, none⟩) (by first | exact Nat.ne_of_lt (Nat.lt_of_lt_of_le (by have := World.block_lt_of_cell? _ _ hw256_1; first | rwa [add_block] at this | exact this) GW257.out) | (rw [add_block]; exact Nat.ne_of_lt (Nat.lt_of_lt_of_le (by have := World.block_lt_of_cell? _ _ hw256_1; first | rwa [add_block] at this | exact this) GW257.out)) | (show (Addr.add _ _).block ≠ _; rw [add_block]; exact Nat.ne_of_lt (Nat.lt_of_lt_of_le (by have := World.block_lt_of_cell? _ _ hw256_1; first | rwa [add_block] at this | exact this) GW257.out)) | (dsimp only; exact Nat.ne_of_lt (Nat.lt_of_lt_of_le (by have := World.block_lt_of_cell? _ _ hw256_1; first | rwa [add_block] at this | exact this) GW257.out))) _).trans (((cell_far (p := ⟨gb257, _, none⟩) (by first | exact Nat.ne_of_lt (Nat.lt_of_lt_of_le (by have := World.block_lt_of_cell? _ _ hw256_1; first | rwa [add_block] at this | exact this) GW257.out) | (rw [add_block]; exact Nat.ne_of_lt (Nat.lt_of_lt_of_le (by have := World.block_lt_of_cell? _ _ hw256_1; first | rwa [add_block] at this | exact this) GW257.out)) | (show (Addr.add _ _).block ≠ _; rw [add_block]; exact Nat.ne_of_lt (Nat.lt_of_lt_of_le (by have := World.block_lt_of_cell? _ _ hw256_1; first | rwa [add_block] at this | exact this) GW257.out)) | (dsimp only; exact Nat.ne_of_lt (Nat.lt_of_lt_of_le (by have := World.block_lt_of_cell? _ _ hw256_1; first | rwa [add_block] at this | exact this) GW257.out))) _).trans (((cell_far (p := ⟨gb257, _, none⟩) (by first | exact Nat.ne_of_lt (Nat.lt_of_lt_of_le (by have := World.block_lt_of_cell? _ _ hw256_1; first | rwa [add_block] at this | exact this) GW257.out) | (rw [add_block]; exact Nat.ne_of_lt (Nat.lt_of_lt_of_le (by have := World.block_lt_of_cell? _ _ hw256_1; first | rwa [add_block] at this | exact this) GW257.out)) | (show (Addr.add _ _).block ≠ _; rw [add_block]; exact Nat.ne_of_lt (Nat.lt_of_lt_of_le (by have := World.block_lt_of_cell? _ _ hw256_1; first | rwa [add_block] at this | exact this) GW257.out)) | (dsimp only; exact Nat.ne_of_lt (Nat.lt_of_lt_of_le (by have := World.block_lt_of_cell? _ _ hw256_1; first | rwa [add_block] at this | exact this) GW257.out))) _).trans (((cell_far (p := ⟨gb257, _, none⟩) (by first | exact Nat.ne_of_lt (Nat.lt_of_lt_of_le (by have := World.block_lt_of_cell? _ _ hw256_1; first | rwa [add_block] at this | exact this) GW257.out) | (rw [add_block]; exact Nat.ne_of_lt (Nat.lt_of_lt_of_le (by have := World.block_lt_of_cell? _ _ hw256_1; first | rwa [add_block] at this | exact this) GW257.out)) | (show (Addr.add _ _).block ≠ _; rw [add_block]; exact Nat.ne_of_lt (Nat.lt_of_lt_of_le (by have := World.block_lt_of_cell? _ _ hw256_1; first | rwa [add_block] at this | exact this) GW257.out)) | (dsimp only; exact Nat.ne_of_lt (Nat.lt_of_lt_of_le (by have := World.block_lt_of_cell? _ _ hw256_1; first | rwa [add_block] at this | exact this) GW257.out))) _).trans (hHeld.2.2.2.2.1)))))))), ((cell_far (p := ⟨gb257, _, none⟩) (by first | exact Nat.ne_of_lt (Nat.lt_of_lt_of_le (by have := World.block_lt_of_cell? _ _ hw256_2; first | rwa [add_block] at this | exact this) GW257.out) | (rw [add_block]; exact Nat.ne_of_lt (Nat.lt_of_lt_of_le (by have := World.block_lt_of_cell? _ _ hw256_2; first | rwa [add_block] at this | exact this) GW257.out)) | (show (Addr.add _ _).block ≠ _; rw [add_block]; exact Nat.ne_of_lt (Nat.lt_of_lt_of_le (by have := World.block_lt_of_cell? _ _ hw256_2; first | rwa [add_block] at this | exact this) GW257.out)) | (dsimp only; exact Nat.ne_of_lt (Nat.lt_of_lt_of_le (by have := World.block_lt_of_cell? _ _ hw256_2; first | rwa [add_block] at this | exact this) GW257.out))) _).trans (((cell_far (p := ⟨gb257, _, none⟩) (by first | exact Nat.ne_of_lt (Nat.lt_of_lt_of_le (by have := World.block_lt_of_cell? _ _ hw256_2; first | rwa [add_block] at this | exact this) GW257.out) | (rw [add_block]; exact Nat.ne_of_lt (Nat.lt_of_lt_of_le (by have := World.block_lt_of_cell? _ _ hw256_2; first | rwa [add_block] at this | exact this) GW257.out)) | (show (Addr.add _ _).block ≠ _; rw [add_block]; exact Nat.ne_of_lt (Nat.lt_of_lt_of_le (by have := World.block_lt_of_cell? _ _ hw256_2; first | rwa [add_block] at this | exact this) GW257.out)) | (dsimp only; exact Nat.ne_of_lt (Nat.lt_of_lt_of_le (by have := World.block_lt_of_cell? _ _ hw256_2; first | rwa [add_block] at this | exact this) GW257.out))) _).trans (((cell_far (p := ⟨gb257, _, none⟩) (by first | exact Nat.ne_of_lt (Nat.lt_of_lt_of_le (by have := World.block_lt_of_cell? _ _ hw256_2; first | rwa [add_block] at this | exact this) GW257.out) | (rw [add_block]; exact Nat.ne_of_lt (Nat.lt_of_lt_of_le (by have := World.block_lt_of_cell? _ _ hw256_2; first | rwa [add_block] at this | exact this) GW257.out)) | (show (Addr.add _ _).block ≠ _; rw [add_block]; exact Nat.ne_of_lt (Nat.lt_of_lt_of_le (by have := World.block_lt_of_cell? _ _ hw256_2; first | rwa [add_block] at this | exact this) GW257.out)) | (dsimp only; exact Nat.ne_of_lt (Nat.lt_of_lt_of_le (by have := World.block_lt_of_cell? _ _ hw256_2; first | rwa [add_block] at this | exact this) GW257.out))) _).trans (((cell_far (p := ⟨gb257, _, none⟩) (by first | exact Nat.ne_of_lt (Nat.lt_of_lt_of_le (by have := World.block_lt_of_cell? _ _ hw256_2; first | rwa [add_block] at this | exact this) GW257.out) | (rw [add_block]; exact Nat.ne_of_lt (Nat.lt_of_lt_of_le (by have := World.block_lt_of_cell? _ _ hw256_2; first | rwa [add_block] at this | exact this) GW257.out)) | (show (Addr.add _ _).block ≠ _; rw [add_block]; exact Nat.ne_of_lt (Nat.lt_of_lt_of_le (by have := World.block_lt_of_cell? _ _ hw256_2; first | rwa [add_block] at this | exact this) GW257.out)) | (dsimp only; exact Nat.ne_of_lt (Nat.lt_of_lt_of_le (by have := World.block_lt_of_cell? _ _ hw256_2; first | rwa [add_block] at this | exact this) GW257.out))) _).trans (hHeld.2.2.2.2.2.1)))))))), ((cell_far (p := ⟨gb257, _, none⟩) (by first | exact Nat.ne_of_lt (Nat.lt_of_lt_of_le (by have := World.block_lt_of_cell? _ _ hw256_3; first | rwa [add_block] at this | exact this) GW257.out) | (rw [add_block]; exact Nat.ne_of_lt (Nat.lt_of_lt_of_le (by have := World.block_lt_of_cell? _ _ hw256_3; first | rwa [add_block] at this | exact this) GW257.out)) | (show (Addr.add _ _).block ≠ _; rw [add_block]; exact Nat.ne_of_lt (Nat.lt_of_lt_of_le (by have := World.block_lt_of_cell? _ _ hw256_3; first | rwa [add_block] at this | exact this) GW257.out)) | (dsimp only; exact Nat.ne_of_lt (Nat.lt_of_lt_of_le (by have := World.block_lt_of_cell? _ _ hw256_3; first | rwa [add_block] at this | exact this) GW257.out))) _).trans (((cell_far (p := ⟨gb257, _, none⟩) (by first | exact Nat.ne_of_lt (Nat.lt_of_lt_of_le (by have := World.block_lt_of_cell? _ _ hw256_3; first | rwa [add_block] at this | exact this) GW257.out) | (rw [add_block]; exact Nat.ne_of_lt (Nat.lt_of_lt_of_le (by have := World.block_lt_of_cell? _ _ hw256_3; first | rwa [add_block] at this | exact this) GW257.out)) | (show (Addr.add _ _).block ≠ _; rw [add_block]; exact Nat.ne_of_lt (Nat.lt_of_lt_of_le (by have := World.block_lt_of_cell? _ _ hw256_3; first | rwa [add_block] at this | exact this) GW257.out)) | (dsimp only; exact Nat.ne_of_lt (Nat.lt_of_lt_of_le (by have := World.block_lt_of_cell? _ _ hw256_3; first | rwa [add_block] at this | exact this) GW257.out))) _).trans (((cell_far (p := ⟨gb257, _, none⟩) (by first | exact Nat.ne_of_lt (Nat.lt_of_lt_of_le (by have := World.block_lt_of_cell? _ _ hw256_3; first | rwa [add_block] at this | exact this) GW257.out) | (rw [add_block]; exact Nat.ne_of_lt (Nat.lt_of_lt_of_le (by have := World.block_lt_of_cell? _ _ hw256_3; first | rwa [add_block] at this | exact this) GW257.out)) | (show (Addr.add _ _).block ≠ _; rw [add_block]; exact Nat.ne_of_lt (Nat.lt_of_lt_of_le (by have := World.block_lt_of_cell? _ _ hw256_3; first | rwa [add_block] at this | exact this) GW257.out)) | (dsimp only; exact Nat.ne_of_lt (Nat.lt_of_lt_of_le (by have := World.block_lt_of_cell? _ _ hw256_3; first | rwa [add_block] at this | exact this) GW257.out))) _).trans (((cell_far (p := ⟨gb257, _, none⟩) (by first | exact Nat.ne_of_lt (Nat.lt_of_lt_of_le (by have := World.block_lt_of_cell? _ _ hw256_3; first | rwa [add_block] at this | exact this) GW257.out) | (rw [add_block]; exact Nat.ne_of_lt (Nat.lt_of_lt_of_le (by have := World.block_lt_of_cell? _ _ hw256_3; first | rwa [add_block] at this | exact this) GW257.out)) | (show (Addr.add _ _).block ≠ _; rw [add_block]; exact Nat.ne_of_lt (Nat.lt_of_lt_of_le (by have := World.block_lt_of_cell? _ _ hw256_3; first | rwa [add_block] at this | exact this) GW257.out)) | (dsimp only; exact Nat.ne_of_lt (Nat.lt_of_lt_of_le (by have := World.block_lt_of_cell? _ _ hw256_3; first | rwa [add_block] at this | exact this) GW257.out))) _).trans (hHeld.2.2.2.2.2.2))))))))⟩ (fun hHeld => ?_)
                    clear hK K
                    refine done_ (done_of HT_.out (by kernel_rfl)) ?_
                    have n0_ : Aside0 (Kd.R Kd.bool 4 ((((w55.setCell ⟨gb257, 0, none⟩ (.int .i64 ((rd_T37 l0_1 (rd t252 x10_2)).f0))).setCell ⟨gb257, 1, none⟩ (.int .i64 ((rd_T37 l0_1 (rd t252 x10_2)).f1))).setCell ⟨gb257, 2, none⟩ (.int .i64 ((rd_T37 l0_1 (rd t252 x10_2)).f2))).setCell ⟨gb257, 3, none⟩ (.int .i64 ((rd_T37 l0_1 (rd t252 x10_2)).f3))) w.heap.size (fun _ => True) (.slice (some ⟨go8, 0, none⟩) x7_2.length co8) x7_2) := ⟨by (with_reducible repeat (first | apply Kd.R_alloc | apply Kd.R_drewN | apply Kd.R_drew)); exact Kd.R_mono (Kd.R_far (p := ⟨gb257, 3, none⟩) (Kd.R_far (p := ⟨gb257, 2, none⟩) (Kd.R_far (p := ⟨gb257, 1, none⟩) (Kd.R_far (p := ⟨gb257, 0, none⟩) (Kd.R_types HO_7.out BK257.out (by decide)) (fun _ hk => hk.2) (.int .i64 ((rd_T37 l0_1 (rd t252 x10_2)).f0))) (fun _ hk => hk.2) (.int .i64 ((rd_T37 l0_1 (rd t252 x10_2)).f1))) (fun _ hk => hk.2) (.int .i64 ((rd_T37 l0_1 (rd t252 x10_2)).f2))) (fun _ hk => hk.2) (.int .i64 ((rd_T37 l0_1 (rd t252 x10_2)).f3))) (fun _ hk => trivial)⟩
                    have n1_ : Aside0 (Kd.R (Kd.int .i64) 3 ((((w55.setCell ⟨gb257, 0, none⟩ (.int .i64 ((rd_T37 l0_1 (rd t252 x10_2)).f0))).setCell ⟨gb257, 1, none⟩ (.int .i64 ((rd_T37 l0_1 (rd t252 x10_2)).f1))).setCell ⟨gb257, 2, none⟩ (.int .i64 ((rd_T37 l0_1 (rd t252 x10_2)).f2))).setCell ⟨gb257, 3, none⟩ (.int .i64 ((rd_T37 l0_1 (rd t252 x10_2)).f3))) w.heap.size (fun _ => True) (.slice (some ad255) t252.length co53) t252) := ⟨by (with_reducible repeat (first | apply Kd.R_alloc | apply Kd.R_drewN | apply Kd.R_drew)); exact Kd.R_mono (Kd.R_far (p := ⟨gb257, 3, none⟩) (Kd.R_far (p := ⟨gb257, 2, none⟩) (Kd.R_far (p := ⟨gb257, 1, none⟩) (Kd.R_far (p := ⟨gb257, 0, none⟩) (Kd.R_types HO_8.out BK257.out (by decide)) (fun _ hk => hk.2) (.int .i64 ((rd_T37 l0_1 (rd t252 x10_2)).f0))) (fun _ hk => hk.2) (.int .i64 ((rd_T37 l0_1 (rd t252 x10_2)).f1))) (fun _ hk => hk.2) (.int .i64 ((rd_T37 l0_1 (rd t252 x10_2)).f2))) (fun _ hk => hk.2) (.int .i64 ((rd_T37 l0_1 (rd t252 x10_2)).f3))) (fun _ hk => trivial)⟩
                    have n2_ : Aside0 (((((w55.setCell ⟨gb257, 0, none⟩ (.int .i64 ((rd_T37 l0_1 (rd t252 x10_2)).f0))).setCell ⟨gb257, 1, none⟩ (.int .i64 ((rd_T37 l0_1 (rd t252 x10_2)).f1))).setCell ⟨gb257, 2, none⟩ (.int .i64 ((rd_T37 l0_1 (rd t252 x10_2)).f2))).setCell ⟨gb257, 3, none⟩ (.int .i64 ((rd_T37 l0_1 (rd t252 x10_2)).f3))).heap[gb247]? = some (.cells #[.int .i64 a0_0, .slice (some ad256) l0_1.length c0_1] 24 (0, 0))) := ⟨by (with_reducible repeat (first | refine blk_drewN ?_ _ | refine blk_drew ?_ | refine blk_alloc ?_ _)); refine blk_far ?_ NB247_257.out _; (with_reducible repeat (first | refine blk_drewN ?_ _ | refine blk_drew ?_ | refine blk_alloc ?_ _)); refine blk_far ?_ NB247_257.out _; (with_reducible repeat (first | refine blk_drewN ?_ _ | refine blk_drew ?_ | refine blk_alloc ?_ _)); refine blk_far ?_ NB247_257.out _; (with_reducible repeat (first | refine blk_drewN ?_ _ | refine blk_drew ?_ | refine blk_alloc ?_ _)); refine blk_far ?_ NB247_257.out _; (with_reducible repeat (first | refine blk_drewN ?_ _ | refine blk_drew ?_ | refine blk_alloc ?_ _)); exact BK247.out⟩
                    have n3_ : Aside0 (((((w55.setCell ⟨gb257, 0, none⟩ (.int .i64 ((rd_T37 l0_1 (rd t252 x10_2)).f0))).setCell ⟨gb257, 1, none⟩ (.int .i64 ((rd_T37 l0_1 (rd t252 x10_2)).f1))).setCell ⟨gb257, 2, none⟩ (.int .i64 ((rd_T37 l0_1 (rd t252 x10_2)).f2))).setCell ⟨gb257, 3, none⟩ (.int .i64 ((rd_T37 l0_1 (rd t252 x10_2)).f3))).heap[gb257]? = some (.cells #[.int .i64 ((rd_T37 l0_1 (rd t252 x10_2)).f0), .int .i64 ((rd_T37 l0_1 (rd t252 x10_2)).f1), .int .i64 ((rd_T37 l0_1 (rd t252 x10_2)).f2), .int .i64 ((rd_T37 l0_1 (rd t252 x10_2)).f3)] 37 (0, 0))) := ⟨by (with_reducible repeat (first | refine blk_drewN ?_ _ | refine blk_drew ?_ | refine blk_alloc ?_ _)); refine blk_put (cs := #[.int .i64 ((rd_T37 l0_1 (rd t252 x10_2)).f0), .int .i64 ((rd_T37 l0_1 (rd t252 x10_2)).f1), .int .i64 ((rd_T37 l0_1 (rd t252 x10_2)).f2), .int .i64 0]) ?_ 3 _ rfl; (with_reducible repeat (first | refine blk_drewN ?_ _ | refine blk_drew ?_ | refine blk_alloc ?_ _)); refine blk_put (cs := #[.int .i64 ((rd_T37 l0_1 (rd t252 x10_2)).f0), .int .i64 ((rd_T37 l0_1 (rd t252 x10_2)).f1), .int .i64 0, .int .i64 0]) ?_ 2 _ rfl; (with_reducible repeat (first | refine blk_drewN ?_ _ | refine blk_drew ?_ | refine blk_alloc ?_ _)); refine blk_put (cs := #[.int .i64 ((rd_T37 l0_1 (rd t252 x10_2)).f0), .int .i64 0, .int .i64 0, .int .i64 0]) ?_ 1 _ rfl; (with_reducible repeat (first | refine blk_drewN ?_ _ | refine blk_drew ?_ | refine blk_alloc ?_ _)); refine blk_put (cs := #[.int .i64 0, .int .i64 0, .int .i64 0, .int .i64 0]) ?_ 0 _ rfl; (with_reducible repeat (first | refine blk_drewN ?_ _ | refine blk_drew ?_ | refine blk_alloc ?_ _)); exact BK257.out⟩
                    have n4_ : Aside0 (Below w.heap.size w ((((w55.setCell ⟨gb257, 0, none⟩ (.int .i64 ((rd_T37 l0_1 (rd t252 x10_2)).f0))).setCell ⟨gb257, 1, none⟩ (.int .i64 ((rd_T37 l0_1 (rd t252 x10_2)).f1))).setCell ⟨gb257, 2, none⟩ (.int .i64 ((rd_T37 l0_1 (rd t252 x10_2)).f2))).setCell ⟨gb257, 3, none⟩ (.int .i64 ((rd_T37 l0_1 (rd t252 x10_2)).f3)))) := ⟨by repeat (first | (with_reducible first | exact HB.out | apply below_alloc | apply pw_below_drewN | apply below_drew1 | refine below_set ?_ GE247.out | refine below_set ?_ GE257.out) | exact HB.out)⟩
                    (try clear HO_7)
                    (try clear HO_8)
                    (try clear BK247)
                    (try clear BK257)
                    (try clear HB)
                    generalize ((((w55.setCell ⟨gb257, 0, none⟩ (.int .i64 ((rd_T37 l0_1 (rd t252 x10_2)).f0))).setCell ⟨gb257, 1, none⟩ (.int .i64 ((rd_T37 l0_1 (rd t252 x10_2)).f1))).setCell ⟨gb257, 2, none⟩ (.int .i64 ((rd_T37 l0_1 (rd t252 x10_2)).f2))).setCell ⟨gb257, 3, none⟩ (.int .i64 ((rd_T37 l0_1 (rd t252 x10_2)).f3))) = w60 at n0_ n1_ n2_ n3_ n4_ ⊢
                    have HO_7 := n0_
                    have HO_8 := n1_
                    have BK247 := n2_
                    have BK257 := n3_
                    have HB := n4_
                    clear n0_ n1_ n2_ n3_ n4_
                    have hnb61 := NB257_247.out
                    have hnc61 := NB247_257.out
                    have hcz62_0 : w60.cell? ⟨gb257, 0, none⟩ = some (.int .i64 ((rd_T37 l0_1 (rd t252 x10_2)).f0)) := (blk_cell BK257.out 0).trans rfl
                    have hcz62_1 : w60.cell? ⟨gb257, 1, none⟩ = some (.int .i64 ((rd_T37 l0_1 (rd t252 x10_2)).f1)) := (blk_cell BK257.out 1).trans rfl
                    have hcz62_2 : w60.cell? ⟨gb257, 2, none⟩ = some (.int .i64 ((rd_T37 l0_1 (rd t252 x10_2)).f2)) := (blk_cell BK257.out 2).trans rfl
                    have hcz62_3 : w60.cell? ⟨gb257, 3, none⟩ = some (.int .i64 ((rd_T37 l0_1 (rd t252 x10_2)).f3)) := (blk_cell BK257.out 3).trans rfl
                    have hfz62_0 := blk_frozen BK257.out 0
                    have hfz62_1 := blk_frozen BK257.out 1
                    have hfz62_2 := blk_frozen BK257.out 2
                    have hfz62_3 := blk_frozen BK257.out 3
                    have p258 : 0 ≤ (((rd_T37 l0_1 (rd t252 x10_2)).f0) : Int) := of_decide_eq_true (by first | (with_reducible assumption) | assumption)
                    have q258 : ((rd_T37 l0_1 (rd t252 x10_2)).f0) < (x7_2.length : Int) := of_decide_eq_true (by first | (with_reducible assumption) | assumption)
                    obtain ⟨ad258, e258, hx258_0⟩ := Kd.at_bool (Kd.R_reads' HO_7.out).2.2 ((rd_T37 l0_1 (rd t252 x10_2)).f0) p258 q258
                    (try rw [← Nbq26.out] at hx258_0)
                    (try rw [← Nbq49.out] at hx258_0)
                    obtain rfl : (⟨go8, 0, none⟩ : Addr) = ad258 := (by injection e258)
                    (first | simp only [add_plain] at hx258_0 | simp only [add_at] at hx258_0 | simp only [Addr.add, Nat.zero_add] at hx258_0 | skip)
                    replace p258 := eq_true p258
                    replace q258 := eq_true q258
                    have p261 : 0 ≤ (((rd_T37 l0_1 (rd t252 x10_2)).f1) : Int) := of_decide_eq_true (by first | (with_reducible assumption) | assumption)
                    have q261 : ((rd_T37 l0_1 (rd t252 x10_2)).f1) < (x7_2.length : Int) := of_decide_eq_true (by first | (with_reducible assumption) | assumption)
                    obtain ⟨ad261, e261, hx261_0⟩ := Kd.at_bool (Kd.R_reads' HO_7.out).2.2 ((rd_T37 l0_1 (rd t252 x10_2)).f1) p261 q261
                    (try rw [← Nbq26.out] at hx261_0)
                    (try rw [← Nbq49.out] at hx261_0)
                    obtain rfl : (⟨go8, 0, none⟩ : Addr) = ad261 := (by injection e261)
                    (first | simp only [add_plain] at hx261_0 | simp only [add_at] at hx261_0 | simp only [Addr.add, Nat.zero_add] at hx261_0 | skip)
                    replace p261 := eq_true p261
                    replace q261 := eq_true q261
                    have p51 : 0 ≤ (((rd_T37 l0_1 (rd t252 x10_2)).f0) : Int) := of_decide_eq_true (by first | (with_reducible assumption) | assumption)
                    have q51 : (((rd_T37 l0_1 (rd t252 x10_2)).f0) : Int) < ((x7_2.length : Int) : Int) := of_decide_eq_true (by first | (with_reducible assumption) | assumption)
                    obtain ⟨hx51_0, hf51_0⟩ := Kd.R_celln false HO_7.out (((rd_T37 l0_1 (rd t252 x10_2)).f0) : Int) p51 q51
                    replace p51 := eq_true p51
                    replace q51 := eq_true q51
                    obtain ⟨hy63_, hz63_⟩ := Kd.R_celln false HO_7.out (((rd_T37 l0_1 (rd t252 x10_2)).f0) : Int) (of_decide_eq_true (by first | (with_reducible assumption) | assumption)) (of_decide_eq_true (by first | (with_reducible assumption) | assumption))
                    have HP63 := Kd.R_putg HO_7.out (((rd_T37 l0_1 (rd t252 x10_2)).f0) : Int) true
                    try go_wp2_with (first | ((with_reducible refine gate_store (t := 4) (p := 56) rfl ?_); refine store_event (t := 4) (p := 56) (v := ?vo_w64) (w1 := (w60.setCell ⟨go8, (((rd_T37 l0_1 (rd t252 x10_2)).f0) : Int).toNat, none⟩ (.bool true))) ?hg ?ho ?hn ?hr ?_; (case ho => rfl); (case hg => rfl); (case hn => rfl); (case hr => first | (go_simp; done) | (go_simp; rfl)); intro w64 hw; have hg : w60.grownBy w64 (some go8) := (by rw [hw]; exact HP63.2); have hp_ : Kd.R Kd.bool 4 w64 w.heap.size (fun _ => True) (.slice (some ⟨go8, 0, none⟩) x7_2.length co8) y262 := (by rw [hw, Ny262.out]; exact HP63.1); clear HP63; have n0_ := Aside0.mk (hp_); have n1_ := Aside0.mk (Kd.R_over' (v := (.slice (some ⟨go8, 0, none⟩) x7_2.length co8)) (by (with_reducible repeat (first | apply Kd.R_alloc | apply Kd.R_drewN | apply Kd.R_drew)); exact HO_8.out) (Kd.R_typed HO_7.out) (by decide) hg); have n2_ := Aside0.mk (blk_grown (g := gb247) (o := .cells #[.int .i64 a0_0, .slice (some ad256) l0_1.length c0_1] 24 (0, 0)) (by (with_reducible repeat (first | refine blk_drewN ?_ _ | refine blk_drew ?_ | refine blk_alloc ?_ _)); exact BK247.out) hg (Kd.R_ne HO_7.out BK247.out (by decide))); have n3_ := Aside0.mk (blk_grown (g := gb257) (o := .cells #[.int .i64 ((rd_T37 l0_1 (rd t252 x10_2)).f0), .int .i64 ((rd_T37 l0_1 (rd t252 x10_2)).f1), .int .i64 ((rd_T37 l0_1 (rd t252 x10_2)).f2), .int .i64 ((rd_T37 l0_1 (rd t252 x10_2)).f3)] 37 (0, 0)) (by (with_reducible repeat (first | refine blk_drewN ?_ _ | refine blk_drew ?_ | refine blk_alloc ?_ _)); exact BK257.out) hg (Kd.R_ne HO_7.out BK257.out (by decide))); have n4_ := Aside0.mk ((by rw [hw]; exact below_set (HB.out) GB8.out : Below w.heap.size w w64)); clear HO_7; clear HO_8; clear BK247; clear BK257; clear HB; have HO_7 := n0_; have HO_8 := n1_; have BK247 := n2_; have BK257 := n3_; have HB := n4_; clear n0_ n1_ n2_ n3_ n4_; clear hg hw hp_; have hcz65_0 : w64.cell? ⟨gb257, 0, none⟩ = some (.int .i64 ((rd_T37 l0_1 (rd t252 x10_2)).f0)) := (blk_cell BK257.out 0).trans rfl; have hcz65_1 : w64.cell? ⟨gb257, 1, none⟩ = some (.int .i64 ((rd_T37 l0_1 (rd t252 x10_2)).f1)) := (blk_cell BK257.out 1).trans rfl; have hcz65_2 : w64.cell? ⟨gb257, 2, none⟩ = some (.int .i64 ((rd_T37 l0_1 (rd t252 x10_2)).f2)) := (blk_cell BK257.out 2).trans rfl; have hcz65_3 : w64.cell? ⟨gb257, 3, none⟩ = some (.int .i64 ((rd_T37 l0_1 (rd t252 x10_2)).f3)) := (blk_cell BK257.out 3).trans rfl; have hfz65_0 := blk_frozen BK257.out 0; have hfz65_1 := blk_frozen BK257.out 1; have hfz65_2 := blk_frozen BK257.out 2; have hfz65_3 := blk_frozen BK257.out 3; have p52 : 0 ≤ (((rd_T37 l0_1 (rd t252 x10_2)).f1) : Int) := of_decide_eq_true (by first | (with_reducible assumption) | assumption); have q52 : (((rd_T37 l0_1 (rd t252 x10_2)).f1) : Int) < ((x7_2.length : Int) : Int) := of_decide_eq_true (by first | (with_reducible assumption) | assumption); obtain ⟨hx52_0, hf52_0⟩ := Kd.R_celln false HO_7.out (((rd_T37 l0_1 (rd t252 x10_2)).f1) : Int) p52 q52; replace p52 := eq_true p52; replace q52 := eq_true q52; obtain ⟨hy66_, hz66_⟩ := Kd.R_celln false HO_7.out (((rd_T37 l0_1 (rd t252 x10_2)).f1) : Int) (of_decide_eq_true (by first | (with_reducible assumption) | assumption)) (of_decide_eq_true (by first | (with_reducible assumption) | assumption)); have HP66 := Kd.R_putg HO_7.out (((rd_T37 l0_1 (rd t252 x10_2)).f1) : Int) true) | ((with_reducible refine gate_store (t := 4) (p := 60) rfl ?_); refine store_event (t := 4) (p := 60) (v := ?vo_w67) (w1 := (w64.setCell ⟨go8, (((rd_T37 l0_1 (rd t252 x10_2)).f1) : Int).toNat, none⟩ (.bool true))) ?hg ?ho ?hn ?hr ?_; (case ho => rfl); (case hg => rfl); (case hn => rfl); (case hr => first | (go_simp; done) | (go_simp; rfl)); intro w67 hw; have hg : w64.grownBy w67 (some go8) := (by rw [hw]; exact HP66.2); have hp_ : Kd.R Kd.bool 4 w67 w.heap.size (fun _ => True) (.slice (some ⟨go8, 0, none⟩) x7_2.length co8) y263 := (by rw [hw, Ny263.out]; exact HP66.1); clear HP66; have n0_ := Aside0.mk (hp_); have n1_ := Aside0.mk (Kd.R_over' (v := (.slice (some ⟨go8, 0, none⟩) x7_2.length co8)) (by (with_reducible repeat (first | apply Kd.R_alloc | apply Kd.R_drewN | apply Kd.R_drew)); exact HO_8.out) (Kd.R_typed HO_7.out) (by decide) hg); have n2_ := Aside0.mk (blk_grown (g := gb247) (o := .cells #[.int .i64 a0_0, .slice (some ad256) l0_1.length c0_1] 24 (0, 0)) (by (with_reducible repeat (first | refine blk_drewN ?_ _ | refine blk_drew ?_ | refine blk_alloc ?_ _)); exact BK247.out) hg (Kd.R_ne HO_7.out BK247.out (by decide))); have n3_ := Aside0.mk (blk_grown (g := gb257) (o := .cells #[.int .i64 ((rd_T37 l0_1 (rd t252 x10_2)).f0), .int .i64 ((rd_T37 l0_1 (rd t252 x10_2)).f1), .int .i64 ((rd_T37 l0_1 (rd t252 x10_2)).f2), .int .i64 ((rd_T37 l0_1 (rd t252 x10_2)).f3)] 37 (0, 0)) (by (with_reducible repeat (first | refine blk_drewN ?_ _ | refine blk_drew ?_ | refine blk_alloc ?_ _)); exact BK257.out) hg (Kd.R_ne HO_7.out BK257.out (by decide))); have n4_ := Aside0.mk ((by rw [hw]; exact below_set (HB.out) GB8.out : Below w.heap.size w w67)); clear HO_7; clear HO_8; clear BK247; clear BK257; clear HB; have HO_7 := n0_; have HO_8 := n1_; have BK247 := n2_; have BK257 := n3_; have HB := n4_; clear n0_ n1_ n2_ n3_ n4_; clear hg hw hp_))
                    (try simp only [← hl7_2])
                    go_roundg k2
                    case measure => have := HK1.out; have := HK2.out; omega
                    case rel => exact ⟨(y263), (wrap64 (x10_2 + 1)), (by first | rfl | (simp; done) | (simp [*]; done)), H', ⟨by have := HK1.out; have := HK2.out; omega⟩, ⟨by (try simp only [hl7_1]); (try simp only [hl7_2]); (with_reducible repeat (first | apply Kd.R_alloc | apply Kd.R_drewN | apply Kd.R_drew)); exact HO_7.out⟩, ⟨by (try simp only [hl7_1]); (try simp only [hl7_2]); (with_reducible repeat (first | apply Kd.R_alloc | apply Kd.R_drewN | apply Kd.R_drew)); exact HO_8.out⟩, ⟨by (try simp only [hl7_1]); (try simp only [hl7_2]); (with_reducible repeat (first | refine blk_drewN ?_ _ | refine blk_drew ?_ | refine blk_alloc ?_ _)); exact BK247.out⟩, ⟨by repeat (first | (with_reducible first | exact HB.out | apply below_alloc | apply pw_below_drewN | apply below_drew1 | refine below_set ?_ GE247.out | refine below_set ?_ GE257.out) | exact HB.out)⟩⟩
                   ·replace c50 := Bool.eq_false_iff.mpr c50
                    subst c50
                    have H1 : (pylonref15_reach.l1 k2 x7_2 t252 x9_1 (wrap64 (x10_2 + 1)) a0_0 l0_1) = some r := by rw [if_neg (show ¬ (false = true) by decide)] at H; exact H
                    clear H
                    have H := H1
                    clear H1
                    have H' := Aside0.mk H
                    clear H
                    obtain ⟨Ao68, co68, eo68⟩ := Kd.R_slice HO_8.out
                    subst eo68
                    try go_wp2
                    have n0_ := Aside0.mk (Kd.R_drew HO_7.out)
                    have n1_ := Aside0.mk (Kd.R_drew HO_8.out)
                    have n2_ := Aside0.mk (blk_drew BK247.out)
                    have n3_ := Aside0.mk (below_drew1 HB.out)
                    clear HO_7; clear HO_8; clear BK247; clear HB
                    have HO_7 := n0_
                    have HO_8 := n1_
                    have BK247 := n2_
                    have HB := n3_
                    clear n0_ n1_ n2_ n3_
                    have p255 : 0 ≤ (x10_2 : Int) := of_decide_eq_true (by first | (with_reducible assumption) | assumption)
                    have q255 : x10_2 < (t252.length : Int) := of_decide_eq_true (by first | (with_reducible assumption) | assumption)
                    obtain ⟨ad255, e255, hx255_0⟩ := Kd.at_int (Kd.R_reads' HO_8.out).2.2 x10_2 p255 q255
                    cases e255
                    replace p255 := eq_true p255
                    replace q255 := eq_true q255
                    have p256 : 0 ≤ ((rd t252 x10_2) : Int) := of_decide_eq_true (by first | (with_reducible assumption) | assumption)
                    have q256 : (rd t252 x10_2) < (l0_1.length : Int) := of_decide_eq_true (by first | (with_reducible assumption) | assumption)
                    obtain ⟨ad256, e256, hx256_0, hx256_1, hx256_2, hx256_3⟩ := at_T37 HR0_1.out (rd t252 x10_2) p256 q256
                    have hw256_3 := hx256_3
                    have hw256_2 := hx256_2
                    have hw256_1 := hx256_1
                    have hw256_0 := hx256_0
                    cases e256
                    replace hx256_0 := (HB.out.cell (World.block_lt_of_cell? w _ hx256_0)).trans hx256_0
                    replace hx256_1 := (HB.out.cell (World.block_lt_of_cell? w _ hx256_1)).trans hx256_1
                    replace hx256_2 := (HB.out.cell (World.block_lt_of_cell? w _ hx256_2)).trans hx256_2
                    replace hx256_3 := (HB.out.cell (World.block_lt_of_cell? w _ hx256_3)).trans hx256_3
                    replace p256 := eq_true p256
                    replace q256 := eq_true q256
                    refine start_ (n := 10) (S := fun w' => w'.cell? ⟨gb247, 0, none⟩ = some (.int .i64 a0_0) ∧ w'.cell? ⟨gb247, 1, none⟩ = some (.slice (some ad256) l0_1.length c0_1) ∧ w'.cell? (ad255.add (x10_2).toNat) = some (.int .i64 (rd t252 x10_2)) ∧ w'.cell? (ad256.add (((rd t252 x10_2)).toNat * 4)) = some (.int .i64 ((rd_T37 l0_1 (rd t252 x10_2)).f0)) ∧ w'.cell? ⟨(ad256.add (((rd t252 x10_2)).toNat * 4)).block, (ad256.add (((rd t252 x10_2)).toNat * 4)).off + 1, none⟩ = some (.int .i64 ((rd_T37 l0_1 (rd t252 x10_2)).f1)) ∧ w'.cell? ⟨(ad256.add (((rd t252 x10_2)).toNat * 4)).block, (ad256.add (((rd t252 x10_2)).toNat * 4)).off + 2, none⟩ = some (.int .i64 ((rd_T37 l0_1 (rd t252 x10_2)).f2)) ∧ w'.cell? ⟨(ad256.add (((rd t252 x10_2)).toNat * 4)).block, (ad256.add (((rd t252 x10_2)).toNat * 4)).off + 3, none⟩ = some (.int .i64 ((rd_T37 l0_1 (rd t252 x10_2)).f3))) (ds := []) #[false, false, false, false, false, false, false, false, false, false] (by kernel_rfl) rfl rfl ⟨(blk_cell BK247.out 0).trans rfl, (blk_cell BK247.out 1).trans rfl, hx255_0, ((HB.out.cell (World.block_lt_of_cell? w _ hw256_0)).trans hw256_0), ((HB.out.cell (World.block_lt_of_cell? w _ hw256_1)).trans hw256_1), ((HB.out.cell (World.block_lt_of_cell? w _ hw256_2)).trans hw256_2), ((HB.out.cell (World.block_lt_of_cell? w _ hw256_3)).trans hw256_3)⟩ (fun hHeld => ?_); refine with_tabW pylonref15_reach.tab10 pylonref15_reach.bits10 (fun HT_ HW_ => ?_)
                    generalize wr.drew = w69 at HO_7 HO_8 BK247 HB hx255_0 hx256_0 hx256_1 hx256_2 hx256_3 hHeld ⊢
                    refine pure_ (i := 0) (N := some 33) (v := ?_) (a' := ?_) #[true, false, false, false, false, false, false, false, false, false] rfl rfl (any_of HT_.out (by kernel_rfl)) (fun _ _ _ h => h) (Or.inl ⟨by rfl, ?_⟩) ?_ ?_
                    rotate_left; (intro w'; go_simp; with_reducible rfl); rotate_left; (simp only [Act.put, List.setIfInBounds_toArray, List.set_cons_zero, List.set_cons_succ, i64_w, i32_w]; rfl)
                    refine pure_ (i := 2) (N := some 35) (v := ?_) (a' := ?_) #[true, false, true, false, false, false, false, false, false, false] rfl rfl (any_of HT_.out (by kernel_rfl)) (fun _ _ _ h => h) (Or.inl ⟨by rfl, ?_⟩) ?_ ?_
                    rotate_left; (intro w'; go_simp; with_reducible rfl); rotate_left; (simp only [Act.put, List.setIfInBounds_toArray, List.set_cons_zero, List.set_cons_succ, i64_w, i32_w]; rfl)
                    refine pure_ (i := 3) (N := some 36) (v := ?_) (a' := ?_) #[true, false, true, true, false, false, false, false, false, false] rfl rfl (any_of HT_.out (by kernel_rfl)) (fun _ _ _ h => h) (Or.inl ⟨by rfl, ?_⟩) ?_ ?_
                    rotate_left; (intro w'; go_simp; with_reducible rfl); rotate_left; (simp only [Act.put, List.setIfInBounds_toArray, List.set_cons_zero, List.set_cons_succ, i64_w, i32_w]; rfl)
                    refine pure_ (i := 4) (N := some 37) (v := ?_) (a' := ?_) #[true, false, true, true, true, false, false, false, false, false] rfl rfl (any_of HT_.out (by kernel_rfl)) (fun _ _ _ h => h) (Or.inl ⟨by rfl, ?_⟩) ?_ ?_
                    rotate_left; (intro w'; go_simp; with_reducible rfl); rotate_left; (simp only [Act.put, List.setIfInBounds_toArray, List.set_cons_zero, List.set_cons_succ, i64_w, i32_w]; rfl)
                    refine take_ (i := 1) (N := some 34) (v := ?_) (a' := ?_) #[true, true, true, true, true, false, false, false, false, false] rfl rfl (take_ofW HT_.out HW_.out (by kernel_rfl)) (fun _ _ _ h => h) (Or.inl ⟨by rfl, ?_⟩) hHeld ?_ ?_
                    rotate_left; (rintro w' ⟨s0, s1, s2, s3, s4, s5, s6⟩; go_simp; with_reducible rfl); rotate_left; (simp only [Act.put, List.setIfInBounds_toArray, List.set_cons_zero, List.set_cons_succ, i64_w, i32_w]; rfl)
                    refine take_ (i := 5) (N := some 38) (v := ?_) (a' := ?_) #[true, true, true, true, true, true, false, false, false, false] rfl rfl (take_ofW HT_.out HW_.out (by kernel_rfl)) (fun _ _ _ h => h) (Or.inl ⟨by rfl, ?_⟩) hHeld ?_ ?_
                    rotate_left; (rintro w' ⟨s0, s1, s2, s3, s4, s5, s6⟩; go_simp; with_reducible rfl); rotate_left; (simp only [Act.put, List.setIfInBounds_toArray, List.set_cons_zero, List.set_cons_succ, i64_w, i32_w]; rfl)
                    refine pure_ (i := 6) (N := some 39) (v := ?_) (a' := ?_) #[true, true, true, true, true, true, true, false, false, false] rfl rfl (any_of HT_.out (by kernel_rfl)) (fun _ _ _ h => h) (Or.inl ⟨by rfl, ?_⟩) ?_ ?_
                    rotate_left; (intro w'; go_simp; with_reducible rfl); rotate_left; (simp only [Act.put, List.setIfInBounds_toArray, List.set_cons_zero, List.set_cons_succ, i64_w, i32_w]; rfl)
                    refine take_ (i := 7) (N := some 40) (v := ?_) (a' := ?_) #[true, true, true, true, true, true, true, true, false, false] rfl rfl (take_ofW HT_.out HW_.out (by kernel_rfl)) (fun _ _ _ h => h) (Or.inl ⟨by rfl, ?_⟩) hHeld ?_ ?_
                    rotate_left; (rintro w' ⟨s0, s1, s2, s3, s4, s5, s6⟩; go_simp; with_reducible rfl); rotate_left; (simp only [Act.put, List.setIfInBounds_toArray, List.set_cons_zero, List.set_cons_succ, i64_w, i32_w]; rfl)
                    refine one_ (i := 8) (N := some 11) #[true, true, true, true, true, true, true, true, true, false] rfl rfl (one_of HT_.out (by kernel_rfl)) (by decide) (fun K hK => ?_)
                    refine box_step ?hg (N := 11) ?hd (cs := #[.int .i64 0, .int .i64 0, .int .i64 0, .int .i64 0]) (t := 37) ?hr ?_; (case hd => rfl); (case hg => rfl); (case hr => first | (go_simp; done) | (go_simp; rfl))
                    intro gb257 hg w70 hbox hb
                    have HS2_ := (hb.cell (World.block_lt_of_cell? _ _ (hHeld.2.2.1))).trans (hHeld.2.2.1)
                    have n0_ := Aside0.mk (Kd.R_below (by (with_reducible repeat (first | apply Kd.R_alloc | apply Kd.R_drewN | apply Kd.R_drew)); exact HO_7.out) hb)
                    have n1_ := Aside0.mk (Kd.R_below (by (with_reducible repeat (first | apply Kd.R_alloc | apply Kd.R_drewN | apply Kd.R_drew)); exact HO_8.out) hb)
                    have n2_ := Aside0.mk (blk_below (g := gb247) (o := .cells #[.int .i64 a0_0, .slice (some ad256) l0_1.length c0_1] 24 (0, 0)) (by (with_reducible repeat (first | refine blk_drewN ?_ _ | refine blk_drew ?_ | refine blk_alloc ?_ _)); exact BK247.out) hb)
                    have n3_ := Aside0.mk (below_step (by repeat (first | (with_reducible first | exact HB.out | apply below_alloc | apply pw_below_drewN | apply below_drew1 | refine below_set ?_ GE247.out) | exact HB.out)) hb)
                    have n4_ := Aside0.mk (hbox)
                    have n5_ := Aside0.mk ((by rw [hg]; exact (below_size (by repeat (first | (with_reducible first | exact HB.out | apply below_alloc | apply pw_below_drewN | apply below_drew1 | refine below_set ?_ GE247.out) | exact HB.out))) : w.heap.size ≤ gb257))
                    have n6_ := Aside0.mk ((by rw [hg]; exact (below_size (by repeat (first | (with_reducible first | exact HB.out | apply below_alloc | apply pw_below_drewN | apply below_drew1 | refine below_set ?_ GE247.out) | exact HB.out))) : w.heap.size ≤ gb257))
                    have n7_ := Aside0.mk ((by rw [hg]; exact Nat.ne_of_lt (blk_lt (g := gb247) (o := .cells #[.int .i64 a0_0, .slice (some ad256) l0_1.length c0_1] 24 (0, 0)) (by (with_reducible repeat (first | refine blk_drewN ?_ _ | refine blk_drew ?_ | refine blk_alloc ?_ _)); exact BK247.out)) : gb247 ≠ gb257))
                    have n8_ := Aside0.mk ((by rw [hg]; exact Nat.ne_of_gt (blk_lt (g := gb247) (o := .cells #[.int .i64 a0_0, .slice (some ad256) l0_1.length c0_1] 24 (0, 0)) (by (with_reducible repeat (first | refine blk_drewN ?_ _ | refine blk_drew ?_ | refine blk_alloc ?_ _)); exact BK247.out)) : gb257 ≠ gb247))
                    clear HO_7; clear HO_8; clear BK247; clear HB
                    have HO_7 := n0_
                    have HO_8 := n1_
                    have BK247 := n2_
                    have HB := n3_
                    have BK257 := n4_
                    have GW257 := n5_
                    have GE257 := n6_
                    have NB247_257 := n7_
                    have NB257_247 := n8_
                    clear n0_ n1_ n2_ n3_ n4_ n5_ n6_ n7_ n8_; clear hb hbox hg
                    refine hK.out _ _ ⟨(blk_cell BK247.out 0).trans rfl, (blk_cell BK247.out 1).trans rfl, HS2_, ((HB.out.cell (World.block_lt_of_cell? w _ hw256_0)).trans hw256_0), ((HB.out.cell (World.block_lt_of_cell? w _ hw256_1)).trans hw256_1), ((HB.out.cell (World.block_lt_of_cell? w _ hw256_2)).trans hw256_2), ((HB.out.cell (World.block_lt_of_cell? w _ hw256_3)).trans hw256_3)⟩ (fun hHeld => ?_)
                    clear hK K
                    refine norm_ (a' := ?_) ?_ ?_
                    rotate_left
                    ·show Act.put _ (some 11) _ = _
                     simp only [Act.put, List.setIfInBounds_toArray, List.set_cons_zero, List.set_cons_succ, i64_w, i32_w]
                     rfl
                    refine one_ (i := 9) (N := none) #[true, true, true, true, true, true, true, true, true, true] rfl rfl (one_of HT_.out (by kernel_rfl)) (by decide) (fun K hK => ?_)
                    have hs71 : w70.cell? ⟨gb257, 0, none⟩ = some (.int .i64 0) := (blk_cell BK257.out 0).trans rfl
                    have hfs71 := blk_frozen BK257.out 0
                    have hns71_0 := NB247_257.out
                    have hms71_0 := NB257_247.out
                    have hs72 : w70.cell? ⟨gb257, 1, none⟩ = some (.int .i64 0) := (blk_cell BK257.out 1).trans rfl
                    have hfs72 := blk_frozen BK257.out 1
                    have hns72_0 := NB247_257.out
                    have hms72_0 := NB257_247.out
                    have hs73 : w70.cell? ⟨gb257, 2, none⟩ = some (.int .i64 0) := (blk_cell BK257.out 2).trans rfl
                    have hfs73 := blk_frozen BK257.out 2
                    have hns73_0 := NB247_257.out
                    have hms73_0 := NB257_247.out
                    have hs74 : w70.cell? ⟨gb257, 3, none⟩ = some (.int .i64 0) := (blk_cell BK257.out 3).trans rfl
                    have hfs74 := blk_frozen BK257.out 3
                    have hns74_0 := NB247_257.out
                    have hms74_0 := NB257_247.out
                    refine skip_ (w1 := ?_) (by rfl) rfl ?_ ?_
                    rotate_left
                    ·go_simp
                     rfl
                    refine hK.out _ _ ⟨((cell_far (p := ⟨gb257, _, none⟩) NB247_257.out _).trans (((cell_far (p := ⟨gb257, _, none⟩) NB247_257.out _).trans (((cell_far (p := ⟨gb257, _, none⟩) NB247_257.out _).trans (((cell_far (p := ⟨gb257, _, none⟩) NB247_257.out _).trans (hHeld.1)))))))), ((cell_far (p := ⟨gb257, _, none⟩) NB247_257.out _).trans (((cell_far (p := ⟨gb257, _, none⟩) NB247_257.out _).trans (((cell_far (p := ⟨gb257, _, none⟩) NB247_257.out _).trans (((cell_far (p := ⟨gb257, _, none⟩) NB247_257.out _).trans (hHeld.2.1)))))))), ((cell_far (p := ⟨gb257, _, none⟩) (by first | exact Kd.own_blk (Kd.R_ne HO_8.out BK257.out (by decide)) | (rw [add_block]; exact Kd.own_blk (Kd.R_ne HO_8.out BK257.out (by decide))) | (show (Addr.add _ _).block ≠ _; rw [add_block]; exact Kd.own_blk (Kd.R_ne HO_8.out BK257.out (by decide))) | (dsimp only; exact Kd.own_blk (Kd.R_ne HO_8.out BK257.out (by decide)))) _).trans (((cell_far (p := ⟨gb257, _, none⟩) (by first | exact Kd.own_blk (Kd.R_ne HO_8.out BK257.out (by decide)) | (rw [add_block]; exact Kd.own_blk (Kd.R_ne HO_8.out BK257.out (by decide))) | (show (Addr.add _ _).block ≠ _; rw [add_block]; exact Kd.own_blk (Kd.R_ne HO_8.out BK257.out (by decide))) | (dsimp only; exact Kd.own_blk (Kd.R_ne HO_8.out BK257.out (by decide)))) _).trans (((cell_far (p := ⟨gb257, _, none⟩) (by first | exact Kd.own_blk (Kd.R_ne HO_8.out BK257.out (by decide)) | (rw [add_block]; exact Kd.own_blk (Kd.R_ne HO_8.out BK257.out (by decide))) | (show (Addr.add _ _).block ≠ _; rw [add_block]; exact Kd.own_blk (Kd.R_ne HO_8.out BK257.out (by decide))) | (dsimp only; exact Kd.own_blk (Kd.R_ne HO_8.out BK257.out (by decide)))) _).trans (((cell_far (p := ⟨gb257, _, none⟩) (by first | exact Kd.own_blk (Kd.R_ne HO_8.out BK257.out (by decide)) | (rw [add_block]; exact Kd.own_blk (Kd.R_ne HO_8.out BK257.out (by decide))) | (show (Addr.add _ _).block ≠ _; rw [add_block]; exact Kd.own_blk (Kd.R_ne HO_8.out BK257.out (by decide))) | (dsimp only; exact Kd.own_blk (Kd.R_ne HO_8.out BK257.out (by decide)))) _).trans (hHeld.2.2.1)))))))), ((cell_far (p := ⟨gb257, _, none⟩) (by first | exact Nat.ne_of_lt (Nat.lt_of_lt_of_le (by have := World.block_lt_of_cell? _ _ hw256_0; first | rwa [add_block] at this | exact this) GW257.out) | (rw [add_block]; exact Nat.ne_of_lt (Nat.lt_of_lt_of_le (by have := World.block_lt_of_cell? _ _ hw256_0; first | rwa [add_block] at this | exact this) GW257.out)) | (show (Addr.add _ _).block ≠ _; rw [add_block]; exact Nat.ne_of_lt (Nat.lt_of_lt_of_le (by have := World.block_lt_of_cell? _ _ hw256_0; first | rwa [add_block] at this | exact this) GW257.out)) | (dsimp only; exact Nat.ne_of_lt (Nat.lt_of_lt_of_le (by have := World.block_lt_of_cell? _ _ hw256_0; first | rwa [add_block] at this | exact this) GW257.out))) _).trans (((cell_far (p := ⟨gb257, _, none⟩) (by first | exact Nat.ne_of_lt (Nat.lt_of_lt_of_le (by have := World.block_lt_of_cell? _ _ hw256_0; first | rwa [add_block] at this | exact this) GW257.out) | (rw [add_block]; exact Nat.ne_of_lt (Nat.lt_of_lt_of_le (by have := World.block_lt_of_cell? _ _ hw256_0; first | rwa [add_block] at this | exact this) GW257.out)) | (show (Addr.add _ _).block ≠ _; rw [add_block]; exact Nat.ne_of_lt (Nat.lt_of_lt_of_le (by have := World.block_lt_of_cell? _ _ hw256_0; first | rwa [add_block] at this | exact this) GW257.out)) | (dsimp only; exact Nat.ne_of_lt (Nat.lt_of_lt_of_le (by have := World.block_lt_of_cell? _ _ hw256_0; first | rwa [add_block] at this | exact this) GW257.out))) _).trans (((cell_far (p := ⟨gb257, _, none⟩) (by first | exact Nat.ne_of_lt (Nat.lt_of_lt_of_le (by have := World.block_lt_of_cell? _ _ hw256_0; first | rwa [add_block] at this | exact this) GW257.out) | (rw [add_block]; exact Nat.ne_of_lt (Nat.lt_of_lt_of_le (by have := World.block_lt_of_cell? _ _ hw256_0; first | rwa [add_block] at this | exact this) GW257.out)) | (show (Addr.add _ _).block ≠ _; rw [add_block]; exact Nat.ne_of_lt (Nat.lt_of_lt_of_le (by have := World.block_lt_of_cell? _ _ hw256_0; first | rwa [add_block] at this | exact this) GW257.out)) | (dsimp only; exact Nat.ne_of_lt (Nat.lt_of_lt_of_le (by have := World.block_lt_of_cell? _ _ hw256_0; first | rwa [add_block] at this | exact this) GW257.out))) _).trans (((cell_far (p := ⟨gb257, _, none⟩) (by first | exact Nat.ne_of_lt (Nat.lt_of_lt_of_le (by have := World.block_lt_of_cell? _ _ hw256_0; first | rwa [add_block] at this | exact this) GW257.out) | (rw [add_block]; exact Nat.ne_of_lt (Nat.lt_of_lt_of_le (by have := World.block_lt_of_cell? _ _ hw256_0; first | rwa [add_block] at this | exact this) GW257.out)) | (show (Addr.add _ _).block ≠ _; rw [add_block]; exact Nat.ne_of_lt (Nat.lt_of_lt_of_le (by have := World.block_lt_of_cell? _ _ hw256_0; first | rwa [add_block] at this | exact this) GW257.out)) | (dsimp only; exact Nat.ne_of_lt (Nat.lt_of_lt_of_le (by have := World.block_lt_of_cell? _ _ hw256_0; first | rwa [add_block] at this | exact this) GW257.out))) _).trans (hHeld.2.2.2.1)))))))), ((cell_far (p := ⟨gb257, _, none⟩) (by first | exact Nat.ne_of_lt (Nat.lt_of_lt_of_le (by have := World.block_lt_of_cell? _ _ hw256_1; first | rwa [add_block] at this | exact this) GW257.out) | (rw [add_block]; exact Nat.ne_of_lt (Nat.lt_of_lt_of_le (by have := World.block_lt_of_cell? _ _ hw256_1; first | rwa [add_block] at this | exact this) GW257.out)) | (show (Addr.add _ _).block ≠ _; rw [add_block]; exact Nat.ne_of_lt (Nat.lt_of_lt_of_le (by have := World.block_lt_of_cell? _ _ hw256_1; first | rwa [add_block] at this | exact this) GW257.out)) | (dsimp only; exact Nat.ne_of_lt (Nat.lt_of_lt_of_le (by have := World.block_lt_of_cell? _ _ hw256_1; first | rwa [add_block] at this | exact this) GW257.out))) _).trans (((cell_far (p := ⟨gb257, _, none⟩) (by first | exact Nat.ne_of_lt (Nat.lt_of_lt_of_le (by have := World.block_lt_of_cell? _ _ hw256_1; first | rwa [add_block] at this | exact this) GW257.out) | (rw [add_block]; exact Nat.ne_of_lt (Nat.lt_of_lt_of_le (by have := World.block_lt_of_cell? _ _ hw256_1; first | rwa [add_block] at this | exact this) GW257.out)) | (show (Addr.add _ _).block ≠ _; rw [add_block]; exact Nat.ne_of_lt (Nat.lt_of_lt_of_le (by have := World.block_lt_of_cell? _ _ hw256_1; first | rwa [add_block] at this | exact this) GW257.out)) | (dsimp only; exact Nat.ne_of_lt (Nat.lt_of_lt_of_le (by have := World.block_lt_of_cell? _ _ hw256_1; first | rwa [add_block] at this | exact this) GW257.out))) _).trans (((cell_far (p := ⟨gb257, _, none⟩) (by first | exact Nat.ne_of_lt (Nat.lt_of_lt_of_le (by have := World.block_lt_of_cell? _ _ hw256_1; first | rwa [add_block] at this | exact this) GW257.out) | (rw [add_block]; exact Nat.ne_of_lt (Nat.lt_of_lt_of_le (by have := World.block_lt_of_cell? _ _ hw256_1; first | rwa [add_block] at this | exact this) GW257.out)) | (show (Addr.add _ _).block ≠ _; rw [add_block]; exact Nat.ne_of_lt (Nat.lt_of_lt_of_le (by have := World.block_lt_of_cell? _ _ hw256_1; first | rwa [add_block] at this | exact this) GW257.out)) | (dsimp only; exact Nat.ne_of_lt (Nat.lt_of_lt_of_le (by have := World.block_lt_of_cell? _ _ hw256_1; first | rwa [add_block] at this | exact this) GW257.out))) _).trans (((cell_far (p := ⟨gb257, _, none⟩) (by first | exact Nat.ne_of_lt (Nat.lt_of_lt_of_le (by have := World.block_lt_of_cell? _ _ hw256_1; first | rwa [add_block] at this | exact this) GW257.out) | (rw [add_block]; exact Nat.ne_of_lt (Nat.lt_of_lt_of_le (by have := World.block_lt_of_cell? _ _ hw256_1; first | rwa [add_block] at this | exact this) GW257.out)) | (show (Addr.add _ _).block ≠ _; rw [add_block]; exact Nat.ne_of_lt (Nat.lt_of_lt_of_le (by have := World.block_lt_of_cell? _ _ hw256_1; first | rwa [add_block] at this | exact this) GW257.out)) | (dsimp only; exact Nat.ne_of_lt (Nat.lt_of_lt_of_le (by have := World.block_lt_of_cell? _ _ hw256_1; first | rwa [add_block] at this | exact this) GW257.out))) _).trans (hHeld.2.2.2.2.1)))))))), ((cell_far (p := ⟨gb257, _, none⟩) (by first | exact Nat.ne_of_lt (Nat.lt_of_lt_of_le (by have := World.block_lt_of_cell? _ _ hw256_2; first | rwa [add_block] at this | exact this) GW257.out) | (rw [add_block]; exact Nat.ne_of_lt (Nat.lt_of_lt_of_le (by have := World.block_lt_of_cell? _ _ hw256_2; first | rwa [add_block] at this | exact this) GW257.out)) | (show (Addr.add _ _).block ≠ _; rw [add_block]; exact Nat.ne_of_lt (Nat.lt_of_lt_of_le (by have := World.block_lt_of_cell? _ _ hw256_2; first | rwa [add_block] at this | exact this) GW257.out)) | (dsimp only; exact Nat.ne_of_lt (Nat.lt_of_lt_of_le (by have := World.block_lt_of_cell? _ _ hw256_2; first | rwa [add_block] at this | exact this) GW257.out))) _).trans (((cell_far (p := ⟨gb257, _, none⟩) (by first | exact Nat.ne_of_lt (Nat.lt_of_lt_of_le (by have := World.block_lt_of_cell? _ _ hw256_2; first | rwa [add_block] at this | exact this) GW257.out) | (rw [add_block]; exact Nat.ne_of_lt (Nat.lt_of_lt_of_le (by have := World.block_lt_of_cell? _ _ hw256_2; first | rwa [add_block] at this | exact this) GW257.out)) | (show (Addr.add _ _).block ≠ _; rw [add_block]; exact Nat.ne_of_lt (Nat.lt_of_lt_of_le (by have := World.block_lt_of_cell? _ _ hw256_2; first | rwa [add_block] at this | exact this) GW257.out)) | (dsimp only; exact Nat.ne_of_lt (Nat.lt_of_lt_of_le (by have := World.block_lt_of_cell? _ _ hw256_2; first | rwa [add_block] at this | exact this) GW257.out))) _).trans (((cell_far (p := ⟨gb257, _, none⟩) (by first | exact Nat.ne_of_lt (Nat.lt_of_lt_of_le (by have := World.block_lt_of_cell? _ _ hw256_2; first | rwa [add_block] at this | exact this) GW257.out) | (rw [add_block]; exact Nat.ne_of_lt (Nat.lt_of_lt_of_le (by have := World.block_lt_of_cell? _ _ hw256_2; first | rwa [add_block] at this | exact this) GW257.out)) | (show (Addr.add _ _).block ≠ _; rw [add_block]; exact Nat.ne_of_lt (Nat.lt_of_lt_of_le (by have := World.block_lt_of_cell? _ _ hw256_2; first | rwa [add_block] at this | exact this) GW257.out)) | (dsimp only; exact Nat.ne_of_lt (Nat.lt_of_lt_of_le (by have := World.block_lt_of_cell? _ _ hw256_2; first | rwa [add_block] at this | exact this) GW257.out))) _).trans (((cell_far (p := ⟨gb257, _, none⟩) (by first | exact Nat.ne_of_lt (Nat.lt_of_lt_of_le (by have := World.block_lt_of_cell? _ _ hw256_2; first | rwa [add_block] at this | exact this) GW257.out) | (rw [add_block]; exact Nat.ne_of_lt (Nat.lt_of_lt_of_le (by have := World.block_lt_of_cell? _ _ hw256_2; first | rwa [add_block] at this | exact this) GW257.out)) | (show (Addr.add _ _).block ≠ _; rw [add_block]; exact Nat.ne_of_lt (Nat.lt_of_lt_of_le (by have := World.block_lt_of_cell? _ _ hw256_2; first | rwa [add_block] at this | exact this) GW257.out)) | (dsimp only; exact Nat.ne_of_lt (Nat.lt_of_lt_of_le (by have := World.block_lt_of_cell? _ _ hw256_2; first | rwa [add_block] at this | exact this) GW257.out))) _).trans (hHeld.2.2.2.2.2.1)))))))), ((cell_far (p := ⟨gb257, _, none⟩) (by first | exact Nat.ne_of_lt (Nat.lt_of_lt_of_le (by have := World.block_lt_of_cell? _ _ hw256_3; first | rwa [add_block] at this | exact this) GW257.out) | (rw [add_block]; exact Nat.ne_of_lt (Nat.lt_of_lt_of_le (by have := World.block_lt_of_cell? _ _ hw256_3; first | rwa [add_block] at this | exact this) GW257.out)) | (show (Addr.add _ _).block ≠ _; rw [add_block]; exact Nat.ne_of_lt (Nat.lt_of_lt_of_le (by have := World.block_lt_of_cell? _ _ hw256_3; first | rwa [add_block] at this | exact this) GW257.out)) | (dsimp only; exact Nat.ne_of_lt (Nat.lt_of_lt_of_le (by have := World.block_lt_of_cell? _ _ hw256_3; first | rwa [add_block] at this | exact this) GW257.out))) _).trans (((cell_far (p := ⟨gb257, _, none⟩) (by first | exact Nat.ne_of_lt (Nat.lt_of_lt_of_le (by have := World.block_lt_of_cell? _ _ hw256_3; first | rwa [add_block] at this | exact this) GW257.out) | (rw [add_block]; exact Nat.ne_of_lt (Nat.lt_of_lt_of_le (by have := World.block_lt_of_cell? _ _ hw256_3; first | rwa [add_block] at this | exact this) GW257.out)) | (show (Addr.add _ _).block ≠ _; rw [add_block]; exact Nat.ne_of_lt (Nat.lt_of_lt_of_le (by have := World.block_lt_of_cell? _ _ hw256_3; first | rwa [add_block] at this | exact this) GW257.out)) | (dsimp only; exact Nat.ne_of_lt (Nat.lt_of_lt_of_le (by have := World.block_lt_of_cell? _ _ hw256_3; first | rwa [add_block] at this | exact this) GW257.out))) _).trans (((cell_far (p := ⟨gb257, _, none⟩) (by first | exact Nat.ne_of_lt (Nat.lt_of_lt_of_le (by have := World.block_lt_of_cell? _ _ hw256_3; first | rwa [add_block] at this | exact this) GW257.out) | (rw [add_block]; exact Nat.ne_of_lt (Nat.lt_of_lt_of_le (by have := World.block_lt_of_cell? _ _ hw256_3; first | rwa [add_block] at this | exact this) GW257.out)) | (show (Addr.add _ _).block ≠ _; rw [add_block]; exact Nat.ne_of_lt (Nat.lt_of_lt_of_le (by have := World.block_lt_of_cell? _ _ hw256_3; first | rwa [add_block] at this | exact this) GW257.out)) | (dsimp only; exact Nat.ne_of_lt (Nat.lt_of_lt_of_le (by have := World.block_lt_of_cell? _ _ hw256_3; first | rwa [add_block] at this | exact this) GW257.out))) _).trans (((cell_far (p := ⟨gb257, _, none⟩) (by first | exact Nat.ne_of_lt (Nat.lt_of_lt_of_le (by have := World.block_lt_of_cell? _ _ hw256_3; first | rwa [add_block] at this | exact this) GW257.out) | (rw [add_block]; exact Nat.ne_of_lt (Nat.lt_of_lt_of_le (by have := World.block_lt_of_cell? _ _ hw256_3; first | rwa [add_block] at this | exact this) GW257.out)) | (show (Addr.add _ _).block ≠ _; rw [add_block]; exact Nat.ne_of_lt (Nat.lt_of_lt_of_le (by have := World.block_lt_of_cell? _ _ hw256_3; first | rwa [add_block] at this | exact this) GW257.out)) | (dsimp only; exact Nat.ne_of_lt (Nat.lt_of_lt_of_le (by have := World.block_lt_of_cell? _ _ hw256_3; first | rwa [add_block] at this | exact this) GW257.out))) _).trans (hHeld.2.2.2.2.2.2))))))))⟩ (fun hHeld => ?_)
                    clear hK K
                    refine done_ (done_of HT_.out (by kernel_rfl)) ?_
                    have hnb75 := NB257_247.out
                    have hnc75 := NB247_257.out
                    have hcz76_0 : w70.cell? ⟨gb257, 0, none⟩ = some (.int .i64 0) := (blk_cell BK257.out 0).trans rfl
                    have hcz76_1 : w70.cell? ⟨gb257, 1, none⟩ = some (.int .i64 0) := (blk_cell BK257.out 1).trans rfl
                    have hcz76_2 : w70.cell? ⟨gb257, 2, none⟩ = some (.int .i64 0) := (blk_cell BK257.out 2).trans rfl
                    have hcz76_3 : w70.cell? ⟨gb257, 3, none⟩ = some (.int .i64 0) := (blk_cell BK257.out 3).trans rfl
                    have hfz76_0 := blk_frozen BK257.out 0
                    have hfz76_1 := blk_frozen BK257.out 1
                    have hfz76_2 := blk_frozen BK257.out 2
                    have hfz76_3 := blk_frozen BK257.out 3
                    have p258 : 0 ≤ (((rd_T37 l0_1 (rd t252 x10_2)).f0) : Int) := of_decide_eq_true (by first | (with_reducible assumption) | assumption)
                    have q258 : ((rd_T37 l0_1 (rd t252 x10_2)).f0) < (x7_2.length : Int) := of_decide_eq_true (by first | (with_reducible assumption) | assumption)
                    obtain ⟨ad258, e258, hx258_0⟩ := Kd.at_bool (Kd.R_reads' HO_7.out).2.2 ((rd_T37 l0_1 (rd t252 x10_2)).f0) p258 q258
                    (try rw [← Nbq26.out] at hx258_0)
                    (try rw [← Nbq49.out] at hx258_0)
                    obtain rfl : (⟨go8, 0, none⟩ : Addr) = ad258 := (by injection e258)
                    (first | simp only [add_plain] at hx258_0 | simp only [add_at] at hx258_0 | simp only [Addr.add, Nat.zero_add] at hx258_0 | skip)
                    have hn258_0 : (⟨go8, 0, none⟩ : Addr).block ≠ gb257 := Kd.own_blk (Kd.R_ne HO_7.out BK257.out (by decide))
                    have hn258_1 : (⟨go8, 0, none⟩ : Addr).block ≠ gb257 := Kd.own_blk (Kd.R_ne HO_7.out BK257.out (by decide))
                    have hn258_2 : (⟨go8, 0, none⟩ : Addr).block ≠ gb257 := Kd.own_blk (Kd.R_ne HO_7.out BK257.out (by decide))
                    have hn258_3 : (⟨go8, 0, none⟩ : Addr).block ≠ gb257 := Kd.own_blk (Kd.R_ne HO_7.out BK257.out (by decide))
                    replace hx258_0 := (cell_far (p := ⟨gb257, 0, none⟩) (by first | (rw [add_block]; exact hn258_0) | (show (Addr.add _ _).block ≠ _; rw [add_block]; exact hn258_0) | exact hn258_0) (.int .i64 ((rd_T37 l0_1 (rd t252 x10_2)).f0))).trans hx258_0
                    replace hx258_0 := (cell_far (p := ⟨gb257, 1, none⟩) (by first | (rw [add_block]; exact hn258_1) | (show (Addr.add _ _).block ≠ _; rw [add_block]; exact hn258_1) | exact hn258_1) (.int .i64 ((rd_T37 l0_1 (rd t252 x10_2)).f1))).trans hx258_0
                    replace hx258_0 := (cell_far (p := ⟨gb257, 2, none⟩) (by first | (rw [add_block]; exact hn258_2) | (show (Addr.add _ _).block ≠ _; rw [add_block]; exact hn258_2) | exact hn258_2) (.int .i64 ((rd_T37 l0_1 (rd t252 x10_2)).f2))).trans hx258_0
                    replace hx258_0 := (cell_far (p := ⟨gb257, 3, none⟩) (by first | (rw [add_block]; exact hn258_3) | (show (Addr.add _ _).block ≠ _; rw [add_block]; exact hn258_3) | exact hn258_3) (.int .i64 ((rd_T37 l0_1 (rd t252 x10_2)).f3))).trans hx258_0
                    clear hn258_0; clear hn258_1; clear hn258_2; clear hn258_3
                    replace p258 := eq_true p258
                    replace q258 := eq_true q258
                    have p261 : 0 ≤ (((rd_T37 l0_1 (rd t252 x10_2)).f1) : Int) := of_decide_eq_true (by first | (with_reducible assumption) | assumption)
                    have q261 : ((rd_T37 l0_1 (rd t252 x10_2)).f1) < (x7_2.length : Int) := of_decide_eq_true (by first | (with_reducible assumption) | assumption)
                    obtain ⟨ad261, e261, hx261_0⟩ := Kd.at_bool (Kd.R_reads' HO_7.out).2.2 ((rd_T37 l0_1 (rd t252 x10_2)).f1) p261 q261
                    (try rw [← Nbq26.out] at hx261_0)
                    (try rw [← Nbq49.out] at hx261_0)
                    obtain rfl : (⟨go8, 0, none⟩ : Addr) = ad261 := (by injection e261)
                    (first | simp only [add_plain] at hx261_0 | simp only [add_at] at hx261_0 | simp only [Addr.add, Nat.zero_add] at hx261_0 | skip)
                    have hn261_0 : (⟨go8, 0, none⟩ : Addr).block ≠ gb257 := Kd.own_blk (Kd.R_ne HO_7.out BK257.out (by decide))
                    have hn261_1 : (⟨go8, 0, none⟩ : Addr).block ≠ gb257 := Kd.own_blk (Kd.R_ne HO_7.out BK257.out (by decide))
                    have hn261_2 : (⟨go8, 0, none⟩ : Addr).block ≠ gb257 := Kd.own_blk (Kd.R_ne HO_7.out BK257.out (by decide))
                    have hn261_3 : (⟨go8, 0, none⟩ : Addr).block ≠ gb257 := Kd.own_blk (Kd.R_ne HO_7.out BK257.out (by decide))
                    replace hx261_0 := (cell_far (p := ⟨gb257, 0, none⟩) (by first | (rw [add_block]; exact hn261_0) | (show (Addr.add _ _).block ≠ _; rw [add_block]; exact hn261_0) | exact hn261_0) (.int .i64 ((rd_T37 l0_1 (rd t252 x10_2)).f0))).trans hx261_0
                    replace hx261_0 := (cell_far (p := ⟨gb257, 1, none⟩) (by first | (rw [add_block]; exact hn261_1) | (show (Addr.add _ _).block ≠ _; rw [add_block]; exact hn261_1) | exact hn261_1) (.int .i64 ((rd_T37 l0_1 (rd t252 x10_2)).f1))).trans hx261_0
                    replace hx261_0 := (cell_far (p := ⟨gb257, 2, none⟩) (by first | (rw [add_block]; exact hn261_2) | (show (Addr.add _ _).block ≠ _; rw [add_block]; exact hn261_2) | exact hn261_2) (.int .i64 ((rd_T37 l0_1 (rd t252 x10_2)).f2))).trans hx261_0
                    replace hx261_0 := (cell_far (p := ⟨gb257, 3, none⟩) (by first | (rw [add_block]; exact hn261_3) | (show (Addr.add _ _).block ≠ _; rw [add_block]; exact hn261_3) | exact hn261_3) (.int .i64 ((rd_T37 l0_1 (rd t252 x10_2)).f3))).trans hx261_0
                    clear hn261_0; clear hn261_1; clear hn261_2; clear hn261_3
                    replace p261 := eq_true p261
                    replace q261 := eq_true q261
                    try go_wp2
                    (try simp only [← hl7_2])
                    go_roundg k2
                    case measure => have := HK1.out; have := HK2.out; omega
                    case rel => exact ⟨(x7_2), (wrap64 (x10_2 + 1)), (by first | rfl | (simp; done) | (simp [*]; done)), H', ⟨by have := HK1.out; have := HK2.out; omega⟩, ⟨by (try simp only [hl7_1]); (try simp only [hl7_2]); (with_reducible repeat (first | apply Kd.R_alloc | apply Kd.R_drewN | apply Kd.R_drew)); exact Kd.R_mono (Kd.R_far (p := ⟨gb257, 3, none⟩) (Kd.R_far (p := ⟨gb257, 2, none⟩) (Kd.R_far (p := ⟨gb257, 1, none⟩) (Kd.R_far (p := ⟨gb257, 0, none⟩) (Kd.R_types HO_7.out BK257.out (by decide)) (fun _ hk => hk.2) (.int .i64 ((rd_T37 l0_1 (rd t252 x10_2)).f0))) (fun _ hk => hk.2) (.int .i64 ((rd_T37 l0_1 (rd t252 x10_2)).f1))) (fun _ hk => hk.2) (.int .i64 ((rd_T37 l0_1 (rd t252 x10_2)).f2))) (fun _ hk => hk.2) (.int .i64 ((rd_T37 l0_1 (rd t252 x10_2)).f3))) (fun _ hk => trivial)⟩, ⟨by (try simp only [hl7_1]); (try simp only [hl7_2]); (with_reducible repeat (first | apply Kd.R_alloc | apply Kd.R_drewN | apply Kd.R_drew)); exact Kd.R_mono (Kd.R_far (p := ⟨gb257, 3, none⟩) (Kd.R_far (p := ⟨gb257, 2, none⟩) (Kd.R_far (p := ⟨gb257, 1, none⟩) (Kd.R_far (p := ⟨gb257, 0, none⟩) (Kd.R_types HO_8.out BK257.out (by decide)) (fun _ hk => hk.2) (.int .i64 ((rd_T37 l0_1 (rd t252 x10_2)).f0))) (fun _ hk => hk.2) (.int .i64 ((rd_T37 l0_1 (rd t252 x10_2)).f1))) (fun _ hk => hk.2) (.int .i64 ((rd_T37 l0_1 (rd t252 x10_2)).f2))) (fun _ hk => hk.2) (.int .i64 ((rd_T37 l0_1 (rd t252 x10_2)).f3))) (fun _ hk => trivial)⟩, ⟨by (try simp only [hl7_1]); (try simp only [hl7_2]); (with_reducible repeat (first | refine blk_drewN ?_ _ | refine blk_drew ?_ | refine blk_alloc ?_ _)); refine blk_far ?_ NB247_257.out _; (with_reducible repeat (first | refine blk_drewN ?_ _ | refine blk_drew ?_ | refine blk_alloc ?_ _)); refine blk_far ?_ NB247_257.out _; (with_reducible repeat (first | refine blk_drewN ?_ _ | refine blk_drew ?_ | refine blk_alloc ?_ _)); refine blk_far ?_ NB247_257.out _; (with_reducible repeat (first | refine blk_drewN ?_ _ | refine blk_drew ?_ | refine blk_alloc ?_ _)); refine blk_far ?_ NB247_257.out _; (with_reducible repeat (first | refine blk_drewN ?_ _ | refine blk_drew ?_ | refine blk_alloc ?_ _)); exact BK247.out⟩, ⟨by repeat (first | (with_reducible first | exact HB.out | apply below_alloc | apply pw_below_drewN | apply below_drew1 | refine below_set ?_ GE247.out | refine below_set ?_ GE257.out) | exact HB.out)⟩⟩
                  ·rw [if_neg c48] at H
                   exact absurd H (by simp)
                 ·rw [if_neg c47] at H
                  exact absurd H (by simp)
               ·rw [if_neg c25] at H
                exact absurd H (by simp)
              ·rw [if_neg c24] at H
               exact absurd H (by simp)
             ·rw [if_neg c23] at H
              exact absurd H (by simp)
            ·rw [if_neg c22] at H
             exact absurd H (by simp)
           ·rw [if_neg c21] at H
            exact absurd H (by simp)
          ·rw [if_neg c20] at H
           have c20b0 : decide (x10_2 < (t252.length : Int)) = false := decide_eq_false c20
           clear c20
           have H' := Aside0.mk H
           clear H
           obtain ⟨Ao77, co77, eo77⟩ := Kd.R_slice HO_8.out
           subst eo77
           go_wp2
           (try simp only [← hl7_1, ← hl7_2])
           go_roundg k2
           case measure => have := HK1.out; have := HK2.out; omega
           case rel => exact ⟨(x7_2), (wrap64 (x9_1 + 1)), (by first | rfl | (simp; done) | (simp [*]; done)), H', ⟨by have := HK1.out; have := HK2.out; omega⟩, ⟨by (try simp only [hl7_1]); (try simp only [hl7_2]); (with_reducible repeat (first | apply Kd.R_alloc | apply Kd.R_drewN | apply Kd.R_drew)); exact HO_7.out⟩, ⟨by (try simp only [hl7_1]); (try simp only [hl7_2]); (with_reducible repeat (first | apply Kd.R_alloc | apply Kd.R_drewN | apply Kd.R_drew)); exact HO_8.out⟩, ⟨by (try simp only [hl7_1]); (try simp only [hl7_2]); (with_reducible repeat (first | refine blk_drewN ?_ _ | refine blk_drew ?_ | refine blk_alloc ?_ _)); exact BK247.out⟩, ⟨by repeat (first | (with_reducible first | exact HB.out | apply below_alloc | apply pw_below_drewN | apply below_drew1 | refine below_set ?_ GE247.out) | exact HB.out)⟩⟩
       ·rw [if_neg c18] at H
        have c18b0 : decide (x9_1 < a0_0) = false := decide_eq_false c18
        clear c18
        obtain rfl := Option.some.inj H
        have hcz78_0 : wr.cell? ⟨gb247, 0, none⟩ = some (.int .i64 a0_0) := (blk_cell BK247.out 0).trans rfl
        have hcz78_1 : wr.cell? ⟨gb247, 1, none⟩ = some (.slice A0_1 l0_1.length c0_1) := (blk_cell BK247.out 1).trans rfl
        have hfz78_0 := blk_frozen BK247.out 0
        have hfz78_1 := blk_frozen BK247.out 1
        go_wp2
        go_ret
        exact ⟨_, by first | rfl | (simp [errW_none, errW_some] <;> rfl) | (simp [*, errW_none, errW_some] <;> rfl), by (with_reducible repeat (first | apply Kd.R_alloc | apply Kd.R_drewN | apply Kd.R_drew)); exact HO_7.out, by repeat (first | (with_reducible first | exact HB.out | apply below_alloc | apply pw_below_drewN | apply below_drew1 | refine below_set ?_ GE247.out) | exact HB.out)⟩
    ·rw [if_neg c7] at H
     exact absurd H (by simp)
   ·rw [if_neg c6] at H
    exact absurd H (by simp)
  ·rw [if_neg c5] at H
   exact absurd H (by simp)
 ·rw [if_neg c4] at H
  exact absurd H (by simp)

end Go.Proofs.Ytdpgdelimffjpaa.P

namespace Go.Proofs.Ytdpgdelimffjpaa.P
open Go.RowKit Go.Proofs.YtdpgdelimffjpaaW.PrintWords Go.Proofs.YtdpgdelimffjpaaW.PrintLast Go.Proofs.YtdpgdelimffjpaaW.PrintMore
attribute [local go_sem] max2_int min2_int max_two min_two max_three min_three max_four min_four   -- for this text's walks alone
set_option linter.unusedVariables false
set_option linter.unusedSimpArgs false

/-! ### pylonref15_Of: function 38 -/
mutual
def pylonref15_Of.l0 : Nat → List Int → List Int → Int → Int → Int → List (S37) → Option (List Int × Int)
 | 0, _, _, _, _, _, _ => none
 | k + 1, x1, x7, x8, x9, x265000, x265001 => if x9 < x265000 then ((pylonref15_reach.f k x265000 x265001 x1 x9).bind fun t269 => (pylonref15_Of.l1 k x1 x7 x8 x9 t269 0 x265000 x265001)) else (some (x7, 0))
def pylonref15_Of.l1 : Nat → List Int → List Int → Int → Int → List Bool → Int → Int → List (S37) → Option (List Int × Int)
 | 0, _, _, _, _, _, _, _, _ => none
 | k + 1, x1, x7, x8, x9, x10, x11, x265000, x265001 => if 0 ≤ x11 then (if x11 < (x10.length : Int) then (if rdOf false x10 x11 = true then (if x11 = x9 then (if 0 ≤ x9 then (if x9 < (x7.length : Int) then (pylonref15_Of.l0 k x1 (x7.set (x9 : Int).toNat x8) (wrap64 (x8 + 1)) (wrap64 (x9 + 1)) x265000 x265001) else (none)) else (none)) else (if x11 < (x7.length : Int) then (if 0 ≤ x9 then (if x9 < (x7.length : Int) then (pylonref15_Of.l0 k x1 (x7.set (x9 : Int).toNat (rd x7 x11)) x8 (wrap64 (x9 + 1)) x265000 x265001) else (none)) else (none)) else (none))) else (pylonref15_Of.l1 k x1 x7 x8 x9 x10 (wrap64 (x11 + 1)) x265000 x265001)) else (none)) else (none)
end
def pylonref15_Of.f (k : Nat) (a0_0 : Int) (l0_1 : List (S37)) (l1 : List Int) : Option (List Int × Int) := (pylonref14_Outs.f k a0_0 l0_1 l1).bind fun t265 => (if t265 = 0 then (if 0 ≤ a0_0 then (if (a0_0 : Int).toNat ≤ 35184372088832 then (pylonref15_Of.l0 k l1 (List.replicate (a0_0 : Int).toNat 0) 0 0 a0_0 l0_1) else (none)) else (none)) else (some (([] : List Int), t265)))
set_option maxHeartbeats 8000000 in
set_option maxRecDepth 100000 in
theorem pylonref15_Of.calls (k : Nat) (a0_0 : Int) (A0_1 : Option Addr) (c0_1 : Nat) (l0_1 : List (S37)) (A1 : Option Addr) (c1 : Nat) (l1 : List Int) (r1 : List Int) (r2 : Int) (w : World) (hr0_1 : Kd.C k37 w A0_1 l0_1.length l0_1) (hc0_1 : l0_1.length ≤ c0_1) (hr1 : Kd.C (Kd.int .i64) w A1 l1.length l1) (hc1 : l1.length ≤ c1) (h : pylonref15_Of.f k a0_0 l0_1 l1 = some (r1, r2)) :
  Calls Try.prog 38 #[.agg #[.int .i64 a0_0, .slice A0_1 l0_1.length c0_1], .slice A1 l1.length c1] w fun e w' => ∃ v0_ : Value, e = .returned (.tuple #[v0_, .int .i64 r2]) ∧ Kd.R (Kd.int .i64) 3 w' w.heap.size (fun _ => True) v0_ r1 ∧ Below w.heap.size w w' := by
 have hu24 := Try.underlying24
 have HR0_1 := Aside0.mk hr0_1
 have HC0_1 := Aside0.mk hc0_1
 clear hr0_1 hc0_1
 have HR1 := Aside0.mk hr1
 have HC1 := Aside0.mk hc1
 clear hr1 hc1
 have HB := Aside0.mk (Below.refl w.heap.size w)
 have H : ((pylonref14_Outs.f k a0_0 l0_1 l1).bind fun t265 => (if t265 = 0 then (if 0 ≤ a0_0 then (if (a0_0 : Int).toNat ≤ 35184372088832 then (pylonref15_Of.l0 k l1 (List.replicate (a0_0 : Int).toNat 0) 0 0 a0_0 l0_1) else (none)) else (none)) else (some (([] : List Int), t265)))) = some (r1, r2) := h
 clear h
 replace H := Option.bind_eq_some_iff.mp H
 obtain ⟨t265, A30, H⟩ := H
 replace H : (if t265 = 0 then (if 0 ≤ a0_0 then (if (a0_0 : Int).toNat ≤ 35184372088832 then (pylonref15_Of.l0 k l1 (List.replicate (a0_0 : Int).toNat 0) 0 0 a0_0 l0_1) else (none)) else (none)) else (some (([] : List Int), t265))) = some (r1, r2) := H
 have A3 := Aside0.mk A30
 clear A30
 by_cases c4 : t265 = 0
 ·rw [if_pos c4] at H
  have c4b0 : (t265 == 0) = true := beq_iff_eq.mpr c4
  have c4b1 : (t265 != 0) = false := bne_eq_false_iff_eq.mpr c4
  clear c4
  by_cases c5 : 0 ≤ a0_0
  ·rw [if_pos c5] at H
   have c5b0 := eq_true c5
   have c5b1 : decide (0 ≤ a0_0) = true := decide_eq_true c5
   clear c5
   by_cases c6 : (a0_0 : Int).toNat ≤ 35184372088832
   ·rw [if_pos c6] at H
    have c6b0 := eq_true c6
    have c6b1 : decide ((a0_0 : Int).toNat ≤ 35184372088832) = true := decide_eq_true c6
    clear c6
    obtain ⟨y266, hy266⟩ : ∃ y_ : List Int, y_ = (List.replicate (a0_0 : Int).toNat 0) := ⟨_, rfl⟩
    replace H : (pylonref15_Of.l0 k l1 y266 0 0 a0_0 l0_1) = some (r1, r2) := by first | (rw [hy266]; with_reducible exact H) | (have H2_ := (Option.bind_some _ _).symm.trans H; rw [hy266]; with_reducible exact H2_) | (have H2_ := (Option.bind_some _ _).symm.trans H; with_reducible exact H2_) | with_reducible exact H | (rw [hy266]; exact H) | exact H
    have Ny266 := Aside0.mk hy266
    clear hy266
    have H' := Aside0.mk H
    clear H
    go_enter Try.func38, Try.ntmps38
    go_wp2_with (first | ((with_reducible refine gate_dst (N := 2) rfl ?_); refine box_event ?hg (N := 2) ?hd (cs := #[.int .i64 a0_0, .slice A0_1 l0_1.length c0_1]) (t := 24) ?hr ?_; (case hd => rfl); (case hg => rfl); (case hr => first | (go_simp; done) | (go_simp; rfl)); intro gb264 hg w7 hbox hb; have n0_ := Aside0.mk (below_step (by repeat (first | (with_reducible first | exact HB.out | apply below_alloc | apply pw_below_drewN | apply below_drew1) | exact HB.out)) hb); have n1_ := Aside0.mk (hbox); have n2_ := Aside0.mk ((by rw [hg]; exact (below_size (by repeat (first | (with_reducible first | exact HB.out | apply below_alloc | apply pw_below_drewN | apply below_drew1) | exact HB.out))) : w.heap.size ≤ gb264)); have n3_ := Aside0.mk ((by rw [hg]; exact (below_size (by repeat (first | (with_reducible first | exact HB.out | apply below_alloc | apply pw_below_drewN | apply below_drew1) | exact HB.out))) : w.heap.size ≤ gb264)); clear HB; have HB := n0_; have BK264 := n1_; have GW264 := n2_; have GE264 := n3_; clear n0_ n1_ n2_ n3_; clear hb hbox hg; have hcz8_0 : w7.cell? ⟨gb264, 0, none⟩ = some (.int .i64 a0_0) := (blk_cell BK264.out 0).trans rfl; have hcz8_1 : w7.cell? ⟨gb264, 1, none⟩ = some (.slice A0_1 l0_1.length c0_1) := (blk_cell BK264.out 1).trans rfl; have hfz8_0 := blk_frozen BK264.out 0; have hfz8_1 := blk_frozen BK264.out 1) | ((with_reducible refine gate_callee (f := 69) rfl ?_); refine goesL_ (some 14) rfl rfl Try.func69 (by kernel_rfl) rfl #[.agg #[.int .i64 a0_0, .slice A0_1 l0_1.length c0_1], .slice A1 l1.length c1] rfl (by (try simp only [List.map_toArray, List.map_cons, List.map_nil]); first | done | rfl | (simp only [List.length_drop, List.length_take]; rfl)) ?_; (with_reducible refine (pylonref14_Outs.calls k a0_0 _ _ l0_1 _ _ l1 t265 _ ?side1 ?side2 ?side3 ?side4 A3.out).mono ?_); (case side1 => repeat (first | exact (Kd.C_below HR0_1.out HB.out) | (with_reducible refine Kd.C_alloc ?_ _) | (with_reducible refine Kd.C_drewN ?_ _) | (with_reducible refine Kd.C_drew ?_))); (case side2 => exact HC0_1.out); (case side3 => repeat (first | exact (Kd.C_below HR1.out HB.out) | (with_reducible refine Kd.C_alloc ?_ _) | (with_reducible refine Kd.C_drewN ?_ _) | (with_reducible refine Kd.C_drew ?_))); (case side4 => exact HC1.out); rintro e w9 ⟨rfl, hb⟩; refine ⟨_, rfl, ?_⟩; have n0_ := Aside0.mk (blk_below (g := gb264) (o := .cells #[.int .i64 a0_0, .slice A0_1 l0_1.length c0_1] 24 (0, 0)) (by (with_reducible repeat (first | refine blk_drewN ?_ _ | refine blk_drew ?_ | refine blk_alloc ?_ _)); exact BK264.out) hb); have n1_ := Aside0.mk (below_step (by repeat (first | (with_reducible first | exact HB.out | apply below_alloc | apply pw_below_drewN | apply below_drew1 | refine below_set ?_ GE264.out) | exact HB.out)) hb); clear BK264; clear HB; have BK264 := n0_; have HB := n1_; clear n0_ n1_; (try clear hb); (try clear hb2); (try clear hk); (try clear hi); have hcz10_0 : w9.cell? ⟨gb264, 0, none⟩ = some (.int .i64 a0_0) := (blk_cell BK264.out 0).trans rfl; have hcz10_1 : w9.cell? ⟨gb264, 1, none⟩ = some (.slice A0_1 l0_1.length c0_1) := (blk_cell BK264.out 1).trans rfl; have hfz10_0 := blk_frozen BK264.out 0; have hfz10_1 := blk_frozen BK264.out 1) | ((with_reducible refine gate_dst (N := 20) rfl ?_); refine Kd.R_make (Kd.int .i64) _ 3 rfl (N := 20) rfl 25 _ _ rfl a0_0 rfl rfl Try.underlying25 (.int .i64 0) 8 info3 rfl (by decide) (by omega) 0 (ok := fun _ => True) (okp := fun _ => True) rfl (fun _ hk => hk) trivial (of_decide_eq_true (by first | (with_reducible assumption) | assumption)) (Nat.le_trans (Nat.mul_le_mul_right _ (of_decide_eq_true (by first | (with_reducible assumption) | assumption) : a0_0.toNat ≤ 35184372088832)) (by omega)) (Below.refl _ _) (Nat.le_refl _) ?_; intro v267 w11 ho12 hb hg_ hnew_; clear hg_ hnew_; (first | rw [← Ny266.out] at ho12 | (simp only [Int.reduceToNat] at ho12; rw [← Ny266.out] at ho12)); have n0_ := Aside0.mk (Kd.R_lower ho12 (below_size (by repeat (first | (with_reducible first | exact HB.out | apply below_alloc | apply pw_below_drewN | apply below_drew1 | refine below_set ?_ GE264.out) | exact HB.out)))); have n1_ := Aside0.mk (blk_below (g := gb264) (o := .cells #[.int .i64 a0_0, .slice A0_1 l0_1.length c0_1] 24 (0, 0)) (by (with_reducible repeat (first | refine blk_drewN ?_ _ | refine blk_drew ?_ | refine blk_alloc ?_ _)); exact BK264.out) hb); have n2_ := Aside0.mk (below_step (by repeat (first | (with_reducible first | exact HB.out | apply below_alloc | apply pw_below_drewN | apply below_drew1 | refine below_set ?_ GE264.out) | exact HB.out)) hb); clear BK264; clear HB; have HO268 := n0_; have BK264 := n1_; have HB := n2_; clear n0_ n1_ n2_; clear hb ho12))
    go_loopg [8, 9] k (fun kq v8 v9 w' => ∃ (x7_1 : List Int) (x8_1 : Int) (x9_1 : Int), v8 = .int .i64 x8_1 ∧ v9 = .int .i64 x9_1 ∧ Aside0 (pylonref15_Of.l0 kq l1 x7_1 x8_1 x9_1 a0_0 l0_1 = some (r1, r2)) ∧ Aside0 (kq ≤ k) ∧ Aside0 (Kd.R (Kd.int .i64) 3 w' w.heap.size (fun _ => True) v267 x7_1) ∧ Aside0 (w'.heap[gb264]? = some (.cells #[.int .i64 a0_0, (.slice A0_1 l0_1.length c0_1)] 24 (0, 0))) ∧ Aside0 (Below w.heap.size w w'))
    case atStart => exact ⟨(y266), (0), (0), (by first | rfl | (simp; done) | (simp [*]; done)), (by first | rfl | (simp; done) | (simp [*]; done)), H', ⟨Nat.le_refl _⟩, ⟨by (with_reducible repeat (first | apply Kd.R_alloc | apply Kd.R_drewN | apply Kd.R_drew)); exact HO268.out⟩, ⟨by (with_reducible repeat (first | refine blk_drewN ?_ _ | refine blk_drew ?_ | refine blk_alloc ?_ _)); exact BK264.out⟩, ⟨by repeat (first | (with_reducible first | exact HB.out | apply below_alloc | apply pw_below_drewN | apply below_drew1 | refine below_set ?_ GE264.out) | exact HB.out)⟩⟩
    case round =>
     clear H'; (try clear c1); (try clear p2); (try clear c3); (try clear c4); (try clear c4b0); (try clear c4b1); (try clear c5); (try clear c5b0); (try clear c5b1); (try clear c6); (try clear c6b0); (try clear c6b1); (try clear hcz10_0); (try clear hcz10_1); (try clear hcz8_0); (try clear hcz8_1); (try clear hfz10_0); (try clear hfz10_1); (try clear hfz8_0); (try clear hfz8_1)
     obtain ⟨x7_1, x8_1, x9_1, rfl, rfl, HA, HK1, HO_7, BK264, HB⟩ := hrel
     cases gk with
     | zero => exact absurd HA.out (by simp [pylonref15_Of.l0])
     | succ k1 =>
      have H := HA.out
      clear HA
      simp only [pylonref15_Of.l0] at H
      by_cases c13 : x9_1 < a0_0
      ·rw [if_pos c13] at H
       have c13b0 : decide (x9_1 < a0_0) = true := decide_eq_true c13
       clear c13
       replace H := Option.bind_eq_some_iff.mp H
       obtain ⟨t269, A140, H⟩ := H
       replace H : (pylonref15_Of.l1 k1 l1 x7_1 x8_1 x9_1 t269 0 a0_0 l0_1) = some (r1, r2) := H
       have A14 := Aside0.mk A140
       clear A140
       have H' := Aside0.mk H
       clear H
       have hcz15_0 : wr.cell? ⟨gb264, 0, none⟩ = some (.int .i64 a0_0) := (blk_cell BK264.out 0).trans rfl
       have hcz15_1 : wr.cell? ⟨gb264, 1, none⟩ = some (.slice A0_1 l0_1.length c0_1) := (blk_cell BK264.out 1).trans rfl
       have hfz15_0 := blk_frozen BK264.out 0
       have hfz15_1 := blk_frozen BK264.out 1
       go_wp2_with (first | ((with_reducible refine gate_callee (f := 89) rfl ?_); refine goesL_ (some 30) rfl rfl Try.func89 (by kernel_rfl) rfl #[.agg #[.int .i64 a0_0, .slice A0_1 l0_1.length c0_1], .slice A1 l1.length c1, .int .i64 x9_1] rfl (by (try simp only [List.map_toArray, List.map_cons, List.map_nil]); first | done | rfl | (simp only [List.length_drop, List.length_take]; rfl)) ?_; (with_reducible refine (pylonref15_reach.calls k1 a0_0 _ _ l0_1 _ _ l1 x9_1 t269 _ ?side1 ?side2 ?side3 ?side4 A14.out).mono ?_); (case side1 => repeat (first | exact (Kd.C_below HR0_1.out HB.out) | (with_reducible refine Kd.C_alloc ?_ _) | (with_reducible refine Kd.C_drewN ?_ _) | (with_reducible refine Kd.C_drew ?_))); (case side2 => exact HC0_1.out); (case side3 => repeat (first | exact (Kd.C_below HR1.out HB.out) | (with_reducible refine Kd.C_alloc ?_ _) | (with_reducible refine Kd.C_drewN ?_ _) | (with_reducible refine Kd.C_drew ?_))); (case side4 => exact HC1.out); rintro e w16 ⟨v270, rfl, ho0, hb⟩; refine ⟨_, rfl, ?_⟩; have n0_ := Aside0.mk (Kd.R_below (by (with_reducible repeat (first | apply Kd.R_alloc | apply Kd.R_drewN | apply Kd.R_drew)); exact HO_7.out) hb); have n1_ := Aside0.mk (Kd.R_lower ho0 (below_size (by repeat (first | (with_reducible first | exact HB.out | apply below_alloc | apply pw_below_drewN | apply below_drew1 | refine below_set ?_ GE264.out) | exact HB.out)))); have n2_ := Aside0.mk (blk_below (g := gb264) (o := .cells #[.int .i64 a0_0, .slice A0_1 l0_1.length c0_1] 24 (0, 0)) (by (with_reducible repeat (first | refine blk_drewN ?_ _ | refine blk_drew ?_ | refine blk_alloc ?_ _)); exact BK264.out) hb); have n3_ := Aside0.mk (below_step (by repeat (first | (with_reducible first | exact HB.out | apply below_alloc | apply pw_below_drewN | apply below_drew1 | refine below_set ?_ GE264.out) | exact HB.out)) hb); clear HO_7; clear BK264; clear HB; have HO_7 := n0_; have HO271 := n1_; have BK264 := n2_; have HB := n3_; clear n0_ n1_ n2_ n3_; (try clear hb); (try clear hb2); (try clear hk); (try clear hi); (try clear ho0)))
       go_loopg [11] k1 (fun kq v11 w' => ∃ (x11_2 : Int), v11 = .int .i64 x11_2 ∧ Aside0 (pylonref15_Of.l1 kq l1 x7_1 x8_1 x9_1 t269 x11_2 a0_0 l0_1 = some (r1, r2)) ∧ Aside0 (kq ≤ k1) ∧ Aside0 (Kd.R (Kd.int .i64) 3 w' w.heap.size (fun _ => True) v267 x7_1) ∧ Aside0 (Kd.R Kd.bool 4 w' w.heap.size (fun _ => True) v270 t269) ∧ Aside0 (w'.heap[gb264]? = some (.cells #[.int .i64 a0_0, (.slice A0_1 l0_1.length c0_1)] 24 (0, 0))) ∧ Aside0 (Below w.heap.size w w'))
       case atStart => exact ⟨(0), (by first | rfl | (simp; done) | (simp [*]; done)), H', ⟨Nat.le_refl _⟩, ⟨by (with_reducible repeat (first | apply Kd.R_alloc | apply Kd.R_drewN | apply Kd.R_drew)); exact HO_7.out⟩, ⟨by (with_reducible repeat (first | apply Kd.R_alloc | apply Kd.R_drewN | apply Kd.R_drew)); exact HO271.out⟩, ⟨by (with_reducible repeat (first | refine blk_drewN ?_ _ | refine blk_drew ?_ | refine blk_alloc ?_ _)); exact BK264.out⟩, ⟨by repeat (first | (with_reducible first | exact HB.out | apply below_alloc | apply pw_below_drewN | apply below_drew1 | refine below_set ?_ GE264.out) | exact HB.out)⟩⟩
       case round =>
        clear H'; (try clear c1); (try clear p2); (try clear c3); (try clear c4); (try clear c4b0); (try clear c4b1); (try clear c5); (try clear c5b0); (try clear c5b1); (try clear c6); (try clear c6b0); (try clear c6b1); (try clear c8); (try clear c13); (try clear c13b0); (try clear hcz10_0); (try clear hcz10_1); (try clear hcz15_0); (try clear hcz15_1); (try clear hcz8_0); (try clear hcz8_1); (try clear hfz10_0); (try clear hfz10_1); (try clear hfz15_0); (try clear hfz15_1); (try clear hfz8_0); (try clear hfz8_1); (try clear p2)
        obtain ⟨x11_2, rfl, HA, HK2, HO_7, HO_10, BK264, HB⟩ := hrel
        cases gk with
        | zero => exact absurd HA.out (by simp [pylonref15_Of.l1])
        | succ k2 =>
         have H := HA.out
         clear HA
         simp only [pylonref15_Of.l1] at H
         by_cases c17 : 0 ≤ x11_2
         ·rw [if_pos c17] at H
          have c17b0 : decide (0 ≤ x11_2) = true := decide_eq_true c17
          clear c17
          by_cases c18 : x11_2 < (t269.length : Int)
          ·rw [if_pos c18] at H
           have c18b0 : decide (x11_2 < (t269.length : Int)) = true := decide_eq_true c18
           clear c18
           obtain ⟨bq19, hbq19⟩ : ∃ b_ : Bool, b_ = (rdOf false t269 x11_2) := ⟨_, rfl⟩
           replace H : (if bq19 = true then (if x11_2 = x9_1 then (if 0 ≤ x9_1 then (if x9_1 < (x7_1.length : Int) then (pylonref15_Of.l0 k2 l1 (x7_1.set (x9_1 : Int).toNat x8_1) (wrap64 (x8_1 + 1)) (wrap64 (x9_1 + 1)) a0_0 l0_1) else (none)) else (none)) else (if x11_2 < (x7_1.length : Int) then (if 0 ≤ x9_1 then (if x9_1 < (x7_1.length : Int) then (pylonref15_Of.l0 k2 l1 (x7_1.set (x9_1 : Int).toNat (rd x7_1 x11_2)) x8_1 (wrap64 (x9_1 + 1)) a0_0 l0_1) else (none)) else (none)) else (none))) else (pylonref15_Of.l1 k2 l1 x7_1 x8_1 x9_1 t269 (wrap64 (x11_2 + 1)) a0_0 l0_1)) = some (r1, r2) := by rw [← hbq19] at H; exact H
           have Nbq19 := Aside0.mk hbq19
           clear hbq19
           by_cases c20 : bq19 = true
           ·subst c20
            have H1 : (if x11_2 = x9_1 then (if 0 ≤ x9_1 then (if x9_1 < (x7_1.length : Int) then (pylonref15_Of.l0 k2 l1 (x7_1.set (x9_1 : Int).toNat x8_1) (wrap64 (x8_1 + 1)) (wrap64 (x9_1 + 1)) a0_0 l0_1) else (none)) else (none)) else (if x11_2 < (x7_1.length : Int) then (if 0 ≤ x9_1 then (if x9_1 < (x7_1.length : Int) then (pylonref15_Of.l0 k2 l1 (x7_1.set (x9_1 : Int).toNat (rd x7_1 x11_2)) x8_1 (wrap64 (x9_1 + 1)) a0_0 l0_1) else (none)) else (none)) else (none))) = some (r1, r2) := by rw [if_pos rfl] at H; exact H
            clear H
            have H := H1
            clear H1
            by_cases c21 : x11_2 = x9_1
            ·rw [if_pos c21] at H
             have c21b0 : (x11_2 == x9_1) = true := beq_iff_eq.mpr c21
             have c21b1 : (x11_2 != x9_1) = false := bne_eq_false_iff_eq.mpr c21
             clear c21
             by_cases c22 : 0 ≤ x9_1
             ·rw [if_pos c22] at H
              have c22b0 : decide (0 ≤ x9_1) = true := decide_eq_true c22
              clear c22
              by_cases c23 : x9_1 < (x7_1.length : Int)
              ·rw [if_pos c23] at H
               have c23b0 : decide (x9_1 < (x7_1.length : Int)) = true := decide_eq_true c23
               clear c23
               obtain ⟨y273, hy273⟩ : ∃ y_ : List Int, y_ = (x7_1.set (x9_1 : Int).toNat x8_1) := ⟨_, rfl⟩
               replace H : (pylonref15_Of.l0 k2 l1 y273 (wrap64 (x8_1 + 1)) (wrap64 (x9_1 + 1)) a0_0 l0_1) = some (r1, r2) := by first | (rw [hy273]; with_reducible exact H) | (have H2_ := (Option.bind_some _ _).symm.trans H; rw [hy273]; with_reducible exact H2_) | (have H2_ := (Option.bind_some _ _).symm.trans H; with_reducible exact H2_) | with_reducible exact H | (rw [hy273]; exact H) | exact H
               have Ny273 := Aside0.mk hy273
               clear hy273
               have H' := Aside0.mk H
               clear H
               obtain ⟨Ao25, co25, eo25⟩ := Kd.R_slice HO_10.out
               subst eo25
               have p272 : 0 ≤ (x11_2 : Int) := of_decide_eq_true (by first | (with_reducible assumption) | assumption)
               have q272 : x11_2 < (t269.length : Int) := of_decide_eq_true (by first | (with_reducible assumption) | assumption)
               obtain ⟨ad272, e272, hx272_0⟩ := Kd.at_bool (Kd.R_reads' HO_10.out).2.2 x11_2 p272 q272
               (try rw [← Nbq19.out] at hx272_0)
               cases e272
               replace p272 := eq_true p272
               replace q272 := eq_true q272
               have p24 : 0 ≤ (x9_1 : Int) := of_decide_eq_true (by first | (with_reducible assumption) | assumption)
               have q24 : (x9_1 : Int) < ((x7_1.length : Int) : Int) := of_decide_eq_true (by first | (with_reducible assumption) | assumption)
               obtain ⟨go24, co24, eo24, gb24, gl24, cl24, HG24⟩ := Kd.R_form HO_7.out (by omega)
               (first | cases eo24 | (injection eo24 with ea_ en_ ec_; (first | subst ea_ | (injection ea_ with ea_; subst ea_)); subst ec_; clear en_))
               have GB24 := Aside0.mk gb24
               have GG24 := Aside0.mk HG24
               clear gb24 gl24 HG24
               obtain ⟨hx24_0, hf24_0⟩ := Kd.R_celln 0 HO_7.out (x9_1 : Int) p24 q24
               replace p24 := eq_true p24
               replace q24 := eq_true q24
               have HP26 := Kd.R_putg HO_7.out (x9_1 : Int) x8_1
               go_wp2_with (first | ((with_reducible refine gate_store (t := 3) (p := 44) rfl ?_); refine store_event (t := 3) (p := 44) (v := ?vo_w27) (w1 := (wr.setCell ⟨go24, (x9_1 : Int).toNat, none⟩ (.int .i64 x8_1))) ?hg ?ho ?hn ?hr ?_; (case ho => rfl); (case hg => rfl); (case hn => rfl); (case hr => first | (go_simp; done) | (go_simp; rfl)); intro w27 hw; have hg : wr.grownBy w27 (some go24) := (by rw [hw]; exact HP26.2); have hp_ : Kd.R (Kd.int .i64) 3 w27 w.heap.size (fun _ => True) (.slice (some ⟨go24, 0, none⟩) x7_1.length co24) y273 := (by rw [hw, Ny273.out]; exact HP26.1); clear HP26; have n0_ := Aside0.mk (hp_); have n1_ := Aside0.mk (Kd.R_over' (v := (.slice (some ⟨go24, 0, none⟩) x7_1.length co24)) (by (with_reducible repeat (first | apply Kd.R_alloc | apply Kd.R_drewN | apply Kd.R_drew)); exact HO_10.out) (Kd.R_typed HO_7.out) (by decide) hg); have n2_ := Aside0.mk (blk_grown (g := gb264) (o := .cells #[.int .i64 a0_0, .slice A0_1 l0_1.length c0_1] 24 (0, 0)) (by (with_reducible repeat (first | refine blk_drewN ?_ _ | refine blk_drew ?_ | refine blk_alloc ?_ _)); exact BK264.out) hg (Kd.R_ne HO_7.out BK264.out (by decide))); have n3_ := Aside0.mk ((by rw [hw]; exact below_set (HB.out) GB24.out : Below w.heap.size w w27)); clear HO_7; clear HO_10; clear BK264; clear HB; have HO_7 := n0_; have HO_10 := n1_; have BK264 := n2_; have HB := n3_; clear n0_ n1_ n2_ n3_; clear hg hw hp_))
               go_roundg k2
               case measure => have := HK1.out; have := HK2.out; omega
               case rel => exact ⟨(y273), (wrap64 (x8_1 + 1)), (wrap64 (x9_1 + 1)), (by first | rfl | (simp; done) | (simp [*]; done)), (by first | rfl | (simp; done) | (simp [*]; done)), H', ⟨by have := HK1.out; have := HK2.out; omega⟩, ⟨by (with_reducible repeat (first | apply Kd.R_alloc | apply Kd.R_drewN | apply Kd.R_drew)); exact HO_7.out⟩, ⟨by (with_reducible repeat (first | refine blk_drewN ?_ _ | refine blk_drew ?_ | refine blk_alloc ?_ _)); exact BK264.out⟩, ⟨by repeat (first | (with_reducible first | exact HB.out | apply below_alloc | apply pw_below_drewN | apply below_drew1 | refine below_set ?_ GE264.out) | exact HB.out)⟩⟩
              ·rw [if_neg c23] at H
               exact absurd H (by simp)
             ·rw [if_neg c22] at H
              exact absurd H (by simp)
            ·rw [if_neg c21] at H
             have c21b0 : (x11_2 == x9_1) = false := beq_eq_false_iff_ne.mpr c21
             have c21b1 : (x11_2 != x9_1) = true := bne_iff_ne.mpr c21
             by_cases c28 : x11_2 < (x7_1.length : Int)
             ·rw [if_pos c28] at H
              have c28b0 : decide (x11_2 < (x7_1.length : Int)) = true := decide_eq_true c28
              clear c28
              by_cases c29 : 0 ≤ x9_1
              ·rw [if_pos c29] at H
               have c29b0 : decide (0 ≤ x9_1) = true := decide_eq_true c29
               clear c29
               by_cases c30 : x9_1 < (x7_1.length : Int)
               ·rw [if_pos c30] at H
                have c30b0 : decide (x9_1 < (x7_1.length : Int)) = true := decide_eq_true c30
                clear c30
                obtain ⟨y275, hy275⟩ : ∃ y_ : List Int, y_ = (x7_1.set (x9_1 : Int).toNat (rd x7_1 x11_2)) := ⟨_, rfl⟩
                replace H : (pylonref15_Of.l0 k2 l1 y275 x8_1 (wrap64 (x9_1 + 1)) a0_0 l0_1) = some (r1, r2) := by first | (rw [hy275]; with_reducible exact H) | (have H2_ := (Option.bind_some _ _).symm.trans H; rw [hy275]; with_reducible exact H2_) | (have H2_ := (Option.bind_some _ _).symm.trans H; with_reducible exact H2_) | with_reducible exact H | (rw [hy275]; exact H) | exact H
                have Ny275 := Aside0.mk hy275
                clear hy275
                have H' := Aside0.mk H
                clear H
                obtain ⟨Ao32, co32, eo32⟩ := Kd.R_slice HO_10.out
                subst eo32
                have p272 : 0 ≤ (x11_2 : Int) := of_decide_eq_true (by first | (with_reducible assumption) | assumption)
                have q272 : x11_2 < (t269.length : Int) := of_decide_eq_true (by first | (with_reducible assumption) | assumption)
                obtain ⟨ad272, e272, hx272_0⟩ := Kd.at_bool (Kd.R_reads' HO_10.out).2.2 x11_2 p272 q272
                (try rw [← Nbq19.out] at hx272_0)
                cases e272
                replace p272 := eq_true p272
                replace q272 := eq_true q272
                obtain ⟨Ao33, co33, eo33⟩ := Kd.R_slice HO_7.out
                subst eo33
                have p274 : 0 ≤ (x11_2 : Int) := of_decide_eq_true (by first | (with_reducible assumption) | assumption)
                have q274 : x11_2 < (x7_1.length : Int) := of_decide_eq_true (by first | (with_reducible assumption) | assumption)
                obtain ⟨ad274, e274, hx274_0⟩ := Kd.at_int (Kd.R_reads' HO_7.out).2.2 x11_2 p274 q274
                cases e274
                replace p274 := eq_true p274
                replace q274 := eq_true q274
                have p31 : 0 ≤ (x9_1 : Int) := of_decide_eq_true (by first | (with_reducible assumption) | assumption)
                have q31 : (x9_1 : Int) < ((x7_1.length : Int) : Int) := of_decide_eq_true (by first | (with_reducible assumption) | assumption)
                obtain ⟨go31, co31, eo31, gb31, gl31, cl31, HG31⟩ := Kd.R_form HO_7.out (by omega)
                (first | cases eo31 | (injection eo31 with ea_ en_ ec_; (first | subst ea_ | (injection ea_ with ea_; subst ea_)); subst ec_; clear en_))
                have GB31 := Aside0.mk gb31
                have GG31 := Aside0.mk HG31
                clear gb31 gl31 HG31
                (first | simp only [add_plain] at hx274_0 | skip)
                obtain ⟨hx31_0, hf31_0⟩ := Kd.R_celln 0 HO_7.out (x9_1 : Int) p31 q31
                replace p31 := eq_true p31
                replace q31 := eq_true q31
                have HP34 := Kd.R_putg HO_7.out (x9_1 : Int) (rd x7_1 x11_2)
                go_wp2_with (first | ((with_reducible refine gate_store (t := 3) (p := 53) rfl ?_); refine store_event (t := 3) (p := 53) (v := ?vo_w35) (w1 := (wr.setCell ⟨go31, (x9_1 : Int).toNat, none⟩ (.int .i64 (rd x7_1 x11_2)))) ?hg ?ho ?hn ?hr ?_; (case ho => rfl); (case hg => rfl); (case hn => rfl); (case hr => first | (go_simp; done) | (go_simp; rfl)); intro w35 hw; have hg : wr.grownBy w35 (some go31) := (by rw [hw]; exact HP34.2); have hp_ : Kd.R (Kd.int .i64) 3 w35 w.heap.size (fun _ => True) (.slice (some ⟨go31, 0, none⟩) x7_1.length co33) y275 := (by rw [hw, Ny275.out]; exact HP34.1); clear HP34; have n0_ := Aside0.mk (hp_); have n1_ := Aside0.mk (Kd.R_over' (v := (.slice (some ⟨go31, 0, none⟩) x7_1.length co33)) (by (with_reducible repeat (first | apply Kd.R_alloc | apply Kd.R_drewN | apply Kd.R_drew)); exact HO_10.out) (Kd.R_typed HO_7.out) (by decide) hg); have n2_ := Aside0.mk (blk_grown (g := gb264) (o := .cells #[.int .i64 a0_0, .slice A0_1 l0_1.length c0_1] 24 (0, 0)) (by (with_reducible repeat (first | refine blk_drewN ?_ _ | refine blk_drew ?_ | refine blk_alloc ?_ _)); exact BK264.out) hg (Kd.R_ne HO_7.out BK264.out (by decide))); have n3_ := Aside0.mk ((by rw [hw]; exact below_set (HB.out) GB31.out : Below w.heap.size w w35)); clear HO_7; clear HO_10; clear BK264; clear HB; have HO_7 := n0_; have HO_10 := n1_; have BK264 := n2_; have HB := n3_; clear n0_ n1_ n2_ n3_; clear hg hw hp_))
                go_roundg k2
                case measure => have := HK1.out; have := HK2.out; omega
                case rel => exact ⟨(y275), (x8_1), (wrap64 (x9_1 + 1)), (by first | rfl | (simp; done) | (simp [*]; done)), (by first | rfl | (simp; done) | (simp [*]; done)), H', ⟨by have := HK1.out; have := HK2.out; omega⟩, ⟨by (with_reducible repeat (first | apply Kd.R_alloc | apply Kd.R_drewN | apply Kd.R_drew)); exact HO_7.out⟩, ⟨by (with_reducible repeat (first | refine blk_drewN ?_ _ | refine blk_drew ?_ | refine blk_alloc ?_ _)); exact BK264.out⟩, ⟨by repeat (first | (with_reducible first | exact HB.out | apply below_alloc | apply pw_below_drewN | apply below_drew1 | refine below_set ?_ GE264.out) | exact HB.out)⟩⟩
               ·rw [if_neg c30] at H
                exact absurd H (by simp)
              ·rw [if_neg c29] at H
               exact absurd H (by simp)
             ·rw [if_neg c28] at H
              exact absurd H (by simp)
           ·replace c20 := Bool.eq_false_iff.mpr c20
            subst c20
            have H1 : (pylonref15_Of.l1 k2 l1 x7_1 x8_1 x9_1 t269 (wrap64 (x11_2 + 1)) a0_0 l0_1) = some (r1, r2) := by rw [if_neg (show ¬ (false = true) by decide)] at H; exact H
            clear H
            have H := H1
            clear H1
            have H' := Aside0.mk H
            clear H
            obtain ⟨Ao36, co36, eo36⟩ := Kd.R_slice HO_10.out
            subst eo36
            have p272 : 0 ≤ (x11_2 : Int) := of_decide_eq_true (by first | (with_reducible assumption) | assumption)
            have q272 : x11_2 < (t269.length : Int) := of_decide_eq_true (by first | (with_reducible assumption) | assumption)
            obtain ⟨ad272, e272, hx272_0⟩ := Kd.at_bool (Kd.R_reads' HO_10.out).2.2 x11_2 p272 q272
            (try rw [← Nbq19.out] at hx272_0)
            cases e272
            replace p272 := eq_true p272
            replace q272 := eq_true q272
            go_wp2
            go_roundg k2
            case measure => have := HK1.out; have := HK2.out; omega
            case rel => exact ⟨(wrap64 (x11_2 + 1)), (by first | rfl | (simp; done) | (simp [*]; done)), H', ⟨by have := HK1.out; have := HK2.out; omega⟩, ⟨by (with_reducible repeat (first | apply Kd.R_alloc | apply Kd.R_drewN | apply Kd.R_drew)); exact HO_7.out⟩, ⟨by (with_reducible repeat (first | apply Kd.R_alloc | apply Kd.R_drewN | apply Kd.R_drew)); exact HO_10.out⟩, ⟨by (with_reducible repeat (first | refine blk_drewN ?_ _ | refine blk_drew ?_ | refine blk_alloc ?_ _)); exact BK264.out⟩, ⟨by repeat (first | (with_reducible first | exact HB.out | apply below_alloc | apply pw_below_drewN | apply below_drew1 | refine below_set ?_ GE264.out) | exact HB.out)⟩⟩
          ·rw [if_neg c18] at H
           exact absurd H (by simp)
         ·rw [if_neg c17] at H
          exact absurd H (by simp)
      ·rw [if_neg c13] at H
       have c13b0 : decide (x9_1 < a0_0) = false := decide_eq_false c13
       clear c13
       simp only [Option.some.injEq, Prod.mk.injEq] at H
       obtain ⟨rfl, rfl⟩ := H
       have hcz37_0 : wr.cell? ⟨gb264, 0, none⟩ = some (.int .i64 a0_0) := (blk_cell BK264.out 0).trans rfl
       have hcz37_1 : wr.cell? ⟨gb264, 1, none⟩ = some (.slice A0_1 l0_1.length c0_1) := (blk_cell BK264.out 1).trans rfl
       have hfz37_0 := blk_frozen BK264.out 0
       have hfz37_1 := blk_frozen BK264.out 1
       go_wp2
       go_ret2
       exact ⟨_, by first | rfl | (simp [errW_none, errW_some] <;> rfl) | (simp [*, errW_none, errW_some] <;> rfl), by (with_reducible repeat (first | apply Kd.R_alloc | apply Kd.R_drewN | apply Kd.R_drew)); exact HO_7.out, by repeat (first | (with_reducible first | exact HB.out | apply below_alloc | apply pw_below_drewN | apply below_drew1 | refine below_set ?_ GE264.out) | exact HB.out)⟩
   ·rw [if_neg c6] at H
    exact absurd H (by simp)
  ·rw [if_neg c5] at H
   exact absurd H (by simp)
 ·rw [if_neg c4] at H
  have c4b0 : (t265 == 0) = false := beq_eq_false_iff_ne.mpr c4
  have c4b1 : (t265 != 0) = true := bne_iff_ne.mpr c4
  simp only [Option.some.injEq, Prod.mk.injEq] at H
  obtain ⟨rfl, rfl⟩ := H
  go_enter Try.func38, Try.ntmps38
  go_wp2_with (first | ((with_reducible refine gate_dst (N := 2) rfl ?_); refine box_event ?hg (N := 2) ?hd (cs := #[.int .i64 a0_0, .slice A0_1 l0_1.length c0_1]) (t := 24) ?hr ?_; (case hd => rfl); (case hg => rfl); (case hr => first | (go_simp; done) | (go_simp; rfl)); intro gb264 hg w38 hbox hb; have n0_ := Aside0.mk (below_step (by repeat (first | (with_reducible first | exact HB.out | apply below_alloc | apply pw_below_drewN | apply below_drew1) | exact HB.out)) hb); have n1_ := Aside0.mk (hbox); have n2_ := Aside0.mk ((by rw [hg]; exact (below_size (by repeat (first | (with_reducible first | exact HB.out | apply below_alloc | apply pw_below_drewN | apply below_drew1) | exact HB.out))) : w.heap.size ≤ gb264)); have n3_ := Aside0.mk ((by rw [hg]; exact (below_size (by repeat (first | (with_reducible first | exact HB.out | apply below_alloc | apply pw_below_drewN | apply below_drew1) | exact HB.out))) : w.heap.size ≤ gb264)); clear HB; have HB := n0_; have BK264 := n1_; have GW264 := n2_; have GE264 := n3_; clear n0_ n1_ n2_ n3_; clear hb hbox hg; have hcz39_0 : w38.cell? ⟨gb264, 0, none⟩ = some (.int .i64 a0_0) := (blk_cell BK264.out 0).trans rfl; have hcz39_1 : w38.cell? ⟨gb264, 1, none⟩ = some (.slice A0_1 l0_1.length c0_1) := (blk_cell BK264.out 1).trans rfl; have hfz39_0 := blk_frozen BK264.out 0; have hfz39_1 := blk_frozen BK264.out 1) | ((with_reducible refine gate_callee (f := 69) rfl ?_); refine goesL_ (some 14) rfl rfl Try.func69 (by kernel_rfl) rfl #[.agg #[.int .i64 a0_0, .slice A0_1 l0_1.length c0_1], .slice A1 l1.length c1] rfl (by (try simp only [List.map_toArray, List.map_cons, List.map_nil]); first | done | rfl | (simp only [List.length_drop, List.length_take]; rfl)) ?_; (with_reducible refine (pylonref14_Outs.calls k a0_0 _ _ l0_1 _ _ l1 t265 _ ?side1 ?side2 ?side3 ?side4 A3.out).mono ?_); (case side1 => repeat (first | exact (Kd.C_below HR0_1.out HB.out) | (with_reducible refine Kd.C_alloc ?_ _) | (with_reducible refine Kd.C_drewN ?_ _) | (with_reducible refine Kd.C_drew ?_))); (case side2 => exact HC0_1.out); (case side3 => repeat (first | exact (Kd.C_below HR1.out HB.out) | (with_reducible refine Kd.C_alloc ?_ _) | (with_reducible refine Kd.C_drewN ?_ _) | (with_reducible refine Kd.C_drew ?_))); (case side4 => exact HC1.out); rintro e w40 ⟨rfl, hb⟩; refine ⟨_, rfl, ?_⟩; have n0_ := Aside0.mk (blk_below (g := gb264) (o := .cells #[.int .i64 a0_0, .slice A0_1 l0_1.length c0_1] 24 (0, 0)) (by (with_reducible repeat (first | refine blk_drewN ?_ _ | refine blk_drew ?_ | refine blk_alloc ?_ _)); exact BK264.out) hb); have n1_ := Aside0.mk (below_step (by repeat (first | (with_reducible first | exact HB.out | apply below_alloc | apply pw_below_drewN | apply below_drew1 | refine below_set ?_ GE264.out) | exact HB.out)) hb); clear BK264; clear HB; have BK264 := n0_; have HB := n1_; clear n0_ n1_; (try clear hb); (try clear hb2); (try clear hk); (try clear hi)))
  go_ret2
  exact ⟨_, by first | rfl | (simp [errW_none, errW_some] <;> rfl) | (simp [*, errW_none, errW_some] <;> rfl), by first | exact Kd.R_nil _ _ _ _ _ | exact Kd.N_nil _ _ _ _ _ | exact Kd.V_nil _ _ _ _ _ | exact Kd.Q_nil _ _ _ _ _ | exact Kd.S_nil _ _ _ _ _, by repeat (first | (with_reducible first | exact HB.out | apply below_alloc | apply pw_below_drewN | apply below_drew1 | refine below_set ?_ GE264.out) | exact HB.out)⟩

end Go.Proofs.Ytdpgdelimffjpaa.P

namespace Go.Proofs.Ytdpgdelimffjpaa.P
open Go.RowKit Go.Proofs.YtdpgdelimffjpaaW.PrintWords Go.Proofs.YtdpgdelimffjpaaW.PrintLast Go.Proofs.YtdpgdelimffjpaaW.PrintMore
attribute [local go_sem] max2_int min2_int max_two min_two max_three min_three max_four min_four   -- for this text's walks alone
set_option linter.unusedVariables false
set_option linter.unusedSimpArgs false

/-! ### pylonref15_Refs: function 39 -/
def pylonref15_Refs.l0 : Nat → List Int → Int → List Int → Int → Option (List Int × Int)
 | 0, _, _, _, _ => none
 | k + 1, x6, x7, x8, x9 => if x9 < (x6.length : Int) then (if 0 ≤ x9 then (if (rd x6 x9) = (x8.length : Int) then (if x8.length < 17592186044416 then (pylonref15_Refs.l0 k x6 x7 (x8 ++ [x9]) (wrap64 (x9 + 1))) else (none)) else (pylonref15_Refs.l0 k x6 x7 x8 (wrap64 (x9 + 1)))) else (none)) else (some (x8, x7))
def pylonref15_Refs.f (k : Nat) (a0_0 : Int) (l0_1 : List (S37)) (l1 : List Int) : Option (List Int × Int) := (pylonref15_Of.f k a0_0 l0_1 l1).bind fun bt277 => (pylonref15_Refs.l0 k bt277.1 bt277.2 ([] : List Int) 0)
set_option maxHeartbeats 8000000 in
set_option maxRecDepth 100000 in
theorem pylonref15_Refs.calls (k : Nat) (a0_0 : Int) (A0_1 : Option Addr) (c0_1 : Nat) (l0_1 : List (S37)) (A1 : Option Addr) (c1 : Nat) (l1 : List Int) (r1 : List Int) (r2 : Int) (w : World) (hr0_1 : Kd.C k37 w A0_1 l0_1.length l0_1) (hc0_1 : l0_1.length ≤ c0_1) (hr1 : Kd.C (Kd.int .i64) w A1 l1.length l1) (hc1 : l1.length ≤ c1) (h : pylonref15_Refs.f k a0_0 l0_1 l1 = some (r1, r2)) :
  Calls Try.prog 39 #[.agg #[.int .i64 a0_0, .slice A0_1 l0_1.length c0_1], .slice A1 l1.length c1] w fun e w' => ∃ v0_ : Value, e = .returned (.tuple #[v0_, .int .i64 r2]) ∧ Kd.R (Kd.int .i64) 3 w' w.heap.size (fun _ => True) v0_ r1 ∧ Below w.heap.size w w' := by
 have hu24 := Try.underlying24
 have HR0_1 := Aside0.mk hr0_1
 have HC0_1 := Aside0.mk hc0_1
 clear hr0_1 hc0_1
 have HR1 := Aside0.mk hr1
 have HC1 := Aside0.mk hc1
 clear hr1 hc1
 have HB := Aside0.mk (Below.refl w.heap.size w)
 have H : ((pylonref15_Of.f k a0_0 l0_1 l1).bind fun bt277 => (pylonref15_Refs.l0 k bt277.1 bt277.2 ([] : List Int) 0)) = some (r1, r2) := h
 clear h
 replace H := Option.bind_eq_some_iff.mp H
 obtain ⟨⟨t277, t280⟩, A30, H⟩ := H
 replace H : (pylonref15_Refs.l0 k t277 t280 ([] : List Int) 0) = some (r1, r2) := H
 have A3 := Aside0.mk A30
 clear A30
 have H' := Aside0.mk H
 clear H
 go_enter Try.func39, Try.ntmps39
 go_wp2_with (first | ((with_reducible refine gate_dst (N := 2) rfl ?_); refine box_event ?hg (N := 2) ?hd (cs := #[.int .i64 a0_0, .slice A0_1 l0_1.length c0_1]) (t := 24) ?hr ?_; (case hd => rfl); (case hg => rfl); (case hr => first | (go_simp; done) | (go_simp; rfl)); intro gb276 hg w4 hbox hb; have n0_ := Aside0.mk (below_step (by repeat (first | (with_reducible first | exact HB.out | apply below_alloc | apply pw_below_drewN | apply below_drew1) | exact HB.out)) hb); have n1_ := Aside0.mk (hbox); have n2_ := Aside0.mk ((by rw [hg]; exact (below_size (by repeat (first | (with_reducible first | exact HB.out | apply below_alloc | apply pw_below_drewN | apply below_drew1) | exact HB.out))) : w.heap.size ≤ gb276)); have n3_ := Aside0.mk ((by rw [hg]; exact (below_size (by repeat (first | (with_reducible first | exact HB.out | apply below_alloc | apply pw_below_drewN | apply below_drew1) | exact HB.out))) : w.heap.size ≤ gb276)); clear HB; have HB := n0_; have BK276 := n1_; have GW276 := n2_; have GE276 := n3_; clear n0_ n1_ n2_ n3_; clear hb hbox hg; have hcz5_0 : w4.cell? ⟨gb276, 0, none⟩ = some (.int .i64 a0_0) := (blk_cell BK276.out 0).trans rfl; have hcz5_1 : w4.cell? ⟨gb276, 1, none⟩ = some (.slice A0_1 l0_1.length c0_1) := (blk_cell BK276.out 1).trans rfl; have hfz5_0 := blk_frozen BK276.out 0; have hfz5_1 := blk_frozen BK276.out 1) | ((with_reducible refine gate_callee (f := 38) rfl ?_); refine goesL_ (some 13) rfl rfl Try.func38 (by kernel_rfl) rfl #[.agg #[.int .i64 a0_0, .slice A0_1 l0_1.length c0_1], .slice A1 l1.length c1] rfl (by (try simp only [List.map_toArray, List.map_cons, List.map_nil]); first | done | rfl | (simp only [List.length_drop, List.length_take]; rfl)) ?_; (with_reducible refine (pylonref15_Of.calls k a0_0 _ _ l0_1 _ _ l1 t277 t280 _ ?side1 ?side2 ?side3 ?side4 A3.out).mono ?_); (case side1 => repeat (first | exact (Kd.C_below HR0_1.out HB.out) | (with_reducible refine Kd.C_alloc ?_ _) | (with_reducible refine Kd.C_drewN ?_ _) | (with_reducible refine Kd.C_drew ?_))); (case side2 => exact HC0_1.out); (case side3 => repeat (first | exact (Kd.C_below HR1.out HB.out) | (with_reducible refine Kd.C_alloc ?_ _) | (with_reducible refine Kd.C_drewN ?_ _) | (with_reducible refine Kd.C_drew ?_))); (case side4 => exact HC1.out); rintro e w6 ⟨v278, rfl, ho0, hb⟩; refine ⟨_, rfl, ?_⟩; have n0_ := Aside0.mk (Kd.R_lower ho0 (below_size (by repeat (first | (with_reducible first | exact HB.out | apply below_alloc | apply pw_below_drewN | apply below_drew1 | refine below_set ?_ GE276.out) | exact HB.out)))); have n1_ := Aside0.mk (blk_below (g := gb276) (o := .cells #[.int .i64 a0_0, .slice A0_1 l0_1.length c0_1] 24 (0, 0)) (by (with_reducible repeat (first | refine blk_drewN ?_ _ | refine blk_drew ?_ | refine blk_alloc ?_ _)); exact BK276.out) hb); have n2_ := Aside0.mk (below_step (by repeat (first | (with_reducible first | exact HB.out | apply below_alloc | apply pw_below_drewN | apply below_drew1 | refine below_set ?_ GE276.out) | exact HB.out)) hb); clear BK276; clear HB; have HO279 := n0_; have BK276 := n1_; have HB := n2_; clear n0_ n1_ n2_; (try clear hb); (try clear hb2); (try clear hk); (try clear hi); (try clear ho0)))
 go_loopg [8, 9] k (fun kq v8 v9 w' => ∃ (x8_1 : List Int) (x9_1 : Int), v9 = .int .i64 x9_1 ∧ Aside0 (pylonref15_Refs.l0 kq t277 t280 x8_1 x9_1 = some (r1, r2)) ∧ Aside0 (kq ≤ k) ∧ Aside0 (Kd.R (Kd.int .i64) 3 w' w.heap.size (fun k_ => some k_ ≠ (v8 : Value).ownBlock) v278 t277) ∧ Aside0 (Kd.R (Kd.int .i64) 3 w' w.heap.size (fun k_ => some k_ ≠ (v278 : Value).ownBlock) v8 x8_1) ∧ Aside0 (w'.heap[gb276]? = some (.cells #[.int .i64 a0_0, (.slice A0_1 l0_1.length c0_1)] 24 (0, 0))) ∧ Aside0 (Below w.heap.size w w'))
 case atStart => exact ⟨(([] : List Int)), (0), (by first | rfl | (simp; done) | (simp [*]; done)), H', ⟨Nat.le_refl _⟩, ⟨by (with_reducible repeat (first | apply Kd.R_alloc | apply Kd.R_drewN | apply Kd.R_drew)); exact Kd.R_mono HO279.out (fun _ hk => (by simp [Value.ownBlock]))⟩, ⟨by first | exact Kd.R_nil _ _ _ _ _ | exact Kd.N_nil _ _ _ _ _ | exact Kd.V_nil _ _ _ _ _ | exact Kd.Q_nil _ _ _ _ _ | exact Kd.S_nil _ _ _ _ _⟩, ⟨by (with_reducible repeat (first | refine blk_drewN ?_ _ | refine blk_drew ?_ | refine blk_alloc ?_ _)); exact BK276.out⟩, ⟨by repeat (first | (with_reducible first | exact HB.out | apply below_alloc | apply pw_below_drewN | apply below_drew1 | refine below_set ?_ GE276.out) | exact HB.out)⟩⟩
 case round =>
  clear H'; (try clear c1); (try clear p2); (try clear c3); (try clear hcz5_0); (try clear hcz5_1); (try clear hfz5_0); (try clear hfz5_1)
  obtain ⟨x8_1, x9_1, rfl, HA, HK1, HO_6, HO_8, BK276, HB⟩ := hrel
  cases gk with
  | zero => exact absurd HA.out (by simp [pylonref15_Refs.l0])
  | succ k1 =>
   have H := HA.out
   clear HA
   simp only [pylonref15_Refs.l0] at H
   by_cases c7 : x9_1 < (t277.length : Int)
   ·rw [if_pos c7] at H
    have c7b0 : decide (x9_1 < (t277.length : Int)) = true := decide_eq_true c7
    clear c7
    by_cases c8 : 0 ≤ x9_1
    ·rw [if_pos c8] at H
     have c8b0 : decide (0 ≤ x9_1) = true := decide_eq_true c8
     clear c8
     by_cases c9 : (rd t277 x9_1) = (x8_1.length : Int)
     ·rw [if_pos c9] at H
      have c9b0 : ((rd t277 x9_1) == (x8_1.length : Int)) = true := beq_iff_eq.mpr c9
      have c9b1 : ((rd t277 x9_1) != (x8_1.length : Int)) = false := bne_eq_false_iff_eq.mpr c9
      clear c9
      by_cases c10 : x8_1.length < 17592186044416
      ·rw [if_pos c10] at H
       have LMc10 := Aside0.mk c10
       clear c10
       obtain ⟨y282, hy282⟩ : ∃ y_ : List Int, y_ = (x8_1 ++ [x9_1]) := ⟨_, rfl⟩
       replace H : (pylonref15_Refs.l0 k1 t277 t280 y282 (wrap64 (x9_1 + 1))) = some (r1, r2) := by first | (rw [hy282]; with_reducible exact H) | (have H2_ := (Option.bind_some _ _).symm.trans H; rw [hy282]; with_reducible exact H2_) | (have H2_ := (Option.bind_some _ _).symm.trans H; with_reducible exact H2_) | with_reducible exact H | (rw [hy282]; exact H) | exact H
       have Ny282 := Aside0.mk hy282
       clear hy282
       have H' := Aside0.mk H
       clear H
       obtain ⟨Ao11, co11, eo11⟩ := Kd.R_slice HO_6.out
       subst eo11
       have p281 : 0 ≤ (x9_1 : Int) := of_decide_eq_true (by first | (with_reducible assumption) | assumption)
       have q281 : x9_1 < (t277.length : Int) := of_decide_eq_true (by first | (with_reducible assumption) | assumption)
       obtain ⟨ad281, e281, hx281_0⟩ := Kd.at_int (Kd.R_reads' HO_6.out).2.2 x9_1 p281 q281
       cases e281
       replace p281 := eq_true p281
       replace q281 := eq_true q281
       obtain ⟨Ao12, co12, eo12⟩ := Kd.R_slice HO_8.out
       subst eo12
       go_wp2_with (first | ((with_reducible refine gate_builtin (b := .append) (xs := #[.tmp 29, .tmp 31]) rfl ?_); at_builtin; refine Kd.R_append (Kd.int .i64) (w0 := w) w.heap.size rfl (.tmp 29) (.tmp 31) 25 3 (.int .i64 0) 8 rfl Try.underlying25 info3 rfl (by decide) (by omega) (.slice Ao12 x8_1.length co12) x8_1 x9_1 [.int .i64 x9_1] (fun k_ => some k_ ≠ (.slice (some ad281) t277.length co11 : Value).ownBlock) (fun _ => False) rfl rfl ?aP (fun _ hk => hk.elim) ?aF ?aO ?aB ?aS ?aL ?_; (case aP => exact rfl); (case aB => exact (by repeat (first | (with_reducible first | exact HB.out | apply below_alloc | apply pw_below_drewN | apply below_drew1 | refine below_set ?_ GE276.out) | exact HB.out))); (case aF => exact (fun k_ hk => Kd.fresh' (Kd.R_lt (by (with_reducible repeat (first | apply Kd.R_alloc | apply Kd.R_drewN | apply Kd.R_drew)); exact HO_6.out)) k_ hk)); (case aO => exact (by (with_reducible repeat (first | apply Kd.R_alloc | apply Kd.R_drewN | apply Kd.R_drew)); exact HO_8.out)); (case aS => exact (below_size (by repeat (first | (with_reducible first | exact HB.out | apply below_alloc | apply pw_below_drewN | apply below_drew1 | refine below_set ?_ GE276.out) | exact HB.out)))); (case aL => have := LMc10.out; omega); intro v283 w13 ho hb hg hat; rw [← Ny282.out] at ho; have n0_ := Aside0.mk (Kd.R_after (ok := (fun _ => True)) (by (with_reducible repeat (first | apply Kd.R_alloc | apply Kd.R_drewN | apply Kd.R_drew)); exact Kd.R_mono HO_6.out (fun _ hk => ⟨trivial, hk⟩)) hg hat); have n1_ := Aside0.mk (blk_grown (g := gb276) (o := .cells #[.int .i64 a0_0, .slice A0_1 l0_1.length c0_1] 24 (0, 0)) (by (with_reducible repeat (first | refine blk_drewN ?_ _ | refine blk_drew ?_ | refine blk_alloc ?_ _)); exact BK276.out) hg (Kd.R_ne HO_8.out BK276.out (by decide))); have n2_ := Aside0.mk (hb); have n3_ := Aside0.mk (ho); clear HO_6; clear BK276; clear HB; clear HO_8; have HO_6 := n0_; have BK276 := n1_; have HB := n2_; have HO284 := n3_; clear n0_ n1_ n2_ n3_; clear ho hb hg hat))
       go_roundg k1
       case measure => have := HK1.out; omega
       case rel => exact ⟨(y282), (wrap64 (x9_1 + 1)), (by first | rfl | (simp; done) | (simp [*]; done)), H', ⟨by have := HK1.out; omega⟩, ⟨by (with_reducible repeat (first | apply Kd.R_alloc | apply Kd.R_drewN | apply Kd.R_drew)); exact Kd.R_mono HO_6.out (fun _ hk => hk.2)⟩, ⟨by (with_reducible repeat (first | apply Kd.R_alloc | apply Kd.R_drewN | apply Kd.R_drew)); exact HO284.out⟩, ⟨by (with_reducible repeat (first | refine blk_drewN ?_ _ | refine blk_drew ?_ | refine blk_alloc ?_ _)); exact BK276.out⟩, ⟨by repeat (first | (with_reducible first | exact HB.out | apply below_alloc | apply pw_below_drewN | apply below_drew1 | refine below_set ?_ GE276.out) | exact HB.out)⟩⟩
      ·rw [if_neg c10] at H
       exact absurd H (by simp)
     ·rw [if_neg c9] at H
      have c9b0 : ((rd t277 x9_1) == (x8_1.length : Int)) = false := beq_eq_false_iff_ne.mpr c9
      have c9b1 : ((rd t277 x9_1) != (x8_1.length : Int)) = true := bne_iff_ne.mpr c9
      have H' := Aside0.mk H
      clear H
      obtain ⟨Ao14, co14, eo14⟩ := Kd.R_slice HO_6.out
      subst eo14
      have p281 : 0 ≤ (x9_1 : Int) := of_decide_eq_true (by first | (with_reducible assumption) | assumption)
      have q281 : x9_1 < (t277.length : Int) := of_decide_eq_true (by first | (with_reducible assumption) | assumption)
      obtain ⟨ad281, e281, hx281_0⟩ := Kd.at_int (Kd.R_reads' HO_6.out).2.2 x9_1 p281 q281
      cases e281
      replace p281 := eq_true p281
      replace q281 := eq_true q281
      obtain ⟨Ao15, co15, eo15⟩ := Kd.R_slice HO_8.out
      subst eo15
      go_wp2
      go_roundg k1
      case measure => have := HK1.out; omega
      case rel => exact ⟨(x8_1), (wrap64 (x9_1 + 1)), (by first | rfl | (simp; done) | (simp [*]; done)), H', ⟨by have := HK1.out; omega⟩, ⟨by (with_reducible repeat (first | apply Kd.R_alloc | apply Kd.R_drewN | apply Kd.R_drew)); exact HO_6.out⟩, ⟨by (with_reducible repeat (first | apply Kd.R_alloc | apply Kd.R_drewN | apply Kd.R_drew)); exact HO_8.out⟩, ⟨by (with_reducible repeat (first | refine blk_drewN ?_ _ | refine blk_drew ?_ | refine blk_alloc ?_ _)); exact BK276.out⟩, ⟨by repeat (first | (with_reducible first | exact HB.out | apply below_alloc | apply pw_below_drewN | apply below_drew1 | refine below_set ?_ GE276.out) | exact HB.out)⟩⟩
    ·rw [if_neg c8] at H
     exact absurd H (by simp)
   ·rw [if_neg c7] at H
    have c7b0 : decide (x9_1 < (t277.length : Int)) = false := decide_eq_false c7
    clear c7
    simp only [Option.some.injEq, Prod.mk.injEq] at H
    obtain ⟨rfl, rfl⟩ := H
    obtain ⟨Ao16, co16, eo16⟩ := Kd.R_slice HO_6.out
    subst eo16
    go_wp2
    go_ret2
    exact ⟨_, by first | rfl | (simp [errW_none, errW_some] <;> rfl) | (simp [*, errW_none, errW_some] <;> rfl), by (with_reducible repeat (first | apply Kd.R_alloc | apply Kd.R_drewN | apply Kd.R_drew)); exact Kd.R_mono HO_8.out (fun _ hk => trivial), by repeat (first | (with_reducible first | exact HB.out | apply below_alloc | apply pw_below_drewN | apply below_drew1 | refine below_set ?_ GE276.out) | exact HB.out)⟩

end Go.Proofs.Ytdpgdelimffjpaa.P

namespace Go.Proofs.Ytdpgdelimffjpaa.P
open Go.RowKit Go.Proofs.YtdpgdelimffjpaaW.PrintWords Go.Proofs.YtdpgdelimffjpaaW.PrintLast Go.Proofs.YtdpgdelimffjpaaW.PrintMore
attribute [local go_sem] max2_int min2_int max_two min_two max_three min_three max_four min_four   -- for this text's walks alone
set_option linter.unusedVariables false
set_option linter.unusedSimpArgs false

/-! ### pylonref15_Members: function 40 -/
mutual
def pylonref15_Members.l0 : Nat → List Int → Int → List Int → List (List Int) → Int → Option ((List (List Int)) × Int)
 | 0, _, _, _, _, _ => none
 | k + 1, x6, x7, x8, x10, x11 => if x11 < (x8.length : Int) then (pylonref15_Members.l1 k x6 x7 x8 x10 x11 ([] : List Int) 0) else (some (x10, x7))
def pylonref15_Members.l1 : Nat → List Int → Int → List Int → List (List Int) → Int → List Int → Int → Option ((List (List Int)) × Int)
 | 0, _, _, _, _, _, _, _ => none
 | k + 1, x6, x7, x8, x10, x11, x12, x13 => if x13 < (x6.length : Int) then (if 0 ≤ x13 then (if (rd x6 x13) = x11 then (if x12.length < 17592186044416 then (pylonref15_Members.l1 k x6 x7 x8 x10 x11 (x12 ++ [x13]) (wrap64 (x13 + 1))) else (none)) else (pylonref15_Members.l1 k x6 x7 x8 x10 x11 x12 (wrap64 (x13 + 1)))) else (none)) else (if x10.length < 5864062014805 then (pylonref15_Members.l0 k x6 x7 x8 (x10 ++ [x12]) (wrap64 (x11 + 1))) else (none))
end
def pylonref15_Members.f (k : Nat) (a0_0 : Int) (l0_1 : List (S37)) (l1 : List Int) : Option ((List (List Int)) × Int) := (pylonref15_Of.f k a0_0 l0_1 l1).bind fun bt286 => ((pylonref15_Refs.f k a0_0 l0_1 l1).bind fun bt290 => (pylonref15_Members.l0 k bt286.1 bt286.2 bt290.1 ([] : List (List Int)) 0))
set_option maxHeartbeats 8000000 in
set_option maxRecDepth 100000 in
theorem pylonref15_Members.calls (k : Nat) (a0_0 : Int) (A0_1 : Option Addr) (c0_1 : Nat) (l0_1 : List (S37)) (A1 : Option Addr) (c1 : Nat) (l1 : List Int) (r1 : List (List Int)) (r2 : Int) (w : World) (hr0_1 : Kd.C k37 w A0_1 l0_1.length l0_1) (hc0_1 : l0_1.length ≤ c0_1) (hr1 : Kd.C (Kd.int .i64) w A1 l1.length l1) (hc1 : l1.length ≤ c1) (h : pylonref15_Members.f k a0_0 l0_1 l1 = some (r1, r2)) :
  Calls Try.prog 40 #[.agg #[.int .i64 a0_0, .slice A0_1 l0_1.length c0_1], .slice A1 l1.length c1] w fun e w' => ∃ v0_ : Value, e = .returned (.tuple #[v0_, .int .i64 r2]) ∧ Kd.S (Kd.slice 3 (Kd.int .i64)) 25 w' w.heap.size (fun _ => True) v0_ r1 ∧ Below w.heap.size w w' := by
 have hu24 := Try.underlying24
 have HR0_1 := Aside0.mk hr0_1
 have HC0_1 := Aside0.mk hc0_1
 clear hr0_1 hc0_1
 have HR1 := Aside0.mk hr1
 have HC1 := Aside0.mk hc1
 clear hr1 hc1
 have HB := Aside0.mk (Below.refl w.heap.size w)
 have H : ((pylonref15_Of.f k a0_0 l0_1 l1).bind fun bt286 => ((pylonref15_Refs.f k a0_0 l0_1 l1).bind fun bt290 => (pylonref15_Members.l0 k bt286.1 bt286.2 bt290.1 ([] : List (List Int)) 0))) = some (r1, r2) := h
 clear h
 replace H := Option.bind_eq_some_iff.mp H
 obtain ⟨⟨t286, t289⟩, A30, H⟩ := H
 replace H : ((pylonref15_Refs.f k a0_0 l0_1 l1).bind fun bt290 => (pylonref15_Members.l0 k t286 t289 bt290.1 ([] : List (List Int)) 0)) = some (r1, r2) := H
 have A3 := Aside0.mk A30
 clear A30
 replace H := Option.bind_eq_some_iff.mp H
 obtain ⟨⟨t290, t293⟩, A40, H⟩ := H
 replace H : (pylonref15_Members.l0 k t286 t289 t290 ([] : List (List Int)) 0) = some (r1, r2) := H
 have A4 := Aside0.mk A40
 clear A40
 have H' := Aside0.mk H
 clear H
 go_enter Try.func40, Try.ntmps40
 go_wp2_with (first | ((with_reducible refine gate_dst (N := 2) rfl ?_); refine box_event ?hg (N := 2) ?hd (cs := #[.int .i64 a0_0, .slice A0_1 l0_1.length c0_1]) (t := 24) ?hr ?_; (case hd => rfl); (case hg => rfl); (case hr => first | (go_simp; done) | (go_simp; rfl)); intro gb285 hg w5 hbox hb; have n0_ := Aside0.mk (below_step (by repeat (first | (with_reducible first | exact HB.out | apply below_alloc | apply pw_below_drewN | apply below_drew1) | exact HB.out)) hb); have n1_ := Aside0.mk (hbox); have n2_ := Aside0.mk ((by rw [hg]; exact (below_size (by repeat (first | (with_reducible first | exact HB.out | apply below_alloc | apply pw_below_drewN | apply below_drew1) | exact HB.out))) : w.heap.size ≤ gb285)); have n3_ := Aside0.mk ((by rw [hg]; exact (below_size (by repeat (first | (with_reducible first | exact HB.out | apply below_alloc | apply pw_below_drewN | apply below_drew1) | exact HB.out))) : w.heap.size ≤ gb285)); clear HB; have HB := n0_; have BK285 := n1_; have GW285 := n2_; have GE285 := n3_; clear n0_ n1_ n2_ n3_; clear hb hbox hg; have hcz6_0 : w5.cell? ⟨gb285, 0, none⟩ = some (.int .i64 a0_0) := (blk_cell BK285.out 0).trans rfl; have hcz6_1 : w5.cell? ⟨gb285, 1, none⟩ = some (.slice A0_1 l0_1.length c0_1) := (blk_cell BK285.out 1).trans rfl; have hfz6_0 := blk_frozen BK285.out 0; have hfz6_1 := blk_frozen BK285.out 1) | ((with_reducible refine gate_callee (f := 38) rfl ?_); refine goesL_ (some 17) rfl rfl Try.func38 (by kernel_rfl) rfl #[.agg #[.int .i64 a0_0, .slice A0_1 l0_1.length c0_1], .slice A1 l1.length c1] rfl (by (try simp only [List.map_toArray, List.map_cons, List.map_nil]); first | done | rfl | (simp only [List.length_drop, List.length_take]; rfl)) ?_; (with_reducible refine (pylonref15_Of.calls k a0_0 _ _ l0_1 _ _ l1 t286 t289 _ ?side1 ?side2 ?side3 ?side4 A3.out).mono ?_); (case side1 => repeat (first | exact (Kd.C_below HR0_1.out HB.out) | (with_reducible refine Kd.C_alloc ?_ _) | (with_reducible refine Kd.C_drewN ?_ _) | (with_reducible refine Kd.C_drew ?_))); (case side2 => exact HC0_1.out); (case side3 => repeat (first | exact (Kd.C_below HR1.out HB.out) | (with_reducible refine Kd.C_alloc ?_ _) | (with_reducible refine Kd.C_drewN ?_ _) | (with_reducible refine Kd.C_drew ?_))); (case side4 => exact HC1.out); rintro e w7 ⟨v287, rfl, ho0, hb⟩; refine ⟨_, rfl, ?_⟩; have n0_ := Aside0.mk (Kd.R_lower ho0 (below_size (by repeat (first | (with_reducible first | exact HB.out | apply below_alloc | apply pw_below_drewN | apply below_drew1 | refine below_set ?_ GE285.out) | exact HB.out)))); have n1_ := Aside0.mk (blk_below (g := gb285) (o := .cells #[.int .i64 a0_0, .slice A0_1 l0_1.length c0_1] 24 (0, 0)) (by (with_reducible repeat (first | refine blk_drewN ?_ _ | refine blk_drew ?_ | refine blk_alloc ?_ _)); exact BK285.out) hb); have n2_ := Aside0.mk (below_step (by repeat (first | (with_reducible first | exact HB.out | apply below_alloc | apply pw_below_drewN | apply below_drew1 | refine below_set ?_ GE285.out) | exact HB.out)) hb); clear BK285; clear HB; have HO288 := n0_; have BK285 := n1_; have HB := n2_; clear n0_ n1_ n2_; (try clear hb); (try clear hb2); (try clear hk); (try clear hi); (try clear ho0); have hcz8_0 : w7.cell? ⟨gb285, 0, none⟩ = some (.int .i64 a0_0) := (blk_cell BK285.out 0).trans rfl; have hcz8_1 : w7.cell? ⟨gb285, 1, none⟩ = some (.slice A0_1 l0_1.length c0_1) := (blk_cell BK285.out 1).trans rfl; have hfz8_0 := blk_frozen BK285.out 0; have hfz8_1 := blk_frozen BK285.out 1) | ((with_reducible refine gate_callee (f := 39) rfl ?_); refine goesL_ (some 23) rfl rfl Try.func39 (by kernel_rfl) rfl #[.agg #[.int .i64 a0_0, .slice A0_1 l0_1.length c0_1], .slice A1 l1.length c1] rfl (by (try simp only [List.map_toArray, List.map_cons, List.map_nil]); first | done | rfl | (simp only [List.length_drop, List.length_take]; rfl)) ?_; (with_reducible refine (pylonref15_Refs.calls k a0_0 _ _ l0_1 _ _ l1 t290 t293 _ ?side1 ?side2 ?side3 ?side4 A4.out).mono ?_); (case side1 => repeat (first | exact (Kd.C_below HR0_1.out HB.out) | (with_reducible refine Kd.C_alloc ?_ _) | (with_reducible refine Kd.C_drewN ?_ _) | (with_reducible refine Kd.C_drew ?_))); (case side2 => exact HC0_1.out); (case side3 => repeat (first | exact (Kd.C_below HR1.out HB.out) | (with_reducible refine Kd.C_alloc ?_ _) | (with_reducible refine Kd.C_drewN ?_ _) | (with_reducible refine Kd.C_drew ?_))); (case side4 => exact HC1.out); rintro e w9 ⟨v291, rfl, ho0, hb⟩; refine ⟨_, rfl, ?_⟩; have n0_ := Aside0.mk (Kd.R_elder' (by (with_reducible repeat (first | apply Kd.R_alloc | apply Kd.R_drewN | apply Kd.R_drew)); exact HO288.out) (Kd.R_base ho0) hb); have n1_ := Aside0.mk (Kd.R_lower (Kd.R_new' ho0 (Kd.R_lt (by (with_reducible repeat (first | apply Kd.R_alloc | apply Kd.R_drewN | apply Kd.R_drew)); exact HO288.out))) (below_size (by repeat (first | (with_reducible first | exact HB.out | apply below_alloc | apply pw_below_drewN | apply below_drew1 | refine below_set ?_ GE285.out) | exact HB.out)))); have n2_ := Aside0.mk (blk_below (g := gb285) (o := .cells #[.int .i64 a0_0, .slice A0_1 l0_1.length c0_1] 24 (0, 0)) (by (with_reducible repeat (first | refine blk_drewN ?_ _ | refine blk_drew ?_ | refine blk_alloc ?_ _)); exact BK285.out) hb); have n3_ := Aside0.mk (below_step (by repeat (first | (with_reducible first | exact HB.out | apply below_alloc | apply pw_below_drewN | apply below_drew1 | refine below_set ?_ GE285.out) | exact HB.out)) hb); clear HO288; clear BK285; clear HB; have HO288 := n0_; have HO292 := n1_; have BK285 := n2_; have HB := n3_; clear n0_ n1_ n2_ n3_; (try clear hb); (try clear hb2); (try clear hk); (try clear hi); (try clear ho0)))
 go_loopg [10, 11] k (fun kq v10 v11 w' => ∃ (x10_1 : List (List Int)) (x11_1 : Int), v11 = .int .i64 x11_1 ∧ Aside0 (pylonref15_Members.l0 kq t286 t289 t290 x10_1 x11_1 = some (r1, r2)) ∧ Aside0 (kq ≤ k) ∧ Aside0 (Kd.R (Kd.int .i64) 3 w' w.heap.size (fun k_ => some k_ ≠ (v291 : Value).ownBlock) v287 t286) ∧ Aside0 (Kd.R (Kd.int .i64) 3 w' w.heap.size (fun k_ => some k_ ≠ (v287 : Value).ownBlock) v291 t290) ∧ Aside0 (Kd.S (Kd.slice 3 (Kd.int .i64)) 25 w' w.heap.size (fun k_ => some k_ ≠ (v287 : Value).ownBlock ∧ some k_ ≠ (v291 : Value).ownBlock) v10 x10_1) ∧ Aside0 (w'.heap[gb285]? = some (.cells #[.int .i64 a0_0, (.slice A0_1 l0_1.length c0_1)] 24 (0, 0))) ∧ Aside0 (Below w.heap.size w w'))
 case atStart => exact ⟨(([] : List (List Int))), (0), (by first | rfl | (simp; done) | (simp [*]; done)), H', ⟨Nat.le_refl _⟩, ⟨by (with_reducible repeat (first | apply Kd.R_alloc | apply Kd.R_drewN | apply Kd.R_drew)); exact Kd.R_mono HO288.out (fun _ hk => hk.2)⟩, ⟨by (with_reducible repeat (first | apply Kd.R_alloc | apply Kd.R_drewN | apply Kd.R_drew)); exact Kd.R_mono HO292.out (fun _ hk => hk.2)⟩, ⟨by first | exact Kd.S_nil _ _ _ _ _ | exact Kd.N_nil _ _ _ _ _ | exact Kd.V_nil _ _ _ _ _ | exact Kd.Q_nil _ _ _ _ _ | exact Kd.R_nil _ _ _ _ _⟩, ⟨by (with_reducible repeat (first | refine blk_drewN ?_ _ | refine blk_drew ?_ | refine blk_alloc ?_ _)); exact BK285.out⟩, ⟨by repeat (first | (with_reducible first | exact HB.out | apply below_alloc | apply pw_below_drewN | apply below_drew1 | refine below_set ?_ GE285.out) | exact HB.out)⟩⟩
 case round =>
  clear H'; (try clear c1); (try clear p2); (try clear c3); (try clear c4); (try clear hcz6_0); (try clear hcz6_1); (try clear hcz8_0); (try clear hcz8_1); (try clear hfz6_0); (try clear hfz6_1); (try clear hfz8_0); (try clear hfz8_1)
  obtain ⟨x10_1, x11_1, rfl, HA, HK1, HO_6, HO_8, HO_10, BK285, HB⟩ := hrel
  cases gk with
  | zero => exact absurd HA.out (by simp [pylonref15_Members.l0])
  | succ k1 =>
   have H := HA.out
   clear HA
   simp only [pylonref15_Members.l0] at H
   by_cases c10 : x11_1 < (t290.length : Int)
   ·rw [if_pos c10] at H
    have c10b0 : decide (x11_1 < (t290.length : Int)) = true := decide_eq_true c10
    clear c10
    have H' := Aside0.mk H
    clear H
    obtain ⟨Ao11, co11, eo11⟩ := Kd.R_slice HO_8.out
    subst eo11
    go_wp2
    go_loopg [12, 13] k1 (fun kq v12 v13 w' => ∃ (x12_2 : List Int) (x13_2 : Int), v13 = .int .i64 x13_2 ∧ Aside0 (pylonref15_Members.l1 kq t286 t289 t290 x10_1 x11_1 x12_2 x13_2 = some (r1, r2)) ∧ Aside0 (kq ≤ k1) ∧ Aside0 (Kd.R (Kd.int .i64) 3 w' w.heap.size (fun k_ => some k_ ≠ ((.slice Ao11 t290.length co11) : Value).ownBlock ∧ some k_ ≠ (v12 : Value).ownBlock) v287 t286) ∧ Aside0 (Kd.R (Kd.int .i64) 3 w' w.heap.size (fun k_ => some k_ ≠ (v287 : Value).ownBlock ∧ some k_ ≠ (v12 : Value).ownBlock) (.slice Ao11 t290.length co11) t290) ∧ Aside0 (Kd.S (Kd.slice 3 (Kd.int .i64)) 25 w' w.heap.size (fun k_ => some k_ ≠ (v287 : Value).ownBlock ∧ some k_ ≠ ((.slice Ao11 t290.length co11) : Value).ownBlock ∧ some k_ ≠ (v12 : Value).ownBlock) u10 x10_1) ∧ Aside0 (Kd.R (Kd.int .i64) 3 w' w.heap.size (fun k_ => some k_ ≠ (v287 : Value).ownBlock ∧ some k_ ≠ ((.slice Ao11 t290.length co11) : Value).ownBlock) v12 x12_2) ∧ Aside0 (w'.heap[gb285]? = some (.cells #[.int .i64 a0_0, (.slice A0_1 l0_1.length c0_1)] 24 (0, 0))) ∧ Aside0 (Below w.heap.size w w'))
    case atStart => exact ⟨(([] : List Int)), (0), (by first | rfl | (simp; done) | (simp [*]; done)), H', ⟨Nat.le_refl _⟩, ⟨by (with_reducible repeat (first | apply Kd.R_alloc | apply Kd.R_drewN | apply Kd.R_drew)); exact Kd.R_mono HO_6.out (fun _ hk => ⟨hk, (by simp [Value.ownBlock])⟩)⟩, ⟨by (with_reducible repeat (first | apply Kd.R_alloc | apply Kd.R_drewN | apply Kd.R_drew)); exact Kd.R_mono HO_8.out (fun _ hk => ⟨hk, (by simp [Value.ownBlock])⟩)⟩, ⟨by (with_reducible repeat (first | apply Kd.S_alloc | apply Kd.S_drewN | apply Kd.S_drew)); exact Kd.S_mono HO_10.out (fun _ hk => ⟨hk.1, ⟨hk.2, (by simp [Value.ownBlock])⟩⟩)⟩, ⟨by first | exact Kd.R_nil _ _ _ _ _ | exact Kd.N_nil _ _ _ _ _ | exact Kd.V_nil _ _ _ _ _ | exact Kd.Q_nil _ _ _ _ _ | exact Kd.S_nil _ _ _ _ _⟩, ⟨by (with_reducible repeat (first | refine blk_drewN ?_ _ | refine blk_drew ?_ | refine blk_alloc ?_ _)); exact BK285.out⟩, ⟨by repeat (first | (with_reducible first | exact HB.out | apply below_alloc | apply pw_below_drewN | apply below_drew1 | refine below_set ?_ GE285.out) | exact HB.out)⟩⟩
    case round =>
     clear H'; (try clear c1); (try clear p2); (try clear c3); (try clear c4); (try clear c10); (try clear c10b0); (try clear hcz6_0); (try clear hcz6_1); (try clear hcz8_0); (try clear hcz8_1); (try clear hfz6_0); (try clear hfz6_1); (try clear hfz8_0); (try clear hfz8_1); (try clear p2)
     obtain ⟨x12_2, x13_2, rfl, HA, HK2, HO_6, HO_8, HO_10, HO_12, BK285, HB⟩ := hrel
     cases gk with
     | zero => exact absurd HA.out (by simp [pylonref15_Members.l1])
     | succ k2 =>
      have H := HA.out
      clear HA
      simp only [pylonref15_Members.l1] at H
      by_cases c12 : x13_2 < (t286.length : Int)
      ·rw [if_pos c12] at H
       have c12b0 : decide (x13_2 < (t286.length : Int)) = true := decide_eq_true c12
       clear c12
       by_cases c13 : 0 ≤ x13_2
       ·rw [if_pos c13] at H
        have c13b0 : decide (0 ≤ x13_2) = true := decide_eq_true c13
        clear c13
        by_cases c14 : (rd t286 x13_2) = x11_1
        ·rw [if_pos c14] at H
         have c14b0 : ((rd t286 x13_2) == x11_1) = true := beq_iff_eq.mpr c14
         have c14b1 : ((rd t286 x13_2) != x11_1) = false := bne_eq_false_iff_eq.mpr c14
         clear c14
         by_cases c15 : x12_2.length < 17592186044416
         ·rw [if_pos c15] at H
          have LMc15 := Aside0.mk c15
          clear c15
          obtain ⟨y295, hy295⟩ : ∃ y_ : List Int, y_ = (x12_2 ++ [x13_2]) := ⟨_, rfl⟩
          replace H : (pylonref15_Members.l1 k2 t286 t289 t290 x10_1 x11_1 y295 (wrap64 (x13_2 + 1))) = some (r1, r2) := by first | (rw [hy295]; with_reducible exact H) | (have H2_ := (Option.bind_some _ _).symm.trans H; rw [hy295]; with_reducible exact H2_) | (have H2_ := (Option.bind_some _ _).symm.trans H; with_reducible exact H2_) | with_reducible exact H | (rw [hy295]; exact H) | exact H
          have Ny295 := Aside0.mk hy295
          clear hy295
          have H' := Aside0.mk H
          clear H
          obtain ⟨Ao16, co16, eo16⟩ := Kd.R_slice HO_6.out
          subst eo16
          have p294 : 0 ≤ (x13_2 : Int) := of_decide_eq_true (by first | (with_reducible assumption) | assumption)
          have q294 : x13_2 < (t286.length : Int) := of_decide_eq_true (by first | (with_reducible assumption) | assumption)
          obtain ⟨ad294, e294, hx294_0⟩ := Kd.at_int (Kd.R_reads' HO_6.out).2.2 x13_2 p294 q294
          cases e294
          replace p294 := eq_true p294
          replace q294 := eq_true q294
          go_wp2_with (first | ((with_reducible refine gate_builtin (b := .append) (xs := #[.tmp 44, .tmp 46]) rfl ?_); at_builtin; refine Kd.R_append (Kd.int .i64) (w0 := w) w.heap.size rfl (.tmp 44) (.tmp 46) 25 3 (.int .i64 0) 8 rfl Try.underlying25 info3 rfl (by decide) (by omega) u12 x12_2 x13_2 [.int .i64 x13_2] (fun k_ => some k_ ≠ (.slice (some ad294) t286.length co16 : Value).ownBlock ∧ some k_ ≠ (.slice Ao11 t290.length co11 : Value).ownBlock) (fun _ => False) rfl rfl ?aP (fun _ hk => hk.elim) ?aF ?aO ?aB ?aS ?aL ?_; (case aP => exact rfl); (case aB => exact (by repeat (first | (with_reducible first | exact HB.out | apply below_alloc | apply pw_below_drewN | apply below_drew1 | refine below_set ?_ GE285.out) | exact HB.out))); (case aF => exact (fun k_ hk => ⟨Kd.fresh' (Kd.R_lt (by (with_reducible repeat (first | apply Kd.R_alloc | apply Kd.R_drewN | apply Kd.R_drew)); exact HO_6.out)) k_ hk, Kd.fresh' (Kd.R_lt (by (with_reducible repeat (first | apply Kd.R_alloc | apply Kd.R_drewN | apply Kd.R_drew)); exact HO_8.out)) k_ hk⟩)); (case aO => exact (by (with_reducible repeat (first | apply Kd.R_alloc | apply Kd.R_drewN | apply Kd.R_drew)); exact HO_12.out)); (case aS => exact (below_size (by repeat (first | (with_reducible first | exact HB.out | apply below_alloc | apply pw_below_drewN | apply below_drew1 | refine below_set ?_ GE285.out) | exact HB.out)))); (case aL => have := LMc15.out; omega); intro v296 w17 ho hb hg hat; rw [← Ny295.out] at ho; have n0_ := Aside0.mk (Kd.R_after (ok := (fun k_ => some k_ ≠ (.slice Ao11 t290.length co11 : Value).ownBlock)) (by (with_reducible repeat (first | apply Kd.R_alloc | apply Kd.R_drewN | apply Kd.R_drew)); exact HO_6.out) hg hat); have n1_ := Aside0.mk (Kd.R_after (ok := (fun k_ => some k_ ≠ (.slice (some ad294) t286.length co16 : Value).ownBlock)) (by (with_reducible repeat (first | apply Kd.R_alloc | apply Kd.R_drewN | apply Kd.R_drew)); exact HO_8.out) hg hat); have n2_ := Aside0.mk (Kd.S_after (ok := (fun k_ => some k_ ≠ (.slice (some ad294) t286.length co16 : Value).ownBlock ∧ some k_ ≠ (.slice Ao11 t290.length co11 : Value).ownBlock)) (by (with_reducible repeat (first | apply Kd.S_alloc | apply Kd.S_drewN | apply Kd.S_drew)); exact Kd.S_mono HO_10.out (fun _ hk => ⟨⟨hk.1, hk.2.1⟩, hk.2.2⟩)) hg hat); have n3_ := Aside0.mk (blk_grown (g := gb285) (o := .cells #[.int .i64 a0_0, .slice A0_1 l0_1.length c0_1] 24 (0, 0)) (by (with_reducible repeat (first | refine blk_drewN ?_ _ | refine blk_drew ?_ | refine blk_alloc ?_ _)); exact BK285.out) hg (Kd.R_ne HO_12.out BK285.out (by decide))); have n4_ := Aside0.mk (hb); have n5_ := Aside0.mk (ho); clear HO_6; clear HO_8; clear HO_10; clear BK285; clear HB; clear HO_12; have HO_6 := n0_; have HO_8 := n1_; have HO_10 := n2_; have BK285 := n3_; have HB := n4_; have HO297 := n5_; clear n0_ n1_ n2_ n3_ n4_ n5_; clear ho hb hg hat))
          go_roundg k2
          case measure => have := HK1.out; have := HK2.out; omega
          case rel => exact ⟨(y295), (wrap64 (x13_2 + 1)), (by first | rfl | (simp; done) | (simp [*]; done)), H', ⟨by have := HK1.out; have := HK2.out; omega⟩, ⟨by (with_reducible repeat (first | apply Kd.R_alloc | apply Kd.R_drewN | apply Kd.R_drew)); exact HO_6.out⟩, ⟨by (with_reducible repeat (first | apply Kd.R_alloc | apply Kd.R_drewN | apply Kd.R_drew)); exact HO_8.out⟩, ⟨by (with_reducible repeat (first | apply Kd.S_alloc | apply Kd.S_drewN | apply Kd.S_drew)); exact Kd.S_mono HO_10.out (fun _ hk => ⟨hk.1.1, ⟨hk.1.2, hk.2⟩⟩)⟩, ⟨by (with_reducible repeat (first | apply Kd.R_alloc | apply Kd.R_drewN | apply Kd.R_drew)); exact HO297.out⟩, ⟨by (with_reducible repeat (first | refine blk_drewN ?_ _ | refine blk_drew ?_ | refine blk_alloc ?_ _)); exact BK285.out⟩, ⟨by repeat (first | (with_reducible first | exact HB.out | apply below_alloc | apply pw_below_drewN | apply below_drew1 | refine below_set ?_ GE285.out) | exact HB.out)⟩⟩
         ·rw [if_neg c15] at H
          exact absurd H (by simp)
        ·rw [if_neg c14] at H
         have c14b0 : ((rd t286 x13_2) == x11_1) = false := beq_eq_false_iff_ne.mpr c14
         have c14b1 : ((rd t286 x13_2) != x11_1) = true := bne_iff_ne.mpr c14
         have H' := Aside0.mk H
         clear H
         obtain ⟨Ao18, co18, eo18⟩ := Kd.R_slice HO_6.out
         subst eo18
         have p294 : 0 ≤ (x13_2 : Int) := of_decide_eq_true (by first | (with_reducible assumption) | assumption)
         have q294 : x13_2 < (t286.length : Int) := of_decide_eq_true (by first | (with_reducible assumption) | assumption)
         obtain ⟨ad294, e294, hx294_0⟩ := Kd.at_int (Kd.R_reads' HO_6.out).2.2 x13_2 p294 q294
         cases e294
         replace p294 := eq_true p294
         replace q294 := eq_true q294
         go_wp2
         go_roundg k2
         case measure => have := HK1.out; have := HK2.out; omega
         case rel => exact ⟨(x12_2), (wrap64 (x13_2 + 1)), (by first | rfl | (simp; done) | (simp [*]; done)), H', ⟨by have := HK1.out; have := HK2.out; omega⟩, ⟨by (with_reducible repeat (first | apply Kd.R_alloc | apply Kd.R_drewN | apply Kd.R_drew)); exact HO_6.out⟩, ⟨by (with_reducible repeat (first | apply Kd.R_alloc | apply Kd.R_drewN | apply Kd.R_drew)); exact HO_8.out⟩, ⟨by (with_reducible repeat (first | apply Kd.S_alloc | apply Kd.S_drewN | apply Kd.S_drew)); exact HO_10.out⟩, ⟨by (with_reducible repeat (first | apply Kd.R_alloc | apply Kd.R_drewN | apply Kd.R_drew)); exact HO_12.out⟩, ⟨by (with_reducible repeat (first | refine blk_drewN ?_ _ | refine blk_drew ?_ | refine blk_alloc ?_ _)); exact BK285.out⟩, ⟨by repeat (first | (with_reducible first | exact HB.out | apply below_alloc | apply pw_below_drewN | apply below_drew1 | refine below_set ?_ GE285.out) | exact HB.out)⟩⟩
       ·rw [if_neg c13] at H
        exact absurd H (by simp)
      ·rw [if_neg c12] at H
       have c12b0 : decide (x13_2 < (t286.length : Int)) = false := decide_eq_false c12
       clear c12
       by_cases c19 : x10_1.length < 5864062014805
       ·rw [if_pos c19] at H
        have LMc19 := Aside0.mk c19
        clear c19
        obtain ⟨y298, hy298⟩ : ∃ y_ : List (List Int), y_ = (x10_1 ++ [x12_2]) := ⟨_, rfl⟩
        replace H : (pylonref15_Members.l0 k2 t286 t289 t290 y298 (wrap64 (x11_1 + 1))) = some (r1, r2) := by first | (rw [hy298]; with_reducible exact H) | (have H2_ := (Option.bind_some _ _).symm.trans H; rw [hy298]; with_reducible exact H2_) | (have H2_ := (Option.bind_some _ _).symm.trans H; with_reducible exact H2_) | with_reducible exact H | (rw [hy298]; exact H) | exact H
        have Ny298 := Aside0.mk hy298
        clear hy298
        have H' := Aside0.mk H
        clear H
        obtain ⟨Ao20, co20, eo20⟩ := Kd.R_slice HO_6.out
        subst eo20
        obtain ⟨Ao22, co22, eo22⟩ := Kd.R_slice HO_12.out
        subst eo22
        go_wp2_with (first | ((with_reducible refine gate_builtin (b := .append) (xs := #[.tmp 48, .tmp 50]) rfl ?_); at_builtin; refine Kd.S_append (Kd.slice 3 (Kd.int .i64)) (w0 := w) w.heap.size rfl (.tmp 48) (.tmp 50) 46 25 (.slice none 0 0) 24 rfl Try.underlying46 info25 rfl (by decide) (by omega) u10 x10_1 x12_2 [.slice Ao22 x12_2.length co22] (fun k_ => some k_ ≠ (.slice Ao20 t286.length co20 : Value).ownBlock ∧ some k_ ≠ (.slice Ao11 t290.length co11 : Value).ownBlock) (fun k_ => some k_ = (.slice Ao22 x12_2.length co22 : Value).ownBlock) rfl rfl ?aP (fun k_ hk_ => ((Kd.R_mono (ok' := fun k_ => ((fun k_ => some k_ ≠ (.slice Ao20 t286.length co20 : Value).ownBlock ∧ some k_ ≠ (.slice Ao11 t290.length co11 : Value).ownBlock)) k_ ∧ some k_ ≠ (u10 : Value).ownBlock) (Kd.R_apart' (HO_12.out) (Kd.S_typed HO_10.out) (by decide)) (fun k_ hk => ⟨⟨hk.1.1, hk.1.2⟩, hk.2⟩))).1 k_ hk_.symm) ?aF ?aO ?aB ?aS ?aL ?_; (case aP => exact Kd.M_row (Kd.R_mono (Kd.R_tight rfl (Kd.R_mono (ok' := fun k_ => ((fun k_ => some k_ ≠ (.slice Ao20 t286.length co20 : Value).ownBlock ∧ some k_ ≠ (.slice Ao11 t290.length co11 : Value).ownBlock)) k_ ∧ some k_ ≠ (u10 : Value).ownBlock) (Kd.R_apart' (HO_12.out) (Kd.S_typed HO_10.out) (by decide)) (fun k_ hk => ⟨⟨hk.1.1, hk.1.2⟩, hk.2⟩))) (fun _ h_ => h_))); (case aB => exact (by repeat (first | (with_reducible first | exact HB.out | apply below_alloc | apply pw_below_drewN | apply below_drew1 | refine below_set ?_ GE285.out) | exact HB.out))); (case aF => exact (fun k_ hk => ⟨Kd.fresh' (Kd.R_lt (by (with_reducible repeat (first | apply Kd.R_alloc | apply Kd.R_drewN | apply Kd.R_drew)); exact HO_6.out)) k_ hk, Kd.fresh' (Kd.R_lt (by (with_reducible repeat (first | apply Kd.R_alloc | apply Kd.R_drewN | apply Kd.R_drew)); exact HO_8.out)) k_ hk⟩)); (case aO => exact (by (with_reducible repeat (first | apply Kd.S_alloc | apply Kd.S_drewN | apply Kd.S_drew)); exact Kd.S_mono HO_10.out (fun k_ hk => ⟨⟨hk.1, hk.2.1⟩, fun e_ => hk.2.2 e_⟩))); (case aS => exact (below_size (by repeat (first | (with_reducible first | exact HB.out | apply below_alloc | apply pw_below_drewN | apply below_drew1 | refine below_set ?_ GE285.out) | exact HB.out)))); (case aL => have := LMc19.out; omega); intro v299 w21 ho hb hg hat; rw [← Ny298.out] at ho; have n0_ := Aside0.mk (Kd.R_over' (by (with_reducible repeat (first | apply Kd.R_alloc | apply Kd.R_drewN | apply Kd.R_drew)); exact HO_6.out) (Kd.S_typed (by (with_reducible repeat (first | apply Kd.S_alloc | apply Kd.S_drewN | apply Kd.S_drew)); exact HO_10.out)) (by decide) hg); have n1_ := Aside0.mk (Kd.R_over' (by (with_reducible repeat (first | apply Kd.R_alloc | apply Kd.R_drewN | apply Kd.R_drew)); exact HO_8.out) (Kd.S_typed (by (with_reducible repeat (first | apply Kd.S_alloc | apply Kd.S_drewN | apply Kd.S_drew)); exact HO_10.out)) (by decide) hg); have n2_ := Aside0.mk (blk_grown (g := gb285) (o := .cells #[.int .i64 a0_0, .slice A0_1 l0_1.length c0_1] 24 (0, 0)) (by (with_reducible repeat (first | refine blk_drewN ?_ _ | refine blk_drew ?_ | refine blk_alloc ?_ _)); exact BK285.out) hg (Kd.S_ne HO_10.out BK285.out (by decide))); have n3_ := Aside0.mk (hb); have n4_ := Aside0.mk (ho); clear HO_6; clear HO_8; clear BK285; clear HB; clear HO_10; clear HO_12; have HO_6 := n0_; have HO_8 := n1_; have BK285 := n2_; have HB := n3_; have HO300 := n4_; clear n0_ n1_ n2_ n3_ n4_; clear ho hb hg hat))
        go_roundg k2
        case measure => have := HK1.out; have := HK2.out; omega
        case rel => exact ⟨(y298), (wrap64 (x11_1 + 1)), (by first | rfl | (simp; done) | (simp [*]; done)), H', ⟨by have := HK1.out; have := HK2.out; omega⟩, ⟨by (with_reducible repeat (first | apply Kd.R_alloc | apply Kd.R_drewN | apply Kd.R_drew)); exact Kd.R_mono HO_6.out (fun _ hk => hk.1)⟩, ⟨by (with_reducible repeat (first | apply Kd.R_alloc | apply Kd.R_drewN | apply Kd.R_drew)); exact Kd.R_mono HO_8.out (fun _ hk => hk.1)⟩, ⟨by (with_reducible repeat (first | apply Kd.S_alloc | apply Kd.S_drewN | apply Kd.S_drew)); exact HO300.out⟩, ⟨by (with_reducible repeat (first | refine blk_drewN ?_ _ | refine blk_drew ?_ | refine blk_alloc ?_ _)); exact BK285.out⟩, ⟨by repeat (first | (with_reducible first | exact HB.out | apply below_alloc | apply pw_below_drewN | apply below_drew1 | refine below_set ?_ GE285.out) | exact HB.out)⟩⟩
       ·rw [if_neg c19] at H
        exact absurd H (by simp)
   ·rw [if_neg c10] at H
    have c10b0 : decide (x11_1 < (t290.length : Int)) = false := decide_eq_false c10
    clear c10
    simp only [Option.some.injEq, Prod.mk.injEq] at H
    obtain ⟨rfl, rfl⟩ := H
    obtain ⟨Ao23, co23, eo23⟩ := Kd.R_slice HO_8.out
    subst eo23
    go_wp2
    go_ret2
    exact ⟨_, by first | rfl | (simp [errW_none, errW_some] <;> rfl) | (simp [*, errW_none, errW_some] <;> rfl), by (with_reducible repeat (first | apply Kd.S_alloc | apply Kd.S_drewN | apply Kd.S_drew)); exact Kd.S_mono HO_10.out (fun _ hk => trivial), by repeat (first | (with_reducible first | exact HB.out | apply below_alloc | apply pw_below_drewN | apply below_drew1 | refine below_set ?_ GE285.out) | exact HB.out)⟩

end Go.Proofs.Ytdpgdelimffjpaa.P

namespace Go.Proofs.Ytdpgdelimffjpaa.P
open Go.RowKit Go.Proofs.YtdpgdelimffjpaaW.PrintWords Go.Proofs.YtdpgdelimffjpaaW.PrintLast Go.Proofs.YtdpgdelimffjpaaW.PrintMore
attribute [local go_sem] max2_int min2_int max_two min_two max_three min_three max_four min_four   -- for this text's walks alone
set_option linter.unusedVariables false
set_option linter.unusedSimpArgs false

/-! ### slices_Max_int_int: function 90: by hand -/
def slices_Max_int_int.f (l0 : List Int) : Option (Int) := if l0.length = 0 then none else some (l0.foldl max (rd l0 0))
theorem foldl_take_succ (l : List Int) (z : Int) (i : Nat) (hi : i < l.length) : (l.take (i + 1)).foldl max z = max ((l.take i).foldl max z) (rd l (i : Int)) := by
 rw [List.take_succ_eq_append_getElem hi, List.foldl_append, rd_nat l i hi]; rfl
set_option maxRecDepth 100000 in
set_option maxHeartbeats 4000000 in
theorem slices_Max_int_int.calls (A0 : Option Addr) (c0 : Nat) (l0 : List Int) (r : Int) (w : World) (hr0 : Kd.C (Kd.int .i64) w A0 l0.length l0) (hc0 : l0.length ≤ c0) (h : slices_Max_int_int.f l0 = some r) :
  Calls Try.prog 90 #[.slice A0 l0.length c0] w fun e w' => e = .returned (.int .i64 r) ∧ Below w.heap.size w w' := by
 unfold slices_Max_int_int.f at h
 by_cases h0 : l0.length = 0
 ·rw [if_pos h0] at h; cases h
 rw [if_neg h0] at h
 have hr : l0.foldl max (rd l0 0) = r := Option.some.inj h
 have HRR := Lib.hid hr
 have HC := Lib.hid hr0
 have HLM := Lib.hid (Kd.C_max hr0)
 have q1 : decide ((l0.length : Int) < 1) = false := decide_eq_false (by omega)
 obtain ⟨ad, e0, e1⟩ := Kd.at_int hr0 0 (by omega) (by omega)
 subst e0
 have hz0 : ad.add 0 = ad := by cases ad; simp [Addr.add]
 simp only [Int.toNat_zero, hz0] at e1
 clear hz0; clear h hr hr0
 generalize hz : rd l0 0 = z at HRR e1
 have HZ := Lib.hid hz
 clear hz
 go_enter Try.func90, Try.ntmps90
 go_wp2_with fail
 go_loopg [3, 4] (l0.length - 1) (fun kq v3 v4 wr => ∃ i : Nat, 1 ≤ i ∧ i ≤ l0.length ∧ v4 = .int .i64 (i : Int) ∧ ∃ m : Int, v3 = .int .i64 m ∧ Hid (kq = l0.length - i ∧ m = (l0.take i).foldl max z) ∧ wr = w)
 case atStart =>
  refine ⟨1, Nat.le_refl _, by omega, rfl, z, rfl, ⟨rfl, ?_⟩, rfl⟩
  have e := foldl_take_succ l0 z 0 (by omega)
  have e2 : rd l0 ((0 : Nat) : Int) = z := HZ.out
  rw [e2, List.take_zero, List.foldl_nil] at e
  rw [e]; omega
 case round =>
  obtain ⟨i, hi1, hi, rfl, m, rfl, HM, rfl⟩ := hrel
  by_cases hlt : i < l0.length
  ·have q2 : decide ((i : Int) < (l0.length : Int)) = true := decide_eq_true (by omega)
   obtain ⟨ad2, e2, e3⟩ := Kd.at_int HC.out (i : Int) (by omega) (by omega)
   cases e2
   rw [Int.toNat_natCast] at e3
   obtain ⟨x, hx⟩ : ∃ x, x = rd l0 (i : Int) := ⟨_, rfl⟩
   rw [← hx] at e3
   have HX := Lib.hid hx
   clear hx
   have hL := HLM.out
   go_wp2_with fail
   all_goals (go_roundg (l0.length - (i + 1)); (case measure => have := HM.out.1; omega); (case rel => exact ⟨i + 1, by omega, by omega, rfl, _, rfl, ⟨rfl, by have e := foldl_take_succ l0 z i hlt; rw [← HM.out.2, ← HX.out] at e; rw [e]; omega⟩, rfl⟩))
  ·have q2 : decide ((i : Int) < (l0.length : Int)) = false := decide_eq_false (by omega)
   have hiL : i = l0.length := by omega
   go_wp2_with fail
   go_ret
   have e := HM.out.2
   rw [hiL, List.take_length, HRR.out] at e
   subst e
   exact ⟨rfl, Below.refl _ _⟩

end Go.Proofs.Ytdpgdelimffjpaa.P

namespace Go.Proofs.Ytdpgdelimffjpaa.P
open Go.RowKit Go.Proofs.YtdpgdelimffjpaaW.PrintWords Go.Proofs.YtdpgdelimffjpaaW.PrintLast Go.Proofs.YtdpgdelimffjpaaW.PrintMore
attribute [local go_sem] max2_int min2_int max_two min_two max_three min_three max_four min_four   -- for this text's walks alone
set_option linter.unusedVariables false
set_option linter.unusedSimpArgs false

/-! ### island_Members: function 42 -/
def island_Members.l0 : Nat → List (List Int) → List Int → Int → Int → Option ((List (List Int)) × Int)
 | 0, _, _, _, _ => none
 | k + 1, x8, x24, x25, x26 => if x26 < x25 then (if 0 ≤ x26 then (if x26 < (x24.length : Int) then (if 0 ≤ (rd x24 x26) then (if (rd x24 x26) < (x8.length : Int) then (if (rd_L1 x8 (rd x24 x26)).length < 17592186044416 then (island_Members.l0 k (x8.set ((rd x24 x26) : Int).toNat ((rd_L1 x8 (rd x24 x26)) ++ [x26])) x24 x25 (wrap64 (x26 + 1))) else (none)) else (none)) else (none)) else (none)) else (none)) else (some (x8, 0))
def island_Members.f (k : Nat) (a0_0 : Int) (l0_1 : List (S37)) (l1 : List Int) : Option ((List (List Int)) × Int) := (island_Of.f k a0_0 l0_1 l1).bind fun bt302 => (if bt302.2 = 0 then ((slices_Max_int_int.f bt302.1).bind fun t306 => (if 0 ≤ (wrap64 (t306 + 1)) then (if (wrap64 (t306 + 1) : Int).toNat ≤ 11728124029610 then (island_Members.l0 k (List.replicate (wrap64 (t306 + 1) : Int).toNat []) bt302.1 (bt302.1.length : Int) 0) else (none)) else (none))) else (some (([] : List (List Int)), bt302.2)))
set_option maxHeartbeats 8000000 in
set_option maxRecDepth 100000 in
theorem island_Members.calls (k : Nat) (a0_0 : Int) (A0_1 : Option Addr) (c0_1 : Nat) (l0_1 : List (S37)) (A1 : Option Addr) (c1 : Nat) (l1 : List Int) (r1 : List (List Int)) (r2 : Int) (w : World) (hr0_1 : Kd.C k37 w A0_1 l0_1.length l0_1) (hc0_1 : l0_1.length ≤ c0_1) (hr1 : Kd.C (Kd.int .i64) w A1 l1.length l1) (hc1 : l1.length ≤ c1) (h : island_Members.f k a0_0 l0_1 l1 = some (r1, r2)) :
  Calls Try.prog 42 #[.agg #[.int .i64 a0_0, .slice A0_1 l0_1.length c0_1], .slice A1 l1.length c1] w fun e w' => ∃ v0_ : Value, e = .returned (.tuple #[v0_, .int .i64 r2]) ∧ Kd.S (Kd.slice 3 (Kd.int .i64)) 25 w' w.heap.size (fun _ => True) v0_ r1 ∧ Below w.heap.size w w' := by
 have hu24 := Try.underlying24
 have HR0_1 := Aside0.mk hr0_1
 have HC0_1 := Aside0.mk hc0_1
 clear hr0_1 hc0_1
 have HR1 := Aside0.mk hr1
 have HC1 := Aside0.mk hc1
 clear hr1 hc1
 have HB := Aside0.mk (Below.refl w.heap.size w)
 have H : ((island_Of.f k a0_0 l0_1 l1).bind fun bt302 => (if bt302.2 = 0 then ((slices_Max_int_int.f bt302.1).bind fun t306 => (if 0 ≤ (wrap64 (t306 + 1)) then (if (wrap64 (t306 + 1) : Int).toNat ≤ 11728124029610 then (island_Members.l0 k (List.replicate (wrap64 (t306 + 1) : Int).toNat []) bt302.1 (bt302.1.length : Int) 0) else (none)) else (none))) else (some (([] : List (List Int)), bt302.2)))) = some (r1, r2) := h
 clear h
 replace H := Option.bind_eq_some_iff.mp H
 obtain ⟨⟨t302, t305⟩, A30, H⟩ := H
 replace H : (if t305 = 0 then ((slices_Max_int_int.f t302).bind fun t306 => (if 0 ≤ (wrap64 (t306 + 1)) then (if (wrap64 (t306 + 1) : Int).toNat ≤ 11728124029610 then (island_Members.l0 k (List.replicate (wrap64 (t306 + 1) : Int).toNat []) t302 (t302.length : Int) 0) else (none)) else (none))) else (some (([] : List (List Int)), t305))) = some (r1, r2) := H
 have A3 := Aside0.mk A30
 clear A30
 by_cases c4 : t305 = 0
 ·rw [if_pos c4] at H
  have c4b0 : (t305 == 0) = true := beq_iff_eq.mpr c4
  have c4b1 : (t305 != 0) = false := bne_eq_false_iff_eq.mpr c4
  clear c4
  replace H := Option.bind_eq_some_iff.mp H
  obtain ⟨t306, A50, H⟩ := H
  replace H : (if 0 ≤ (wrap64 (t306 + 1)) then (if (wrap64 (t306 + 1) : Int).toNat ≤ 11728124029610 then (island_Members.l0 k (List.replicate (wrap64 (t306 + 1) : Int).toNat []) t302 (t302.length : Int) 0) else (none)) else (none)) = some (r1, r2) := H
  have A5 := Aside0.mk A50
  clear A50
  obtain ⟨ji6, hji6⟩ : ∃ j_ : Int, (wrap64 (t306 + 1)) = j_ := ⟨_, rfl⟩
  replace H : (if 0 ≤ (ji6) then (if (ji6 : Int).toNat ≤ 11728124029610 then (island_Members.l0 k (List.replicate (ji6 : Int).toNat []) t302 (t302.length : Int) 0) else (none)) else (none)) = some (r1, r2) := by first | (rw [hji6] at H; exact H) | (simp only [hji6] at H ⊢; exact H)
  (try rw [hji6] at A3)
  (try rw [hji6] at A5)
  have hji6w : (IntKind.i64.wrap (t306 + 1)) = ji6 := (i64_w _).trans hji6
  by_cases c7 : 0 ≤ (ji6)
  ·rw [if_pos c7] at H
   have c7b0 := eq_true c7
   have c7b1 : decide (0 ≤ (ji6)) = true := decide_eq_true c7
   clear c7
   by_cases c8 : (ji6 : Int).toNat ≤ 11728124029610
   ·rw [if_pos c8] at H
    have c8b0 := eq_true c8
    have c8b1 : decide ((ji6 : Int).toNat ≤ 11728124029610) = true := decide_eq_true c8
    clear c8
    obtain ⟨y307, hy307⟩ : ∃ y_ : List (List Int), y_ = (List.replicate (ji6 : Int).toNat []) := ⟨_, rfl⟩
    replace H : (island_Members.l0 k y307 t302 (t302.length : Int) 0) = some (r1, r2) := by first | (rw [hy307]; with_reducible exact H) | (have H2_ := (Option.bind_some _ _).symm.trans H; rw [hy307]; with_reducible exact H2_) | (have H2_ := (Option.bind_some _ _).symm.trans H; with_reducible exact H2_) | with_reducible exact H | (rw [hy307]; exact H) | exact H
    have Ny307 := Aside0.mk hy307
    clear hy307
    have H' := Aside0.mk H
    clear H
    go_enter Try.func42, Try.ntmps42
    go_wp2_with (first | ((with_reducible refine gate_dst (N := 2) rfl ?_); refine box_event ?hg (N := 2) ?hd (cs := #[.int .i64 a0_0, .slice A0_1 l0_1.length c0_1]) (t := 24) ?hr ?_; (case hd => rfl); (case hg => rfl); (case hr => first | (go_simp; done) | (go_simp; rfl)); intro gb301 hg w9 hbox hb; have n0_ := Aside0.mk (below_step (by repeat (first | (with_reducible first | exact HB.out | apply below_alloc | apply pw_below_drewN | apply below_drew1) | exact HB.out)) hb); have n1_ := Aside0.mk (hbox); have n2_ := Aside0.mk ((by rw [hg]; exact (below_size (by repeat (first | (with_reducible first | exact HB.out | apply below_alloc | apply pw_below_drewN | apply below_drew1) | exact HB.out))) : w.heap.size ≤ gb301)); have n3_ := Aside0.mk ((by rw [hg]; exact (below_size (by repeat (first | (with_reducible first | exact HB.out | apply below_alloc | apply pw_below_drewN | apply below_drew1) | exact HB.out))) : w.heap.size ≤ gb301)); clear HB; have HB := n0_; have BK301 := n1_; have GW301 := n2_; have GE301 := n3_; clear n0_ n1_ n2_ n3_; clear hb hbox hg; have hcz10_0 : w9.cell? ⟨gb301, 0, none⟩ = some (.int .i64 a0_0) := (blk_cell BK301.out 0).trans rfl; have hcz10_1 : w9.cell? ⟨gb301, 1, none⟩ = some (.slice A0_1 l0_1.length c0_1) := (blk_cell BK301.out 1).trans rfl; have hfz10_0 := blk_frozen BK301.out 0; have hfz10_1 := blk_frozen BK301.out 1) | ((with_reducible refine gate_callee (f := 30) rfl ?_); refine goesL_ (some 14) rfl rfl Try.func30 (by kernel_rfl) rfl #[.agg #[.int .i64 a0_0, .slice A0_1 l0_1.length c0_1], .slice A1 l1.length c1] rfl (by (try simp only [List.map_toArray, List.map_cons, List.map_nil]); first | done | rfl | (simp only [List.length_drop, List.length_take]; rfl)) ?_; (with_reducible refine (island_Of.calls k a0_0 _ _ l0_1 _ _ l1 t302 t305 _ ?side1 ?side2 ?side3 ?side4 A3.out).mono ?_); (case side1 => repeat (first | exact (Kd.C_below HR0_1.out HB.out) | (with_reducible refine Kd.C_alloc ?_ _) | (with_reducible refine Kd.C_drewN ?_ _) | (with_reducible refine Kd.C_drew ?_))); (case side2 => exact HC0_1.out); (case side3 => repeat (first | exact (Kd.C_below HR1.out HB.out) | (with_reducible refine Kd.C_alloc ?_ _) | (with_reducible refine Kd.C_drewN ?_ _) | (with_reducible refine Kd.C_drew ?_))); (case side4 => exact HC1.out); rintro e w11 ⟨v303, rfl, ho0, hb⟩; refine ⟨_, rfl, ?_⟩; have n0_ := Aside0.mk (Kd.R_lower ho0 (below_size (by repeat (first | (with_reducible first | exact HB.out | apply below_alloc | apply pw_below_drewN | apply below_drew1 | refine below_set ?_ GE301.out) | exact HB.out)))); have n1_ := Aside0.mk (blk_below (g := gb301) (o := .cells #[.int .i64 a0_0, .slice A0_1 l0_1.length c0_1] 24 (0, 0)) (by (with_reducible repeat (first | refine blk_drewN ?_ _ | refine blk_drew ?_ | refine blk_alloc ?_ _)); exact BK301.out) hb); have n2_ := Aside0.mk (below_step (by repeat (first | (with_reducible first | exact HB.out | apply below_alloc | apply pw_below_drewN | apply below_drew1 | refine below_set ?_ GE301.out) | exact HB.out)) hb); clear BK301; clear HB; have HO304 := n0_; have BK301 := n1_; have HB := n2_; clear n0_ n1_ n2_; (try clear hb); (try clear hb2); (try clear hk); (try clear hi); (try clear ho0); obtain ⟨Ao12, co12, eo12⟩ := Kd.R_slice HO304.out; subst eo12) | ((with_reducible refine gate_callee (f := 90) rfl ?_); refine goesL_ (some 21) rfl rfl Try.func90 (by kernel_rfl) rfl #[.slice Ao12 t302.length co12] rfl (by (try simp only [List.map_toArray, List.map_cons, List.map_nil]); first | done | rfl | (simp only [List.length_drop, List.length_take]; rfl)) ?_; (with_reducible refine (slices_Max_int_int.calls _ _ t302 t306 _ ?side1 ?side2 A5.out).mono ?_); (case side1 => repeat (first | exact (Kd.R_reads' HO304.out).2.2 | (with_reducible refine Kd.C_alloc ?_ _) | (with_reducible refine Kd.C_drewN ?_ _) | (with_reducible refine Kd.C_drew ?_))); (case side2 => exact (Kd.R_reads' HO304.out).2.1); rintro e w13 ⟨rfl, hb⟩; refine ⟨_, rfl, ?_⟩; have n0_ := Aside0.mk (Kd.R_below (by (with_reducible repeat (first | apply Kd.R_alloc | apply Kd.R_drewN | apply Kd.R_drew)); exact HO304.out) hb); have n1_ := Aside0.mk (blk_below (g := gb301) (o := .cells #[.int .i64 a0_0, .slice A0_1 l0_1.length c0_1] 24 (0, 0)) (by (with_reducible repeat (first | refine blk_drewN ?_ _ | refine blk_drew ?_ | refine blk_alloc ?_ _)); exact BK301.out) hb); have n2_ := Aside0.mk (below_step (by repeat (first | (with_reducible first | exact HB.out | apply below_alloc | apply pw_below_drewN | apply below_drew1 | refine below_set ?_ GE301.out) | exact HB.out)) hb); clear HO304; clear BK301; clear HB; have HO304 := n0_; have BK301 := n1_; have HB := n2_; clear n0_ n1_ n2_; (try clear hb); (try clear hb2); (try clear hk); (try clear hi)) | ((with_reducible refine gate_dst (N := 23) rfl ?_); refine Kd.S_make (Kd.slice 3 (Kd.int .i64)) _ 25 rfl (N := 23) rfl 46 _ _ rfl ji6 rfl rfl Try.underlying46 (.slice none 0 0) 24 info25 rfl (by decide) (by omega) [] (ok := fun _ => True) (okp := fun _ => True) ⟨_, rfl, Kd.R_nil _ _ _ _ _⟩ (fun _ hk => hk) trivial (of_decide_eq_true (by first | (with_reducible assumption) | assumption)) (Nat.le_trans (Nat.mul_le_mul_right _ (of_decide_eq_true (by first | (with_reducible assumption) | assumption) : ji6.toNat ≤ 11728124029610)) (by omega)) (Below.refl _ _) (Nat.le_refl _) ?_; intro v308 w14 ho15 hb hg_ hnew_; clear hg_ hnew_; (first | rw [← Ny307.out] at ho15 | (simp only [Int.reduceToNat] at ho15; rw [← Ny307.out] at ho15)); have n0_ := Aside0.mk (Kd.R_below (by (with_reducible repeat (first | apply Kd.R_alloc | apply Kd.R_drewN | apply Kd.R_drew)); exact HO304.out) hb); have n1_ := Aside0.mk (Kd.S_lower (Kd.S_new' ho15 (Kd.R_lt (by (with_reducible repeat (first | apply Kd.R_alloc | apply Kd.R_drewN | apply Kd.R_drew)); exact HO304.out))) (below_size (by repeat (first | (with_reducible first | exact HB.out | apply below_alloc | apply pw_below_drewN | apply below_drew1 | refine below_set ?_ GE301.out) | exact HB.out)))); have n2_ := Aside0.mk (blk_below (g := gb301) (o := .cells #[.int .i64 a0_0, .slice A0_1 l0_1.length c0_1] 24 (0, 0)) (by (with_reducible repeat (first | refine blk_drewN ?_ _ | refine blk_drew ?_ | refine blk_alloc ?_ _)); exact BK301.out) hb); have n3_ := Aside0.mk (below_step (by repeat (first | (with_reducible first | exact HB.out | apply below_alloc | apply pw_below_drewN | apply below_drew1 | refine below_set ?_ GE301.out) | exact HB.out)) hb); clear HO304; clear BK301; clear HB; have HO304 := n0_; have HO309 := n1_; have BK301 := n2_; have HB := n3_; clear n0_ n1_ n2_ n3_; clear hb ho15))
    go_loopg [26] k (fun kq v26 w' => ∃ (x8_1 : List (List Int)) (x26_1 : Int), v26 = .int .i64 x26_1 ∧ Aside0 (island_Members.l0 kq x8_1 t302 (t302.length : Int) x26_1 = some (r1, r2)) ∧ Aside0 (kq ≤ k) ∧ Aside0 (Kd.S (Kd.slice 3 (Kd.int .i64)) 25 w' w.heap.size (fun k_ => some k_ ≠ ((.slice Ao12 t302.length co12) : Value).ownBlock) v308 x8_1) ∧ Aside0 (Kd.R (Kd.int .i64) 3 w' w.heap.size (fun _ => True) (.slice Ao12 t302.length co12) t302) ∧ Aside0 (w'.heap[gb301]? = some (.cells #[.int .i64 a0_0, (.slice A0_1 l0_1.length c0_1)] 24 (0, 0))) ∧ Aside0 (Below w.heap.size w w'))
    case atStart => exact ⟨(y307), (0), (by first | rfl | (simp; done) | (simp [*]; done)), H', ⟨Nat.le_refl _⟩, ⟨by (with_reducible repeat (first | apply Kd.S_alloc | apply Kd.S_drewN | apply Kd.S_drew)); exact Kd.S_mono HO309.out (fun _ hk => hk.2)⟩, ⟨by (with_reducible repeat (first | apply Kd.R_alloc | apply Kd.R_drewN | apply Kd.R_drew)); exact HO304.out⟩, ⟨by (with_reducible repeat (first | refine blk_drewN ?_ _ | refine blk_drew ?_ | refine blk_alloc ?_ _)); exact BK301.out⟩, ⟨by repeat (first | (with_reducible first | exact HB.out | apply below_alloc | apply pw_below_drewN | apply below_drew1 | refine below_set ?_ GE301.out) | exact HB.out)⟩⟩
    case round =>
     clear H'; (try clear c1); (try clear p2); (try clear c3); (try clear c4); (try clear c4b0); (try clear c4b1); (try clear p6); (try clear c7); (try clear c7b0); (try clear c7b1); (try clear c8); (try clear c8b0); (try clear c8b1); (try clear c9); (try clear hcz10_0); (try clear hcz10_1); (try clear hfz10_0); (try clear hfz10_1)
     obtain ⟨x8_1, x26_1, rfl, HA, HK1, HO_8, HO_24, BK301, HB⟩ := hrel
     cases gk with
     | zero => exact absurd HA.out (by simp [island_Members.l0])
     | succ k1 =>
      have H := HA.out
      clear HA
      simp only [island_Members.l0] at H
      by_cases c16 : x26_1 < (t302.length : Int)
      ·rw [if_pos c16] at H
       have c16b0 : decide (x26_1 < (t302.length : Int)) = true := decide_eq_true c16
       clear c16
       by_cases c17 : 0 ≤ x26_1
       ·rw [if_pos c17] at H
        have c17b0 : decide (0 ≤ x26_1) = true := decide_eq_true c17
        clear c17
        by_cases c18 : x26_1 < (t302.length : Int)
        ·rw [if_pos c18] at H
         have c18b0 : decide (x26_1 < (t302.length : Int)) = true := decide_eq_true c18
         clear c18
         by_cases c19 : 0 ≤ (rd t302 x26_1)
         ·rw [if_pos c19] at H
          have c19b0 : decide (0 ≤ (rd t302 x26_1)) = true := decide_eq_true c19
          clear c19
          by_cases c20 : (rd t302 x26_1) < (x8_1.length : Int)
          ·rw [if_pos c20] at H
           have c20b0 : decide ((rd t302 x26_1) < (x8_1.length : Int)) = true := decide_eq_true c20
           clear c20
           by_cases c21 : (rd_L1 x8_1 (rd t302 x26_1)).length < 17592186044416
           ·rw [if_pos c21] at H
            have LMc21 := Aside0.mk c21
            clear c21
            obtain ⟨y312, hy312⟩ : ∃ y_ : List Int, y_ = ((rd_L1 x8_1 (rd t302 x26_1)) ++ [x26_1]) := ⟨_, rfl⟩
            replace H : (island_Members.l0 k1 (x8_1.set ((rd t302 x26_1) : Int).toNat y312) t302 (t302.length : Int) (wrap64 (x26_1 + 1))) = some (r1, r2) := by first | (rw [hy312]; with_reducible exact H) | (have H2_ := (Option.bind_some _ _).symm.trans H; rw [hy312]; with_reducible exact H2_) | (have H2_ := (Option.bind_some _ _).symm.trans H; with_reducible exact H2_) | with_reducible exact H | (rw [hy312]; exact H) | exact H
            have Ny312 := Aside0.mk hy312
            clear hy312
            obtain ⟨y315, hy315⟩ : ∃ y_ : List (List Int), y_ = (x8_1.set ((rd t302 x26_1) : Int).toNat y312) := ⟨_, rfl⟩
            replace H : (island_Members.l0 k1 y315 t302 (t302.length : Int) (wrap64 (x26_1 + 1))) = some (r1, r2) := by first | (rw [hy315]; with_reducible exact H) | (have H2_ := (Option.bind_some _ _).symm.trans H; rw [hy315]; with_reducible exact H2_) | (have H2_ := (Option.bind_some _ _).symm.trans H; with_reducible exact H2_) | with_reducible exact H | (rw [hy315]; exact H) | exact H
            have Ny315 := Aside0.mk hy315
            clear hy315
            have H' := Aside0.mk H
            clear H
            have p310 : 0 ≤ (x26_1 : Int) := of_decide_eq_true (by first | (with_reducible assumption) | assumption)
            have q310 : x26_1 < (t302.length : Int) := of_decide_eq_true (by first | (with_reducible assumption) | assumption)
            obtain ⟨ad310, e310, hx310_0⟩ := Kd.at_int (Kd.R_reads' HO_24.out).2.2 x26_1 p310 q310
            cases e310
            replace p310 := eq_true p310
            replace q310 := eq_true q310
            obtain ⟨Ao23, co23, eo23⟩ := Kd.S_slice HO_8.out
            subst eo23
            have p311 : 0 ≤ ((rd t302 x26_1) : Int) := of_decide_eq_true (by first | (with_reducible assumption) | assumption)
            have q311 : (rd t302 x26_1) < (x8_1.length : Int) := of_decide_eq_true (by first | (with_reducible assumption) | assumption)
            obtain ⟨ad311, A311_0, c311_0, e311, hx311_0, hl311_0, hi311_0⟩ := at_L1 (Kd.S_reads' HO_8.out).2.2 (rd t302 x26_1) p311 q311
            cases e311
            obtain ⟨ce311, hce311, hMe311, hcc311⟩ := Kd.S_get HO_8.out [] (rd t302 x26_1) p311 (by first | exact q311 | exact of_decide_eq_true (by first | (with_reducible assumption) | assumption) | (have e_ := (Kd.S_reads' HO_8.out).1; omega))
            obtain ⟨ve311_0, rfl, ge311_0⟩ := hMe311
            have hv311_0 := hcc311 0 _ rfl
            rw [Nat.add_zero, show ((Kd.slice 3 (Kd.int .i64))).sz = 1 from rfl, Nat.mul_one] at hv311_0
            replace hv311_0 := Option.some.inj (hv311_0.symm.trans hx311_0)
            rw [hv311_0] at ge311_0
            have HL311_0 := Aside0.mk (show Kd.R (Kd.int .i64) 3 _ _ _ _ (rd_L1 x8_1 (rd t302 x26_1)) from ge311_0)
            clear hv311_0 ge311_0
            have HX311_0 := Aside0.mk hx311_0
            clear hcc311 hce311
            have HR311_0 := Aside0.mk hi311_0
            have HC311_0 := Aside0.mk hl311_0
            clear hi311_0 hl311_0
            replace p311 := eq_true p311
            replace q311 := eq_true q311
            obtain ⟨go24, co24, eo24, gb24, gl24, cl24, HG24⟩ := Kd.S_form HO_8.out (by have h_ : ((rd t302 x26_1) : Int) < ((x8_1.length : Int) : Int) := of_decide_eq_true (by first | (with_reducible assumption) | assumption); have h2_ : 0 ≤ ((rd t302 x26_1) : Int) := (of_decide_eq_true (by first | (with_reducible assumption) | assumption)); omega)
            (first | cases eo24 | (injection eo24 with ea_ en_ ec_; (first | subst ea_ | (injection ea_ with ea_; subst ea_)); subst ec_; clear en_))
            have GB24 := Aside0.mk gb24
            have GG24 := Aside0.mk HG24
            clear gb24 gl24 HG24
            (first | simp only [add_plain] at hx311_0 | skip)
            obtain ⟨oki24, ce24, hcl24, hM24, hcc24, _, _, hH24⟩ := Kd.S_elem HO_8.out [] ((rd t302 x26_1) : Int) (of_decide_eq_true (by first | (with_reducible assumption) | assumption)) (by have h_ : ((rd t302 x26_1) : Int) < ((x8_1.length : Int) : Int) := of_decide_eq_true (by first | (with_reducible assumption) | assumption); first | exact h_ | (have e_ := (Kd.S_reads' HO_8.out).1; omega) | simpa using h_)
            obtain ⟨ve24_0, rfl, ge24_0⟩ := hM24
            have hv24 := hcc24 0 _ rfl
            have hX24 := HX311_0.out
            (try simp only [add_plain] at hX24)
            (try simp only [Nat.add_zero] at hv24)
            (try rw [show ((Kd.slice 3 (Kd.int .i64))).sz = 1 from rfl, Nat.mul_one] at hv24)
            replace hv24 := Option.some.inj (hv24.symm.trans hX24)
            subst hv24
            clear hX24 hcc24 hcl24
            have UU24 := Aside0.mk (show Kd.R (Kd.int .i64) 3 _ w.heap.size oki24 (.slice A311_0 (rd_L1 x8_1 (rd t302 x26_1)).length c311_0) (rd_L1 x8_1 (rd t302 x26_1)) from ge24_0)
            have HH24 := Aside0.mk hH24
            have HN24 := Aside0.mk (Kd.S_reads' HO_8.out).1
            clear hH24 ge24_0
            go_wp2_with (first | ((with_reducible refine gate_builtin (b := .append) (xs := #[.tmp 36, .tmp 38]) rfl ?_); at_builtin; refine Kd.R_append (Kd.int .i64) (w0 := w) w.heap.size rfl (.tmp 36) (.tmp 38) 25 3 (.int .i64 0) 8 rfl Try.underlying25 info3 rfl (by decide) (by omega) (.slice A311_0 (rd_L1 x8_1 (rd t302 x26_1)).length c311_0) (rd_L1 x8_1 (rd t302 x26_1)) x26_1 [.int .i64 x26_1] (fun k_ => oki24 k_ ∨ ((fun k_ => some k_ ≠ (.slice (some ad310) t302.length co12 : Value).ownBlock)) k_ ∧ wr.heap.size ≤ k_) (fun _ => False) rfl rfl ?aP (fun _ hk => hk.elim) ?aF ?aO ?aB ?aS ?aL ?_; (case aP => exact rfl); (case aB => exact (by repeat (first | (with_reducible first | exact HB.out | apply below_alloc | apply pw_below_drewN | apply below_drew1 | refine below_set ?_ GE301.out) | exact HB.out))); (case aF => exact (fun k_ hk => .inr ⟨Kd.fresh' (Kd.R_lt (by (with_reducible repeat (first | apply Kd.R_alloc | apply Kd.R_drewN | apply Kd.R_drew)); exact HO_24.out)) k_ hk, hk⟩)); (case aO => exact (by (with_reducible repeat (first | apply Kd.R_alloc | apply Kd.R_drewN | apply Kd.R_drew)); exact Kd.R_mono UU24.out (fun _ hk => .inl hk))); (case aS => exact (below_size (by repeat (first | (with_reducible first | exact HB.out | apply below_alloc | apply pw_below_drewN | apply below_drew1 | refine below_set ?_ GE301.out) | exact HB.out)))); (case aL => have := LMc21.out; omega); intro v313 w25 ho hb hg hat; rw [← Ny312.out] at ho; have n0_ := Aside0.mk (Kd.R_grown2 (by (with_reducible repeat (first | apply Kd.R_alloc | apply Kd.R_drewN | apply Kd.R_drew)); exact HO_24.out) rfl hg (fun k_ e_ => (HL311_0.out.1 k_ e_).1)); have n1_ := Aside0.mk (blk_grown (g := gb301) (o := .cells #[.int .i64 a0_0, .slice A0_1 l0_1.length c0_1] 24 (0, 0)) (by (with_reducible repeat (first | refine blk_drewN ?_ _ | refine blk_drew ?_ | refine blk_alloc ?_ _)); exact BK301.out) hg (Kd.R_ne HL311_0.out BK301.out (by decide))); have n2_ := Aside0.mk (hb); have n3_ := Aside0.mk (Kd.H_grown (Kd.H_widen (by repeat (first | exact HH24.out | refine Kd.H_alloc ?_ _ | refine Kd.H_drewN ?_ _ | refine Kd.H_drew ?_))) hg (fun k_ e_ => .inl (UU24.out.1 k_ e_))); have n4_ := Aside0.mk (ho); clear HO_24; clear BK301; clear HB; clear HH24; clear HO_8; clear UU24; clear HL311_0; have HO_24 := n0_; have BK301 := n1_; have HB := n2_; have HH24 := n3_; have HO314 := n4_; clear n0_ n1_ n2_ n3_ n4_; clear ho hb hg hat; have p22 : 0 ≤ ((rd t302 x26_1) : Int) := of_decide_eq_true (by first | (with_reducible assumption) | assumption); have q22 : ((rd t302 x26_1) : Int) < ((x8_1.length : Int) : Int) := of_decide_eq_true (by first | (with_reducible assumption) | assumption); replace p22 := eq_true p22; replace q22 := eq_true q22; obtain ⟨Ao28, co28, eo28⟩ := Kd.R_slice HO314.out; subst eo28; obtain ⟨_, _, hraw26, _, _, hcc26, _⟩ := Kd.H_raw HH24.out (of_decide_eq_true (by first | (with_reducible assumption) | assumption)) (by have h_ : ((rd t302 x26_1) : Int) < ((x8_1.length : Int) : Int) := of_decide_eq_true (by first | (with_reducible assumption) | assumption); first | exact h_ | (have e_ := (HN24.out); omega) | simpa using h_); obtain ⟨_, hfr26⟩ := Kd.H_at HH24.out (of_decide_eq_true (by first | (with_reducible assumption) | assumption)) (by have h_ : ((rd t302 x26_1) : Int) < ((x8_1.length : Int) : Int) := of_decide_eq_true (by first | (with_reducible assumption) | assumption); first | exact h_ | (have e_ := (HN24.out); omega) | simpa using h_); have hx26_0 := hcc26 0 _ rfl; have hf26_0 := hfr26 0; (try simp only [Nat.add_zero] at hx26_0 hf26_0); (try rw [show ((Kd.slice 3 (Kd.int .i64))).sz = 1 from rfl, Nat.mul_one] at hx26_0); (try rw [show ((Kd.slice 3 (Kd.int .i64))).sz = 1 from rfl, Nat.mul_one] at hf26_0); have HP26 := Kd.S_seg0 HH24.out (of_decide_eq_true (by first | (with_reducible assumption) | assumption)) (by have h_ : ((rd t302 x26_1) : Int) < ((x8_1.length : Int) : Int) := of_decide_eq_true (by first | (with_reducible assumption) | assumption); first | exact h_ | (have e_ := (HN24.out); omega) | simpa using h_) (seg := [.slice Ao28 y312.length co28]) (j := 0) (show 1 ≤ 1 from by decide) (x' := y312) (Kd.M_row HO314.out) (fun _ hk => hk); (try simp only [show ((Kd.slice 3 (Kd.int .i64))).sz = 1 from rfl, Nat.mul_one, Nat.add_zero] at HP26); clear hcc26 hfr26) | ((with_reducible refine gate_store (t := 25) (p := 40) rfl ?_); refine store_event (t := 25) (p := 40) (v := ?vo_w27) (w1 := (w25.setCell ⟨go24, ((rd t302 x26_1) : Int).toNat, none⟩ (.slice Ao28 y312.length co28))) ?hg ?ho ?hn ?hr ?_; (case ho => rfl); (case hg => rfl); (case hn => rfl); (case hr => first | (go_simp; done) | (go_simp; rfl)); intro w27 hw; have hg : w25.grownBy w27 (some go24) := (by rw [hw]; exact HP26.2); have hp_ : Kd.S (Kd.slice 3 (Kd.int .i64)) 25 w27 w.heap.size (fun k_ => some k_ ≠ (.slice (some ad310) t302.length co12 : Value).ownBlock) (.slice (some ⟨go24, 0, none⟩) x8_1.length co23) y315 := (by rw [hw, Ny315.out]; exact HP26.1); clear HP26; have n0_ := Aside0.mk (Kd.R_over' (v := (.slice (some ⟨go24, 0, none⟩) x8_1.length co23)) (by (with_reducible repeat (first | apply Kd.R_alloc | apply Kd.R_drewN | apply Kd.R_drew)); exact HO_24.out) (Kd.R_typed hraw26) (by decide) hg); have n1_ := Aside0.mk (blk_grown (g := gb301) (o := .cells #[.int .i64 a0_0, .slice A0_1 l0_1.length c0_1] 24 (0, 0)) (by (with_reducible repeat (first | refine blk_drewN ?_ _ | refine blk_drew ?_ | refine blk_alloc ?_ _)); exact BK301.out) hg (Kd.R_ne hraw26 BK301.out (by decide))); have n2_ := Aside0.mk ((by rw [hw]; exact below_set HB.out GB24.out : Below w.heap.size w w27)); have n3_ := Aside0.mk (hp_); clear HO_24; clear BK301; clear HB; clear HO314; clear HH24; have HO_24 := n0_; have BK301 := n1_; have HB := n2_; have HO_8 := n3_; clear n0_ n1_ n2_ n3_; clear hg hw hp_ hraw26))
            go_roundg k1
            case measure => have := HK1.out; omega
            case rel => exact ⟨(y315), (wrap64 (x26_1 + 1)), (by first | rfl | (simp; done) | (simp [*]; done)), H', ⟨by have := HK1.out; omega⟩, ⟨by (with_reducible repeat (first | apply Kd.S_alloc | apply Kd.S_drewN | apply Kd.S_drew)); exact HO_8.out⟩, ⟨by (with_reducible repeat (first | apply Kd.R_alloc | apply Kd.R_drewN | apply Kd.R_drew)); exact HO_24.out⟩, ⟨by (with_reducible repeat (first | refine blk_drewN ?_ _ | refine blk_drew ?_ | refine blk_alloc ?_ _)); exact BK301.out⟩, ⟨by repeat (first | (with_reducible first | exact HB.out | apply below_alloc | apply pw_below_drewN | apply below_drew1 | refine below_set ?_ GE301.out) | exact HB.out)⟩⟩
           ·rw [if_neg c21] at H
            exact absurd H (by simp)
          ·rw [if_neg c20] at H
           exact absurd H (by simp)
         ·rw [if_neg c19] at H
          exact absurd H (by simp)
        ·rw [if_neg c18] at H
         exact absurd H (by simp)
       ·rw [if_neg c17] at H
        exact absurd H (by simp)
      ·rw [if_neg c16] at H
       have c16b0 : decide (x26_1 < (t302.length : Int)) = false := decide_eq_false c16
       clear c16
       simp only [Option.some.injEq, Prod.mk.injEq] at H
       obtain ⟨rfl, rfl⟩ := H
       go_wp2
       go_ret2
       exact ⟨_, by first | rfl | (simp [errW_none, errW_some] <;> rfl) | (simp only [← hji6]; first | rfl | (simp [errW_none, errW_some] <;> rfl)) | (simp [*, errW_none, errW_some] <;> rfl), by (with_reducible repeat (first | apply Kd.S_alloc | apply Kd.S_drewN | apply Kd.S_drew)); exact Kd.S_mono HO_8.out (fun _ hk => trivial), by repeat (first | (with_reducible first | exact HB.out | apply below_alloc | apply pw_below_drewN | apply below_drew1 | refine below_set ?_ GE301.out) | exact HB.out)⟩
   ·rw [if_neg c8] at H
    exact absurd H (by simp)
  ·rw [if_neg c7] at H
   exact absurd H (by simp)
 ·rw [if_neg c4] at H
  have c4b0 : (t305 == 0) = false := beq_eq_false_iff_ne.mpr c4
  have c4b1 : (t305 != 0) = true := bne_iff_ne.mpr c4
  simp only [Option.some.injEq, Prod.mk.injEq] at H
  obtain ⟨rfl, rfl⟩ := H
  go_enter Try.func42, Try.ntmps42
  go_wp2_with (first | ((with_reducible refine gate_dst (N := 2) rfl ?_); refine box_event ?hg (N := 2) ?hd (cs := #[.int .i64 a0_0, .slice A0_1 l0_1.length c0_1]) (t := 24) ?hr ?_; (case hd => rfl); (case hg => rfl); (case hr => first | (go_simp; done) | (go_simp; rfl)); intro gb301 hg w29 hbox hb; have n0_ := Aside0.mk (below_step (by repeat (first | (with_reducible first | exact HB.out | apply below_alloc | apply pw_below_drewN | apply below_drew1) | exact HB.out)) hb); have n1_ := Aside0.mk (hbox); have n2_ := Aside0.mk ((by rw [hg]; exact (below_size (by repeat (first | (with_reducible first | exact HB.out | apply below_alloc | apply pw_below_drewN | apply below_drew1) | exact HB.out))) : w.heap.size ≤ gb301)); have n3_ := Aside0.mk ((by rw [hg]; exact (below_size (by repeat (first | (with_reducible first | exact HB.out | apply below_alloc | apply pw_below_drewN | apply below_drew1) | exact HB.out))) : w.heap.size ≤ gb301)); clear HB; have HB := n0_; have BK301 := n1_; have GW301 := n2_; have GE301 := n3_; clear n0_ n1_ n2_ n3_; clear hb hbox hg; have hcz30_0 : w29.cell? ⟨gb301, 0, none⟩ = some (.int .i64 a0_0) := (blk_cell BK301.out 0).trans rfl; have hcz30_1 : w29.cell? ⟨gb301, 1, none⟩ = some (.slice A0_1 l0_1.length c0_1) := (blk_cell BK301.out 1).trans rfl; have hfz30_0 := blk_frozen BK301.out 0; have hfz30_1 := blk_frozen BK301.out 1) | ((with_reducible refine gate_callee (f := 30) rfl ?_); refine goesL_ (some 14) rfl rfl Try.func30 (by kernel_rfl) rfl #[.agg #[.int .i64 a0_0, .slice A0_1 l0_1.length c0_1], .slice A1 l1.length c1] rfl (by (try simp only [List.map_toArray, List.map_cons, List.map_nil]); first | done | rfl | (simp only [List.length_drop, List.length_take]; rfl)) ?_; (with_reducible refine (island_Of.calls k a0_0 _ _ l0_1 _ _ l1 t302 t305 _ ?side1 ?side2 ?side3 ?side4 A3.out).mono ?_); (case side1 => repeat (first | exact (Kd.C_below HR0_1.out HB.out) | (with_reducible refine Kd.C_alloc ?_ _) | (with_reducible refine Kd.C_drewN ?_ _) | (with_reducible refine Kd.C_drew ?_))); (case side2 => exact HC0_1.out); (case side3 => repeat (first | exact (Kd.C_below HR1.out HB.out) | (with_reducible refine Kd.C_alloc ?_ _) | (with_reducible refine Kd.C_drewN ?_ _) | (with_reducible refine Kd.C_drew ?_))); (case side4 => exact HC1.out); rintro e w31 ⟨v303, rfl, ho0, hb⟩; refine ⟨_, rfl, ?_⟩; have n0_ := Aside0.mk (Kd.R_lower ho0 (below_size (by repeat (first | (with_reducible first | exact HB.out | apply below_alloc | apply pw_below_drewN | apply below_drew1 | refine below_set ?_ GE301.out) | exact HB.out)))); have n1_ := Aside0.mk (blk_below (g := gb301) (o := .cells #[.int .i64 a0_0, .slice A0_1 l0_1.length c0_1] 24 (0, 0)) (by (with_reducible repeat (first | refine blk_drewN ?_ _ | refine blk_drew ?_ | refine blk_alloc ?_ _)); exact BK301.out) hb); have n2_ := Aside0.mk (below_step (by repeat (first | (with_reducible first | exact HB.out | apply below_alloc | apply pw_below_drewN | apply below_drew1 | refine below_set ?_ GE301.out) | exact HB.out)) hb); clear BK301; clear HB; have HO304 := n0_; have BK301 := n1_; have HB := n2_; clear n0_ n1_ n2_; (try clear hb); (try clear hb2); (try clear hk); (try clear hi); (try clear ho0)))
  go_ret2
  exact ⟨_, by first | rfl | (simp [errW_none, errW_some] <;> rfl) | (simp [*, errW_none, errW_some] <;> rfl), by first | exact Kd.S_nil _ _ _ _ _ | exact Kd.N_nil _ _ _ _ _ | exact Kd.V_nil _ _ _ _ _ | exact Kd.Q_nil _ _ _ _ _ | exact Kd.R_nil _ _ _ _ _, by repeat (first | (with_reducible first | exact HB.out | apply below_alloc | apply pw_below_drewN | apply below_drew1 | refine below_set ?_ GE301.out) | exact HB.out)⟩

end Go.Proofs.Ytdpgdelimffjpaa.P

namespace Go.Proofs.Ytdpgdelimffjpaa.P
open Go.RowKit Go.Proofs.YtdpgdelimffjpaaW.PrintWords Go.Proofs.YtdpgdelimffjpaaW.PrintLast Go.Proofs.YtdpgdelimffjpaaW.PrintMore
attribute [local go_sem] max2_int min2_int max_two min_two max_three min_three max_four min_four   -- for this text's walks alone
set_option linter.unusedVariables false
set_option linter.unusedSimpArgs false

/-! ### pylonref15_Rows: function 44 -/
def pylonref15_Rows.l0 : Nat → List (List Int) → List (List Int) → Int → Option (Bool)
 | 0, _, _, _ => none
 | k + 1, x0, x1, x5 => if x5 < (x0.length : Int) then (if 0 ≤ x5 then (if x5 < (x1.length : Int) then ((pylonref14_Ints.f k (rd_L1 x0 x5) (rd_L1 x1 x5)).bind fun t323 => (if t323 = true then (pylonref15_Rows.l0 k x0 x1 (wrap64 (x5 + 1))) else (some false))) else (none)) else (none)) else (some true)
def pylonref15_Rows.f (k : Nat) (l0 : List (List Int)) (l1 : List (List Int)) : Option (Bool) := if (l0.length : Int) = (l1.length : Int) then (pylonref15_Rows.l0 k l0 l1 0) else (some false)
set_option maxHeartbeats 8000000 in
set_option maxRecDepth 100000 in
theorem pylonref15_Rows.calls (k : Nat) (A0 : Option Addr) (c0 : Nat) (l0 : List (List Int)) (A1 : Option Addr) (c1 : Nat) (l1 : List (List Int)) (r : Bool) (w : World) (hr0 : Kd.C (Kd.slice 3 (Kd.int .i64)) w A0 l0.length l0) (hc0 : l0.length ≤ c0) (hr1 : Kd.C (Kd.slice 3 (Kd.int .i64)) w A1 l1.length l1) (hc1 : l1.length ≤ c1) (h : pylonref15_Rows.f k l0 l1 = some r) :
  Calls Try.prog 44 #[.slice A0 l0.length c0, .slice A1 l1.length c1] w fun e w' => e = .returned (.bool r) ∧ Drawn0 w w' := by
 have HR0 := Aside0.mk hr0
 have HC0 := Aside0.mk hc0
 clear hr0 hc0
 have HR1 := Aside0.mk hr1
 have HC1 := Aside0.mk hc1
 clear hr1 hc1
 have H : (if (l0.length : Int) = (l1.length : Int) then (pylonref15_Rows.l0 k l0 l1 0) else (some false)) = some r := h
 clear h
 by_cases c3 : (l0.length : Int) = (l1.length : Int)
 ·rw [if_pos c3] at H
  have c3b0 : ((l0.length : Int) == (l1.length : Int)) = true := beq_iff_eq.mpr c3
  have c3b1 : ((l0.length : Int) != (l1.length : Int)) = false := bne_eq_false_iff_eq.mpr c3
  have c3b2 : (l0.length == l1.length) = true := by first | simpa using c3 | (simp at c3 ⊢; omega)
  clear c3
  have H' := Aside0.mk H
  clear H
  go_enter Try.func44, Try.ntmps44
  go_wp2
  repeat (go_quiet (fail); try go_wp2)
  go_loopg [5] k (fun kq v5 w' => ∃ (x5_1 : Int), v5 = .int .i64 x5_1 ∧ Aside0 (pylonref15_Rows.l0 kq l0 l1 x5_1 = some r) ∧ Aside0 (kq ≤ k) ∧ Drawn0 w w')
  case atStart => exact ⟨(0), (by first | rfl | (simp; done) | (simp [*]; done)), H', ⟨Nat.le_refl _⟩, by repeat (first | exact Drawn0.refl _ | apply Drawn0.step)⟩
  case round =>
   clear H'; (try clear c1); (try clear p2); (try clear c3); (try clear c3b0); (try clear c3b1); (try clear c3b2)
   obtain ⟨x5_1, rfl, HA, HK1, ⟨m1, rfl⟩⟩ := hrel
   cases gk with
   | zero => exact absurd HA.out (by simp [pylonref15_Rows.l0])
   | succ k1 =>
    have H := HA.out
    clear HA
    simp only [pylonref15_Rows.l0] at H
    by_cases c4 : x5_1 < (l0.length : Int)
    ·rw [if_pos c4] at H
     have c4b0 : decide (x5_1 < (l0.length : Int)) = true := decide_eq_true c4
     clear c4
     by_cases c5 : 0 ≤ x5_1
     ·rw [if_pos c5] at H
      have c5b0 : decide (0 ≤ x5_1) = true := decide_eq_true c5
      clear c5
      by_cases c6 : x5_1 < (l1.length : Int)
      ·rw [if_pos c6] at H
       have c6b0 : decide (x5_1 < (l1.length : Int)) = true := decide_eq_true c6
       clear c6
       replace H := Option.bind_eq_some_iff.mp H
       obtain ⟨t323, A70, H⟩ := H
       replace H : (if t323 = true then (pylonref15_Rows.l0 k1 l0 l1 (wrap64 (x5_1 + 1))) else (some false)) = some r := H
       have A7 := Aside0.mk A70
       clear A70
       by_cases c8 : t323 = true
       ·subst c8
        have H1 : (pylonref15_Rows.l0 k1 l0 l1 (wrap64 (x5_1 + 1))) = some r := by rw [if_pos rfl] at H; exact H
        clear H
        have H := H1
        clear H1
        have H' := Aside0.mk H
        clear H
        have p321 : 0 ≤ (x5_1 : Int) := of_decide_eq_true (by first | (with_reducible assumption) | assumption)
        have q321 : x5_1 < (l0.length : Int) := of_decide_eq_true (by first | (with_reducible assumption) | assumption)
        obtain ⟨ad321, A321_0, c321_0, e321, hx321_0, hl321_0, hi321_0⟩ := at_L1 HR0.out x5_1 p321 q321
        cases e321
        have HR321_0 := Aside0.mk hi321_0
        have HC321_0 := Aside0.mk hl321_0
        clear hi321_0 hl321_0
        replace p321 := eq_true p321
        replace q321 := eq_true q321
        have p322 : 0 ≤ (x5_1 : Int) := of_decide_eq_true (by first | (with_reducible assumption) | assumption)
        have q322 : x5_1 < (l1.length : Int) := of_decide_eq_true (by first | (with_reducible assumption) | assumption)
        obtain ⟨ad322, A322_0, c322_0, e322, hx322_0, hl322_0, hi322_0⟩ := at_L1 HR1.out x5_1 p322 q322
        cases e322
        have HR322_0 := Aside0.mk hi322_0
        have HC322_0 := Aside0.mk hl322_0
        clear hi322_0 hl322_0
        replace p322 := eq_true p322
        replace q322 := eq_true q322
        go_wp2_with (first | (go_at_call 36; (with_reducible refine (pylonref14_Ints.calls k1 _ _ (rd_L1 l0 x5_1) _ _ (rd_L1 l1 x5_1) true _ ?side1 ?side2 ?side3 ?side4 A7.out).mono ?_); (case side1 => repeat (first | exact HR321_0.out | (with_reducible refine Kd.C_alloc ?_ _) | (with_reducible refine Kd.C_drewN ?_ _) | (with_reducible refine Kd.C_drew ?_))); (case side2 => exact HC321_0.out); (case side3 => repeat (first | exact HR322_0.out | (with_reducible refine Kd.C_alloc ?_ _) | (with_reducible refine Kd.C_drewN ?_ _) | (with_reducible refine Kd.C_drew ?_))); (case side4 => exact HC322_0.out); rintro e w' ⟨rfl, ⟨nd, rfl⟩⟩; (try first | exact ⟨rfl, _, World.drewN_drewN _ _ _⟩ | exact ⟨rfl, _, Eq.trans (World.drewN_drewN _ _ _) (congrArg (World.drewN _) (Nat.add_assoc _ _ _))⟩)))
        repeat (go_quiet (first | (go_at_call 36; (with_reducible refine (pylonref14_Ints.calls k1 _ _ (rd_L1 l0 x5_1) _ _ (rd_L1 l1 x5_1) true _ ?side1 ?side2 ?side3 ?side4 A7.out).mono ?_); (case side1 => repeat (first | exact HR321_0.out | (with_reducible refine Kd.C_alloc ?_ _) | (with_reducible refine Kd.C_drewN ?_ _) | (with_reducible refine Kd.C_drew ?_))); (case side2 => exact HC321_0.out); (case side3 => repeat (first | exact HR322_0.out | (with_reducible refine Kd.C_alloc ?_ _) | (with_reducible refine Kd.C_drewN ?_ _) | (with_reducible refine Kd.C_drew ?_))); (case side4 => exact HC322_0.out); rintro e w' ⟨rfl, ⟨nd, rfl⟩⟩; (try first | exact ⟨rfl, _, World.drewN_drewN _ _ _⟩ | exact ⟨rfl, _, Eq.trans (World.drewN_drewN _ _ _) (congrArg (World.drewN _) (Nat.add_assoc _ _ _))⟩))); try go_wp2_with (first | (go_at_call 36; (with_reducible refine (pylonref14_Ints.calls k1 _ _ (rd_L1 l0 x5_1) _ _ (rd_L1 l1 x5_1) true _ ?side1 ?side2 ?side3 ?side4 A7.out).mono ?_); (case side1 => repeat (first | exact HR321_0.out | (with_reducible refine Kd.C_alloc ?_ _) | (with_reducible refine Kd.C_drewN ?_ _) | (with_reducible refine Kd.C_drew ?_))); (case side2 => exact HC321_0.out); (case side3 => repeat (first | exact HR322_0.out | (with_reducible refine Kd.C_alloc ?_ _) | (with_reducible refine Kd.C_drewN ?_ _) | (with_reducible refine Kd.C_drew ?_))); (case side4 => exact HC322_0.out); rintro e w' ⟨rfl, ⟨nd, rfl⟩⟩; (try first | exact ⟨rfl, _, World.drewN_drewN _ _ _⟩ | exact ⟨rfl, _, Eq.trans (World.drewN_drewN _ _ _) (congrArg (World.drewN _) (Nat.add_assoc _ _ _))⟩))))
        go_roundg k1
        case measure => have := HK1.out; omega
        case rel => exact ⟨(wrap64 (x5_1 + 1)), (by first | rfl | (simp; done) | (simp [*]; done)), H', ⟨by have := HK1.out; omega⟩, by repeat (first | exact Drawn0.refl _ | apply Drawn0.step)⟩
       ·replace c8 := Bool.eq_false_iff.mpr c8
        subst c8
        have H1 : (some false) = some r := by rw [if_neg (show ¬ (false = true) by decide)] at H; exact H
        clear H
        have H := H1
        clear H1
        obtain rfl := Option.some.inj H
        have p321 : 0 ≤ (x5_1 : Int) := of_decide_eq_true (by first | (with_reducible assumption) | assumption)
        have q321 : x5_1 < (l0.length : Int) := of_decide_eq_true (by first | (with_reducible assumption) | assumption)
        obtain ⟨ad321, A321_0, c321_0, e321, hx321_0, hl321_0, hi321_0⟩ := at_L1 HR0.out x5_1 p321 q321
        cases e321
        have HR321_0 := Aside0.mk hi321_0
        have HC321_0 := Aside0.mk hl321_0
        clear hi321_0 hl321_0
        replace p321 := eq_true p321
        replace q321 := eq_true q321
        have p322 : 0 ≤ (x5_1 : Int) := of_decide_eq_true (by first | (with_reducible assumption) | assumption)
        have q322 : x5_1 < (l1.length : Int) := of_decide_eq_true (by first | (with_reducible assumption) | assumption)
        obtain ⟨ad322, A322_0, c322_0, e322, hx322_0, hl322_0, hi322_0⟩ := at_L1 HR1.out x5_1 p322 q322
        cases e322
        have HR322_0 := Aside0.mk hi322_0
        have HC322_0 := Aside0.mk hl322_0
        clear hi322_0 hl322_0
        replace p322 := eq_true p322
        replace q322 := eq_true q322
        go_wp2_with (first | (go_at_call 36; (with_reducible refine (pylonref14_Ints.calls k1 _ _ (rd_L1 l0 x5_1) _ _ (rd_L1 l1 x5_1) false _ ?side1 ?side2 ?side3 ?side4 A7.out).mono ?_); (case side1 => repeat (first | exact HR321_0.out | (with_reducible refine Kd.C_alloc ?_ _) | (with_reducible refine Kd.C_drewN ?_ _) | (with_reducible refine Kd.C_drew ?_))); (case side2 => exact HC321_0.out); (case side3 => repeat (first | exact HR322_0.out | (with_reducible refine Kd.C_alloc ?_ _) | (with_reducible refine Kd.C_drewN ?_ _) | (with_reducible refine Kd.C_drew ?_))); (case side4 => exact HC322_0.out); rintro e w' ⟨rfl, ⟨nd, rfl⟩⟩; (try first | exact ⟨rfl, _, World.drewN_drewN _ _ _⟩ | exact ⟨rfl, _, Eq.trans (World.drewN_drewN _ _ _) (congrArg (World.drewN _) (Nat.add_assoc _ _ _))⟩)))
        repeat (go_quiet (first | (go_at_call 36; (with_reducible refine (pylonref14_Ints.calls k1 _ _ (rd_L1 l0 x5_1) _ _ (rd_L1 l1 x5_1) false _ ?side1 ?side2 ?side3 ?side4 A7.out).mono ?_); (case side1 => repeat (first | exact HR321_0.out | (with_reducible refine Kd.C_alloc ?_ _) | (with_reducible refine Kd.C_drewN ?_ _) | (with_reducible refine Kd.C_drew ?_))); (case side2 => exact HC321_0.out); (case side3 => repeat (first | exact HR322_0.out | (with_reducible refine Kd.C_alloc ?_ _) | (with_reducible refine Kd.C_drewN ?_ _) | (with_reducible refine Kd.C_drew ?_))); (case side4 => exact HC322_0.out); rintro e w' ⟨rfl, ⟨nd, rfl⟩⟩; (try first | exact ⟨rfl, _, World.drewN_drewN _ _ _⟩ | exact ⟨rfl, _, Eq.trans (World.drewN_drewN _ _ _) (congrArg (World.drewN _) (Nat.add_assoc _ _ _))⟩))); try go_wp2_with (first | (go_at_call 36; (with_reducible refine (pylonref14_Ints.calls k1 _ _ (rd_L1 l0 x5_1) _ _ (rd_L1 l1 x5_1) false _ ?side1 ?side2 ?side3 ?side4 A7.out).mono ?_); (case side1 => repeat (first | exact HR321_0.out | (with_reducible refine Kd.C_alloc ?_ _) | (with_reducible refine Kd.C_drewN ?_ _) | (with_reducible refine Kd.C_drew ?_))); (case side2 => exact HC321_0.out); (case side3 => repeat (first | exact HR322_0.out | (with_reducible refine Kd.C_alloc ?_ _) | (with_reducible refine Kd.C_drewN ?_ _) | (with_reducible refine Kd.C_drew ?_))); (case side4 => exact HC322_0.out); rintro e w' ⟨rfl, ⟨nd, rfl⟩⟩; (try first | exact ⟨rfl, _, World.drewN_drewN _ _ _⟩ | exact ⟨rfl, _, Eq.trans (World.drewN_drewN _ _ _) (congrArg (World.drewN _) (Nat.add_assoc _ _ _))⟩))))
        go_ret
        exact ⟨by first | rfl | (simp; done) | (simp [*]; done), by repeat (first | exact Drawn0.refl _ | apply Drawn0.step)⟩
      ·rw [if_neg c6] at H
       exact absurd H (by simp)
     ·rw [if_neg c5] at H
      exact absurd H (by simp)
    ·rw [if_neg c4] at H
     have c4b0 : decide (x5_1 < (l0.length : Int)) = false := decide_eq_false c4
     clear c4
     obtain rfl := Option.some.inj H
     go_wp2
     repeat (go_quiet (fail); try go_wp2)
     go_ret
     exact ⟨by first | rfl | (simp; done) | (simp [*]; done), by repeat (first | exact Drawn0.refl _ | apply Drawn0.step)⟩
 ·rw [if_neg c3] at H
  have c3b0 : ((l0.length : Int) == (l1.length : Int)) = false := beq_eq_false_iff_ne.mpr c3
  have c3b1 : ((l0.length : Int) != (l1.length : Int)) = true := bne_iff_ne.mpr c3
  have c3b2 : (l0.length == l1.length) = false := by first | simpa using c3 | (simp at c3 ⊢; omega)
  obtain rfl := Option.some.inj H
  go_enter Try.func44, Try.ntmps44
  go_wp2
  repeat (go_quiet (fail); try go_wp2)
  go_ret
  exact ⟨by first | rfl | (simp; done) | (simp [*]; done), by repeat (first | exact Drawn0.refl _ | apply Drawn0.step)⟩

end Go.Proofs.Ytdpgdelimffjpaa.P

namespace Go.Proofs.Ytdpgdelimffjpaa.P
open Go.RowKit Go.Proofs.YtdpgdelimffjpaaW.PrintWords Go.Proofs.YtdpgdelimffjpaaW.PrintLast Go.Proofs.YtdpgdelimffjpaaW.PrintMore
attribute [local go_sem] max2_int min2_int max_two min_two max_three min_three max_four min_four   -- for this text's walks alone
set_option linter.unusedVariables false
set_option linter.unusedSimpArgs false

theorem eqA37 (d : Nat) (w : World) (x0 y0 : Int) (x1 y1 : Int) (x2 y2 : Int) (x3 y3 : Int) :
  (Op.equalIn (d + 2) 37 (.agg #[.int .i64 x0, .int .i64 x1, .int .i64 x2, .int .i64 x3]) (.agg #[.int .i64 y0, .int .i64 y1, .int .i64 y2, .int .i64 y3])).run Try.prog w = .ok (x0 == y0 && (x1 == y1 && (x2 == y2 && (x3 == y3)))) w := by
 refine eqA_of Try.underlying37 (by kernel_rfl) ?_
 refine eqf_cons (by rfl) (by go_simp; rfl) (by go_simp; rfl) (by go_simp) ?_
 refine eqf_cons (by rfl) (by go_simp; rfl) (by go_simp; rfl) (by go_simp) ?_
 refine eqf_cons (by rfl) (by go_simp; rfl) (by go_simp; rfl) (by go_simp) ?_
 exact eqf_last (by rfl) (by go_simp; rfl) (by go_simp; rfl) (by go_simp)
end Go.Proofs.Ytdpgdelimffjpaa.P
