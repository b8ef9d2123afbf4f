-- Written by wip/drive.py (a prover's driver over the kit's print.py); hand-proved contracts stand among the printed ones. Lean checks it.
import Derived.Test.YtdpgdelimffjpaaFBase
import Derived.Test.YtdpgdelimffjpaaF31
import Derived.Test.YtdpgdelimffjpaaF59
import Derived.Test.YtdpgdelimffjpaaF66
import Derived.Test.YtdpgdelimffjpaaF71
import Derived.Test.YtdpgdelimffjpaaFA
namespace Go.Proofs.Ytdpgdelimffjpaa.P
open Go.RowKit Go.Proofs.YtdpgdelimffjpaaW.PrintWords Go.Proofs.YtdpgdelimffjpaaW.PrintLast Go.Proofs.YtdpgdelimffjpaaW.PrintMore
attribute [local go_sem] max2_int min2_int max_two min_two max_three min_three max_four min_four   -- for this text's walks alone
set_option linter.unusedVariables false
set_option linter.unusedSimpArgs false

theorem V_atq {α : Type} {d : Kd α} {e : Nat} {W w' : World} {m base : Nat} {ok : Nat → Prop} {v : Value} {xs : List α} (hq : W.drewN m = w') (h : Kd.V d e W base ok v xs) : Kd.V d e w' base ok v xs := by subst hq; exact Kd.V_drewN h m
/-! ### pylonlaw14_NetEndpoints: function 22 -/
mutual
def pylonlaw14_NetEndpoints.j0 : Nat → List Int → Bool → Int → List (S37) → Option (Bool)
  | 0, _, _, _, _ => none
  | k + 1, x1, x27, x1207000, x1207001 => if x27 = true then ((pylonlaw14_awake.f).bind fun t1213 => (some t1213)) else ((net_In.f x1207000 x1207001 x1).bind fun bt1214 => (if bt1214.2 = 0 then (if 0 ≤ (x1207001.length : Int) then (if ((x1207001.length : Int) : Int).toNat ≤ 35184372088832 then (pylonlaw14_NetEndpoints.l0 k x1 bt1214.1 (List.replicate ((x1207001.length : Int) : Int).toNat 0) 0 0 x1207000 x1207001) else (none)) else (none)) else (some false)))
def pylonlaw14_NetEndpoints.l0 : Nat → List Int → List Int → List Int → Int → Int → Int → List (S37) → Option (Bool)
  | 0, _, _, _, _, _, _, _ => none
  | k + 1, x1, x5, x7, x8, x9, x1207000, x1207001 => if x9 < x1207000 then ((net_At.f x1207000 x1207001 x1 x9).bind fun bt1221 => (if bt1221.2 = 0 then (pylonlaw14_NetEndpoints.l1 k x1 x5 x7 x8 x9 bt1221.1 0 x1207000 x1207001) else (some false))) else (pylonlaw14_NetEndpoints.l2 k x5 x7 x8 0)
def pylonlaw14_NetEndpoints.l1 : Nat → List Int → List Int → List Int → Int → Int → List Int → Int → Int → List (S37) → Option (Bool)
  | 0, _, _, _, _, _, _, _, _, _ => none
  | k + 1, x1, x5, x7, x8, x9, x10, x12, x1207000, x1207001 => if x12 < (x10.length : Int) then (if 0 ≤ x12 then (if (rd x10 x12) < 0 then (some false) else (if (rd x10 x12) ≥ (x7.length : Int) then (some false) else (if x12 > 0 then (if 0 ≤ (wrap64 (x12 - 1)) then (if (wrap64 (x12 - 1)) < (x10.length : Int) then (if (rd x10 x12) ≤ (rd x10 (wrap64 (x12 - 1))) then (some false) else (if 0 ≤ (rd x10 x12) then (if (rd x10 x12) < (x7.length : Int) then (pylonlaw14_NetEndpoints.l1 k x1 x5 (x7.set ((rd x10 x12) : Int).toNat (wrap64 ((rd x7 (rd x10 x12)) + 1))) (wrap64 (x8 + 1)) x9 x10 (wrap64 (x12 + 1)) x1207000 x1207001) else (none)) else (none))) else (none)) else (none)) else (if 0 ≤ (rd x10 x12) then (if (rd x10 x12) < (x7.length : Int) then (pylonlaw14_NetEndpoints.l1 k x1 x5 (x7.set ((rd x10 x12) : Int).toNat (wrap64 ((rd x7 (rd x10 x12)) + 1))) (wrap64 (x8 + 1)) x9 x10 (wrap64 (x12 + 1)) x1207000 x1207001) else (none)) else (none))))) else (none)) else (pylonlaw14_NetEndpoints.l0 k x1 x5 x7 x8 (wrap64 (x9 + 1)) x1207000 x1207001)
def pylonlaw14_NetEndpoints.l2 : Nat → List Int → List Int → Int → Int → Option (Bool)
  | 0, _, _, _, _ => none
  | k + 1, x5, x7, x8, x13 => if x13 < (x5.length : Int) then (if 0 ≤ x13 then (if (rd x5 x13) < 0 then (some false) else (if (rd x5 x13) ≥ (x7.length : Int) then (some false) else (if 0 ≤ (rd x5 x13) then (if (rd x5 x13) < (x7.length : Int) then (if (rd x7 (rd x5 x13)) = 2 then (pylonlaw14_NetEndpoints.l2 k x5 x7 x8 (wrap64 (x13 + 1))) else (some false)) else (none)) else (none)))) else (none)) else (some (x8 == (wrap64 (2 * (x5.length : Int)))))
end
def pylonlaw14_NetEndpoints.f (k : Nat) (a0_0 : Int) (l0_1 : List (S37)) (l1 : List Int) : Option (Bool) := (pylonlaw14_Long.f k a0_0 l0_1 (([l1] : List (List Int)))).bind fun t1210 => (if t1210 = true then (pylonlaw14_NetEndpoints.j0 k l1 true a0_0 l0_1) else ((pylonlaw14_awake.f).bind fun t1211 => (if t1211 = true then ((net_Outs.f k a0_0 l0_1 l1).bind fun t1212 => (pylonlaw14_NetEndpoints.j0 k l1 (t1212 != 0) a0_0 l0_1)) else (pylonlaw14_NetEndpoints.j0 k l1 true a0_0 l0_1))))
theorem pylonlaw14_NetEndpoints.mono_l : ∀ k, (∀ y0 y1 y2 y3, LeO (pylonlaw14_NetEndpoints.j0 k y0 y1 y2 y3) (pylonlaw14_NetEndpoints.j0 (k + 1) y0 y1 y2 y3)) ∧ (∀ y0 y1 y2 y3 y4 y5 y6, LeO (pylonlaw14_NetEndpoints.l0 k y0 y1 y2 y3 y4 y5 y6) (pylonlaw14_NetEndpoints.l0 (k + 1) y0 y1 y2 y3 y4 y5 y6)) ∧ (∀ y0 y1 y2 y3 y4 y5 y6 y7 y8, LeO (pylonlaw14_NetEndpoints.l1 k y0 y1 y2 y3 y4 y5 y6 y7 y8) (pylonlaw14_NetEndpoints.l1 (k + 1) y0 y1 y2 y3 y4 y5 y6 y7 y8)) ∧ (∀ y0 y1 y2 y3, LeO (pylonlaw14_NetEndpoints.l2 k y0 y1 y2 y3) (pylonlaw14_NetEndpoints.l2 (k + 1) y0 y1 y2 y3))
  | 0 => ⟨fun _ _ _ _ r h => by simp [pylonlaw14_NetEndpoints.j0] at h, fun _ _ _ _ _ _ _ r h => by simp [pylonlaw14_NetEndpoints.l0] at h, fun _ _ _ _ _ _ _ _ _ r h => by simp [pylonlaw14_NetEndpoints.l1] at h, fun _ _ _ _ r h => by simp [pylonlaw14_NetEndpoints.l2] at h⟩
  | k + 1 => by
    obtain ⟨ih0, ih1, ih2, ih3⟩ := pylonlaw14_NetEndpoints.mono_l k
    refine ⟨?_, ?_, ?_, ?_⟩
    · intro y0 y1 y2 y3
      unfold pylonlaw14_NetEndpoints.j0
      repeat' first
      | (with_reducible exact ih0 _ _ _ _)
      | (with_reducible exact ih1 _ _ _ _ _ _ _)
      | (with_reducible exact ih2 _ _ _ _ _ _ _ _ _)
      | (with_reducible exact ih3 _ _ _ _)
      | (with_reducible exact net_Outs.mono _ _ _ _)
      | (with_reducible exact pylonlaw14_Long.mono _ _ _ _)
      | (with_reducible exact LeO.refl _)
      | (with_reducible exact LeO.none _)
      | (with_reducible refine LeO.ite ?_ ?_)
      | (with_reducible refine LeO.bind ?_ (fun _ => ?_))
      | exact ih0 _ _ _ _
      | exact ih1 _ _ _ _ _ _ _
      | exact ih2 _ _ _ _ _ _ _ _ _
      | exact ih3 _ _ _ _
      | exact net_Outs.mono _ _ _ _
      | exact pylonlaw14_Long.mono _ _ _ _
      | exact LeO.none _
      | refine LeO.ite ?_ ?_
      | refine LeO.bind ?_ (fun _ => ?_)
    · intro y0 y1 y2 y3 y4 y5 y6
      unfold pylonlaw14_NetEndpoints.l0
      repeat' first
      | (with_reducible exact ih0 _ _ _ _)
      | (with_reducible exact ih1 _ _ _ _ _ _ _)
      | (with_reducible exact ih2 _ _ _ _ _ _ _ _ _)
      | (with_reducible exact ih3 _ _ _ _)
      | (with_reducible exact net_Outs.mono _ _ _ _)
      | (with_reducible exact pylonlaw14_Long.mono _ _ _ _)
      | (with_reducible exact LeO.refl _)
      | (with_reducible exact LeO.none _)
      | (with_reducible refine LeO.ite ?_ ?_)
      | (with_reducible refine LeO.bind ?_ (fun _ => ?_))
      | exact ih0 _ _ _ _
      | exact ih1 _ _ _ _ _ _ _
      | exact ih2 _ _ _ _ _ _ _ _ _
      | exact ih3 _ _ _ _
      | exact net_Outs.mono _ _ _ _
      | exact pylonlaw14_Long.mono _ _ _ _
      | exact LeO.none _
      | refine LeO.ite ?_ ?_
      | refine LeO.bind ?_ (fun _ => ?_)
    · intro y0 y1 y2 y3 y4 y5 y6 y7 y8
      unfold pylonlaw14_NetEndpoints.l1
      repeat' first
      | (with_reducible exact ih0 _ _ _ _)
      | (with_reducible exact ih1 _ _ _ _ _ _ _)
      | (with_reducible exact ih2 _ _ _ _ _ _ _ _ _)
      | (with_reducible exact ih3 _ _ _ _)
      | (with_reducible exact net_Outs.mono _ _ _ _)
      | (with_reducible exact pylonlaw14_Long.mono _ _ _ _)
      | (with_reducible exact LeO.refl _)
      | (with_reducible exact LeO.none _)
      | (with_reducible refine LeO.ite ?_ ?_)
      | (with_reducible refine LeO.bind ?_ (fun _ => ?_))
      | exact ih0 _ _ _ _
      | exact ih1 _ _ _ _ _ _ _
      | exact ih2 _ _ _ _ _ _ _ _ _
      | exact ih3 _ _ _ _
      | exact net_Outs.mono _ _ _ _
      | exact pylonlaw14_Long.mono _ _ _ _
      | exact LeO.none _
      | refine LeO.ite ?_ ?_
      | refine LeO.bind ?_ (fun _ => ?_)
    · intro y0 y1 y2 y3
      unfold pylonlaw14_NetEndpoints.l2
      repeat' first
      | (with_reducible exact ih0 _ _ _ _)
      | (with_reducible exact ih1 _ _ _ _ _ _ _)
      | (with_reducible exact ih2 _ _ _ _ _ _ _ _ _)
      | (with_reducible exact ih3 _ _ _ _)
      | (with_reducible exact net_Outs.mono _ _ _ _)
      | (with_reducible exact pylonlaw14_Long.mono _ _ _ _)
      | (with_reducible exact LeO.refl _)
      | (with_reducible exact LeO.none _)
      | (with_reducible refine LeO.ite ?_ ?_)
      | (with_reducible refine LeO.bind ?_ (fun _ => ?_))
      | exact ih0 _ _ _ _
      | exact ih1 _ _ _ _ _ _ _
      | exact ih2 _ _ _ _ _ _ _ _ _
      | exact ih3 _ _ _ _
      | exact net_Outs.mono _ _ _ _
      | exact pylonlaw14_Long.mono _ _ _ _
      | exact LeO.none _
      | refine LeO.ite ?_ ?_
      | refine LeO.bind ?_ (fun _ => ?_)
theorem pylonlaw14_NetEndpoints.mono : ∀ a0 a1 a2 k, LeO (pylonlaw14_NetEndpoints.f k a0 a1 a2) (pylonlaw14_NetEndpoints.f (k + 1) a0 a1 a2) := by
  intro a0 a1 a2 k
  obtain ⟨ih0, ih1, ih2, ih3⟩ := pylonlaw14_NetEndpoints.mono_l k
  unfold pylonlaw14_NetEndpoints.f
  repeat' first
      | (with_reducible exact ih0 _ _ _ _)
      | (with_reducible exact ih1 _ _ _ _ _ _ _)
      | (with_reducible exact ih2 _ _ _ _ _ _ _ _ _)
      | (with_reducible exact ih3 _ _ _ _)
      | (with_reducible exact net_Outs.mono _ _ _ _)
      | (with_reducible exact pylonlaw14_Long.mono _ _ _ _)
      | (with_reducible exact LeO.refl _)
      | (with_reducible exact LeO.none _)
      | (with_reducible refine LeO.ite ?_ ?_)
      | (with_reducible refine LeO.bind ?_ (fun _ => ?_))
      | exact ih0 _ _ _ _
      | exact ih1 _ _ _ _ _ _ _
      | exact ih2 _ _ _ _ _ _ _ _ _
      | exact ih3 _ _ _ _
      | exact net_Outs.mono _ _ _ _
      | exact pylonlaw14_Long.mono _ _ _ _
      | exact LeO.none _
      | refine LeO.ite ?_ ?_
      | refine LeO.bind ?_ (fun _ => ?_)
set_option maxHeartbeats 8000000 in
set_option maxRecDepth 100000 in
theorem pylonlaw14_NetEndpoints.calls (k : Nat) (a0_0 : Int) (A0_1 : Option Addr) (c0_1 : Nat) (l0_1 : List (S37)) (P1_ : Nat → Prop) (A1 : Option Addr) (c1 : Nat) (l1 : List Int) (r : Bool) (w : World) (hr0_1 : Kd.C k37 w A0_1 l0_1.length l0_1) (hc0_1 : l0_1.length ≤ c0_1) (hs1 : Kd.V (Kd.int .i64) 3 w w.heap.size (fun k_ => P1_ k_) (.slice A1 l1.length c1) l1) (h : pylonlaw14_NetEndpoints.f k a0_0 l0_1 l1 = some r) :
    Calls Try.prog 22 #[.agg #[.int .i64 a0_0, .slice A0_1 l0_1.length c0_1], .slice A1 l1.length c1] w fun e w' => e = .returned (.bool r) ∧ Below w.heap.size w w' := by
  have hu24 := Try.underlying24
  have HR0_1 := Aside0.mk hr0_1
  have HC0_1 := Aside0.mk hc0_1
  clear hr0_1 hc0_1
  have HO1 := Aside0.mk (show Kd.V (Kd.int .i64) 3 w w.heap.size (fun k_ => (P1_ k_ ∨ w.heap.size ≤ k_)) (.slice A1 l1.length c1) l1 from Kd.V_mono hs1 (fun k_ hk => .inl hk))
  have HB := Aside0.mk (Below.refl w.heap.size w)
  have H : ((pylonlaw14_Long.f k a0_0 l0_1 (([l1] : List (List Int)))).bind fun t1210 => (if t1210 = true then (pylonlaw14_NetEndpoints.j0 k l1 true a0_0 l0_1) else ((pylonlaw14_awake.f).bind fun t1211 => (if t1211 = true then ((net_Outs.f k a0_0 l0_1 l1).bind fun t1212 => (pylonlaw14_NetEndpoints.j0 k l1 (t1212 != 0) a0_0 l0_1)) else (pylonlaw14_NetEndpoints.j0 k l1 true a0_0 l0_1))))) = some r := h
  clear h
  have HC3 := Aside0.mk H
  clear H
  go_enter Try.func22, Try.ntmps22
  go_upto_region 1 with (first | ((with_reducible refine gate_dst (N := 2) rfl ?_); (try (refine gate_guard (by rfl) ?_; dsimp only)); refine box_event ?hg (N := 2) ?hd (cs := #[.int .i64 a0_0, .slice A0_1 l0_1.length c0_1]) (t := 24) ?hr ?_; (case hd => rfl); (case hg => rfl); (case hr => first | (go_simp; done) | (go_simp; rfl)); intro gb1206 hg w4 hbox hb; have n0_ := Aside0.mk (Kd.V_below (Kd.V_elderB (by (with_reducible repeat (first | apply Kd.V_alloc | apply Kd.V_drewN | apply Kd.V_drew)); exact HO1.out) gb1206 (Nat.le_of_eq hg.symm)) hb); have n1_ := Aside0.mk (below_step (by repeat (first | (with_reducible first | exact HB.out | apply below_alloc | apply pw_below_drewN | apply below_drew1) | exact HB.out)) hb); have n2_ := Aside0.mk (hbox); have n3_ := Aside0.mk ((by rw [hg]; exact (below_size (by repeat (first | (with_reducible first | exact HB.out | apply below_alloc | apply pw_below_drewN | apply below_drew1) | exact HB.out))) : w.heap.size ≤ gb1206)); have n4_ := Aside0.mk ((by rw [hg]; exact (below_size (by repeat (first | (with_reducible first | exact HB.out | apply below_alloc | apply pw_below_drewN | apply below_drew1) | exact HB.out))) : w.heap.size ≤ gb1206)); clear HO1; clear HB; have HO1 := n0_; have HB := n1_; have BK1206 := n2_; have GW1206 := n3_; have GE1206 := n4_; clear n0_ n1_ n2_ n3_ n4_; clear hb hbox hg) | (go_quiet (fail)))
  (try simp only [Act.put, List.setIfInBounds_toArray, List.set_cons_zero, List.set_cons_succ])
  go_cut [27] (fun v27 wc => ∃ (kq : Nat) (x27_2 : Bool), v27 = .bool x27_2 ∧ Aside0 (pylonlaw14_NetEndpoints.j0 kq l1 x27_2 a0_0 l0_1 = some r) ∧ Aside0 (kq ≤ k) ∧ Aside0 (Kd.V (Kd.int .i64) 3 wc w.heap.size (fun k_ => (P1_ k_ ∨ w.heap.size ≤ k_) ∧ k_ ≠ gb1206) (.slice A1 l1.length c1) l1) ∧ Aside0 (wc.heap[gb1206]? = some (.cells #[.int .i64 a0_0, (.slice A0_1 l0_1.length c0_1)] 24 (0, 0))) ∧ Aside0 (Below w.heap.size w wc))
  case first =>
    have H := HC3.out
    clear HC3
    obtain ⟨y1207, hy1207⟩ : ∃ y_ : List (List Int), y_ = (([l1] : List (List Int))) := ⟨_, rfl⟩
    replace H : ((pylonlaw14_Long.f k a0_0 l0_1 y1207).bind fun t1210 => (if t1210 = true then (pylonlaw14_NetEndpoints.j0 k l1 true a0_0 l0_1) else ((pylonlaw14_awake.f).bind fun t1211 => (if t1211 = true then ((net_Outs.f k a0_0 l0_1 l1).bind fun t1212 => (pylonlaw14_NetEndpoints.j0 k l1 (t1212 != 0) a0_0 l0_1)) else (pylonlaw14_NetEndpoints.j0 k l1 true a0_0 l0_1))))) = some r := by first | (rw [hy1207]; with_reducible exact H) | (have H2_ := (Option.bind_some _ _).symm.trans H; rw [hy1207]; with_reducible exact H2_) | (have H2_ := (Option.bind_some _ _).symm.trans H; with_reducible exact H2_) | with_reducible exact H | (rw [hy1207]; exact H) | exact H
    have Ny1207 := Aside0.mk hy1207
    clear hy1207
    replace H := Option.bind_eq_some_iff.mp H
    obtain ⟨t1210, A50, H⟩ := H
    replace H : (if t1210 = true then (pylonlaw14_NetEndpoints.j0 k l1 true a0_0 l0_1) else ((pylonlaw14_awake.f).bind fun t1211 => (if t1211 = true then ((net_Outs.f k a0_0 l0_1 l1).bind fun t1212 => (pylonlaw14_NetEndpoints.j0 k l1 (t1212 != 0) a0_0 l0_1)) else (pylonlaw14_NetEndpoints.j0 k l1 true a0_0 l0_1)))) = some r := H
    have A5 := Aside0.mk A50
    clear A50
    by_cases c6 : t1210 = true
    · subst c6
      have H1 : (pylonlaw14_NetEndpoints.j0 k l1 true a0_0 l0_1) = some r := by rw [if_pos rfl] at H; exact H
      clear H
      have H := H1
      clear H1
      have H' := Aside0.mk H
      clear H
      have hcz7_0 : w4.cell? ⟨gb1206, 0, none⟩ = some (.int .i64 a0_0) := (blk_cell BK1206.out 0).trans rfl
      have hcz7_1 : w4.cell? ⟨gb1206, 1, none⟩ = some (.slice A0_1 l0_1.length c0_1) := (blk_cell BK1206.out 1).trans rfl
      have hfz7_0 := blk_frozen BK1206.out 0
      have hfz7_1 := blk_frozen BK1206.out 1
      go_wp2_with (first | ((with_reducible refine gate_dst (N := 16) rfl ?_); (try (refine gate_guard (by rfl) ?_; dsimp only)); refine Kd.N_lit (Kd.slice 3 (Kd.int .i64)) _ 25 ?hg (N' := 16) ?hd (xs := ([l1] : List (List Int))) (inner := [.slice A1 l1.length c1]) (ok := (fun k_ => (P1_ k_ ∨ w.heap.size ≤ k_) ∧ k_ ≠ gb1206)) (okp := (fun k_ => (P1_ k_ ∨ w.heap.size ≤ k_) ∧ k_ ≠ gb1206)) ?hr ?hp (fun _ hk => hk) ((show ∀ k_, w4.heap.size ≤ k_ → (fun k_ => (P1_ k_ ∨ w.heap.size ≤ k_) ∧ k_ ≠ gb1206) k_ from fun k_ hk => ⟨(.inr (Nat.le_trans (below_size (by repeat (first | (with_reducible first | exact HB.out | apply below_alloc | apply pw_below_drewN | apply below_drew1 | refine below_set ?_ GE1206.out) | exact HB.out))) hk)), Kd.freshB (g := gb1206) (o := .cells #[.int .i64 a0_0, .slice A0_1 l0_1.length c0_1] 24 (0, 0)) (by (with_reducible repeat (first | refine blk_drewN ?_ _ | refine blk_drew ?_ | refine blk_alloc ?_ _)); exact BK1206.out) k_ hk⟩) _ (Nat.le_refl _)) (Below.refl _ _) (Nat.le_refl _) (by simp) ?_; (case hd => rfl); (case hg => rfl); (case hr => first | (go_simp; done) | (go_simp; rfl)); (case hp => exact (Reps.one (show Kd.FK (Kd.slice 3 (Kd.int .i64)) _ _ l1 [.slice A1 l1.length c1] from (Kd.FK_slice_mk (Kd.V_reads' (Kd.V_mono (ok' := (fun k_ => (P1_ k_ ∨ w.heap.size ≤ k_) ∧ k_ ≠ gb1206)) (HO1.out) (fun k_ hk => ⟨hk.1, hk.2⟩))).2.1 (Kd.V_F (Kd.V_mono (ok' := (fun k_ => (P1_ k_ ∨ w.heap.size ≤ k_) ∧ k_ ≠ gb1206)) (HO1.out) (fun k_ hk => ⟨hk.1, hk.2⟩))))) (Reps.none _ _))); intro v1208 w8 ho9 hb hg_ hnew_; clear hg_ hnew_; (first | rw [← Ny1207.out] at ho9 | (simp only [Int.reduceToNat] at ho9; rw [← Ny1207.out] at ho9)); have n0_ := Aside0.mk (Kd.V_elder' (by (with_reducible repeat (first | apply Kd.V_alloc | apply Kd.V_drewN | apply Kd.V_drew)); exact HO1.out) (Kd.N_base ho9) hb); have n1_ := Aside0.mk (Kd.N_lower ho9 (below_size (by repeat (first | (with_reducible first | exact HB.out | apply below_alloc | apply pw_below_drewN | apply below_drew1 | refine below_set ?_ GE1206.out) | exact HB.out)))); have n2_ := Aside0.mk (blk_below (g := gb1206) (o := .cells #[.int .i64 a0_0, .slice A0_1 l0_1.length c0_1] 24 (0, 0)) (by (with_reducible repeat (first | refine blk_drewN ?_ _ | refine blk_drew ?_ | refine blk_alloc ?_ _)); exact BK1206.out) hb); have n3_ := Aside0.mk (below_step (by repeat (first | (with_reducible first | exact HB.out | apply below_alloc | apply pw_below_drewN | apply below_drew1 | refine below_set ?_ GE1206.out) | exact HB.out)) hb); clear HO1; clear BK1206; clear HB; have HO1 := n0_; have HO1209 := n1_; have BK1206 := n2_; have HB := n3_; clear n0_ n1_ n2_ n3_; clear hb ho9; obtain ⟨Ao10, co10, eo10⟩ := Kd.N_slice HO1209.out; subst eo10) | (go_at_call 28; (with_reducible refine (pylonlaw14_Long.calls k a0_0 _ _ l0_1 _ _ y1207 true _ ?side1 ?side2 ?side3 ?side4 A5.out).mono ?_); (case side1 => repeat (first | exact (Kd.C_below HR0_1.out HB.out) | (with_reducible refine Kd.C_alloc ?_ _) | (with_reducible refine Kd.C_drewN ?_ _) | (with_reducible refine Kd.C_drew ?_))); (case side2 => exact HC0_1.out); (case side3 => repeat (first | exact (Kd.N_reads' HO1209.out).2.2 | (with_reducible refine Kd.C_alloc ?_ _) | (with_reducible refine Kd.C_drewN ?_ _) | (with_reducible refine Kd.C_drew ?_))); (case side4 => exact (Kd.N_reads' HO1209.out).2.1); rintro e w11 ⟨rfl, hb⟩; have n0_ := Aside0.mk (Kd.V_below (by (with_reducible repeat (first | apply Kd.V_alloc | apply Kd.V_drewN | apply Kd.V_drew)); exact HO1.out) hb); have n1_ := Aside0.mk (Kd.N_below (by (with_reducible repeat (first | apply Kd.N_alloc | apply Kd.N_drewN | apply Kd.N_drew)); exact HO1209.out) hb); have n2_ := Aside0.mk (blk_below (g := gb1206) (o := .cells #[.int .i64 a0_0, .slice A0_1 l0_1.length c0_1] 24 (0, 0)) (by (with_reducible repeat (first | refine blk_drewN ?_ _ | refine blk_drew ?_ | refine blk_alloc ?_ _)); exact BK1206.out) hb); have n3_ := Aside0.mk (below_step (by repeat (first | (with_reducible first | exact HB.out | apply below_alloc | apply pw_below_drewN | apply below_drew1 | refine below_set ?_ GE1206.out) | exact HB.out)) hb); clear HO1; clear HO1209; clear BK1206; clear HB; have HO1 := n0_; have HO1209 := n1_; have BK1206 := n2_; have HB := n3_; clear n0_ n1_ n2_ n3_; (try clear hb); (try clear hb2); (try clear hk); (try clear hi)) | (go_quiet (fail)))
      go_meet
      case rel => exact ⟨_, (true), (by first | rfl | (simp; done) | (simp [*]; done)), H', ⟨by first | omega | exact Nat.le_refl _⟩, ⟨by (with_reducible repeat (first | apply Kd.V_alloc | apply Kd.V_drewN | apply Kd.V_drew)); exact Kd.V_mono HO1.out (fun _ hk => ⟨hk.1.1, hk.1.2⟩)⟩, ⟨by (with_reducible repeat (first | refine blk_drewN ?_ _ | refine blk_drew ?_ | refine blk_alloc ?_ _)); exact BK1206.out⟩, ⟨by repeat (first | (with_reducible first | exact HB.out | apply below_alloc | apply pw_below_drewN | apply below_drew1 | refine below_set ?_ GE1206.out) | exact HB.out)⟩⟩
    · replace c6 := Bool.eq_false_iff.mpr c6
      subst c6
      have H1 : ((pylonlaw14_awake.f).bind fun t1211 => (if t1211 = true then ((net_Outs.f k a0_0 l0_1 l1).bind fun t1212 => (pylonlaw14_NetEndpoints.j0 k l1 (t1212 != 0) a0_0 l0_1)) else (pylonlaw14_NetEndpoints.j0 k l1 true a0_0 l0_1))) = some r := by rw [if_neg (show ¬ (false = true) by decide)] at H; exact H
      clear H
      have H := H1
      clear H1
      replace H := Option.bind_eq_some_iff.mp H
      obtain ⟨t1211, A120, H⟩ := H
      replace H : (if t1211 = true then ((net_Outs.f k a0_0 l0_1 l1).bind fun t1212 => (pylonlaw14_NetEndpoints.j0 k l1 (t1212 != 0) a0_0 l0_1)) else (pylonlaw14_NetEndpoints.j0 k l1 true a0_0 l0_1)) = some r := H
      have A12 := Aside0.mk A120
      clear A120
      by_cases c13 : t1211 = true
      · subst c13
        have H1 : ((net_Outs.f k a0_0 l0_1 l1).bind fun t1212 => (pylonlaw14_NetEndpoints.j0 k l1 (t1212 != 0) a0_0 l0_1)) = some r := by rw [if_pos rfl] at H; exact H
        clear H
        have H := H1
        clear H1
        replace H := Option.bind_eq_some_iff.mp H
        obtain ⟨t1212, A140, H⟩ := H
        replace H : (pylonlaw14_NetEndpoints.j0 k l1 (t1212 != 0) a0_0 l0_1) = some r := H
        have A14 := Aside0.mk A140
        clear A140
        have H' := Aside0.mk H
        clear H
        have hcz15_0 : w4.cell? ⟨gb1206, 0, none⟩ = some (.int .i64 a0_0) := (blk_cell BK1206.out 0).trans rfl
        have hcz15_1 : w4.cell? ⟨gb1206, 1, none⟩ = some (.slice A0_1 l0_1.length c0_1) := (blk_cell BK1206.out 1).trans rfl
        have hfz15_0 := blk_frozen BK1206.out 0
        have hfz15_1 := blk_frozen BK1206.out 1
        go_wp2_with (first | ((with_reducible refine gate_dst (N := 16) rfl ?_); (try (refine gate_guard (by rfl) ?_; dsimp only)); refine Kd.N_lit (Kd.slice 3 (Kd.int .i64)) _ 25 ?hg (N' := 16) ?hd (xs := ([l1] : List (List Int))) (inner := [.slice A1 l1.length c1]) (ok := (fun k_ => (P1_ k_ ∨ w.heap.size ≤ k_) ∧ k_ ≠ gb1206)) (okp := (fun k_ => (P1_ k_ ∨ w.heap.size ≤ k_) ∧ k_ ≠ gb1206)) ?hr ?hp (fun _ hk => hk) ((show ∀ k_, w4.heap.size ≤ k_ → (fun k_ => (P1_ k_ ∨ w.heap.size ≤ k_) ∧ k_ ≠ gb1206) k_ from fun k_ hk => ⟨(.inr (Nat.le_trans (below_size (by repeat (first | (with_reducible first | exact HB.out | apply below_alloc | apply pw_below_drewN | apply below_drew1 | refine below_set ?_ GE1206.out) | exact HB.out))) hk)), Kd.freshB (g := gb1206) (o := .cells #[.int .i64 a0_0, .slice A0_1 l0_1.length c0_1] 24 (0, 0)) (by (with_reducible repeat (first | refine blk_drewN ?_ _ | refine blk_drew ?_ | refine blk_alloc ?_ _)); exact BK1206.out) k_ hk⟩) _ (Nat.le_refl _)) (Below.refl _ _) (Nat.le_refl _) (by simp) ?_; (case hd => rfl); (case hg => rfl); (case hr => first | (go_simp; done) | (go_simp; rfl)); (case hp => exact (Reps.one (show Kd.FK (Kd.slice 3 (Kd.int .i64)) _ _ l1 [.slice A1 l1.length c1] from (Kd.FK_slice_mk (Kd.V_reads' (Kd.V_mono (ok' := (fun k_ => (P1_ k_ ∨ w.heap.size ≤ k_) ∧ k_ ≠ gb1206)) (HO1.out) (fun k_ hk => ⟨hk.1, hk.2⟩))).2.1 (Kd.V_F (Kd.V_mono (ok' := (fun k_ => (P1_ k_ ∨ w.heap.size ≤ k_) ∧ k_ ≠ gb1206)) (HO1.out) (fun k_ hk => ⟨hk.1, hk.2⟩))))) (Reps.none _ _))); intro v1208 w16 ho17 hb hg_ hnew_; clear hg_ hnew_; (first | rw [← Ny1207.out] at ho17 | (simp only [Int.reduceToNat] at ho17; rw [← Ny1207.out] at ho17)); have n0_ := Aside0.mk (Kd.V_elder' (by (with_reducible repeat (first | apply Kd.V_alloc | apply Kd.V_drewN | apply Kd.V_drew)); exact HO1.out) (Kd.N_base ho17) hb); have n1_ := Aside0.mk (Kd.N_lower ho17 (below_size (by repeat (first | (with_reducible first | exact HB.out | apply below_alloc | apply pw_below_drewN | apply below_drew1 | refine below_set ?_ GE1206.out) | exact HB.out)))); have n2_ := Aside0.mk (blk_below (g := gb1206) (o := .cells #[.int .i64 a0_0, .slice A0_1 l0_1.length c0_1] 24 (0, 0)) (by (with_reducible repeat (first | refine blk_drewN ?_ _ | refine blk_drew ?_ | refine blk_alloc ?_ _)); exact BK1206.out) hb); have n3_ := Aside0.mk (below_step (by repeat (first | (with_reducible first | exact HB.out | apply below_alloc | apply pw_below_drewN | apply below_drew1 | refine below_set ?_ GE1206.out) | exact HB.out)) hb); clear HO1; clear BK1206; clear HB; have HO1 := n0_; have HO1209 := n1_; have BK1206 := n2_; have HB := n3_; clear n0_ n1_ n2_ n3_; clear hb ho17; obtain ⟨Ao18, co18, eo18⟩ := Kd.N_slice HO1209.out; subst eo18) | (go_at_call 28; (with_reducible refine (pylonlaw14_Long.calls k a0_0 _ _ l0_1 _ _ y1207 false _ ?side1 ?side2 ?side3 ?side4 A5.out).mono ?_); (case side1 => repeat (first | exact (Kd.C_below HR0_1.out HB.out) | (with_reducible refine Kd.C_alloc ?_ _) | (with_reducible refine Kd.C_drewN ?_ _) | (with_reducible refine Kd.C_drew ?_))); (case side2 => exact HC0_1.out); (case side3 => repeat (first | exact (Kd.N_reads' HO1209.out).2.2 | (with_reducible refine Kd.C_alloc ?_ _) | (with_reducible refine Kd.C_drewN ?_ _) | (with_reducible refine Kd.C_drew ?_))); (case side4 => exact (Kd.N_reads' HO1209.out).2.1); rintro e w19 ⟨rfl, hb⟩; have n0_ := Aside0.mk (Kd.V_below (by (with_reducible repeat (first | apply Kd.V_alloc | apply Kd.V_drewN | apply Kd.V_drew)); exact HO1.out) hb); have n1_ := Aside0.mk (Kd.N_below (by (with_reducible repeat (first | apply Kd.N_alloc | apply Kd.N_drewN | apply Kd.N_drew)); exact HO1209.out) hb); have n2_ := Aside0.mk (blk_below (g := gb1206) (o := .cells #[.int .i64 a0_0, .slice A0_1 l0_1.length c0_1] 24 (0, 0)) (by (with_reducible repeat (first | refine blk_drewN ?_ _ | refine blk_drew ?_ | refine blk_alloc ?_ _)); exact BK1206.out) hb); have n3_ := Aside0.mk (below_step (by repeat (first | (with_reducible first | exact HB.out | apply below_alloc | apply pw_below_drewN | apply below_drew1 | refine below_set ?_ GE1206.out) | exact HB.out)) hb); clear HO1; clear HO1209; clear BK1206; clear HB; have HO1 := n0_; have HO1209 := n1_; have BK1206 := n2_; have HB := n3_; clear n0_ n1_ n2_ n3_; (try clear hb); (try clear hb2); (try clear hk); (try clear hi)) | (go_at_call 66; (with_reducible refine (pylonlaw14_awake.calls  true _ A12.out).mono ?_); rintro e w20 ⟨rfl, hb⟩; have n0_ := Aside0.mk (Kd.V_below (by (with_reducible repeat (first | apply Kd.V_alloc | apply Kd.V_drewN | apply Kd.V_drew)); exact HO1.out) hb); have n1_ := Aside0.mk (Kd.N_below (by (with_reducible repeat (first | apply Kd.N_alloc | apply Kd.N_drewN | apply Kd.N_drew)); exact HO1209.out) hb); have n2_ := Aside0.mk (blk_below (g := gb1206) (o := .cells #[.int .i64 a0_0, .slice A0_1 l0_1.length c0_1] 24 (0, 0)) (by (with_reducible repeat (first | refine blk_drewN ?_ _ | refine blk_drew ?_ | refine blk_alloc ?_ _)); exact BK1206.out) hb); have n3_ := Aside0.mk (below_step (by repeat (first | (with_reducible first | exact HB.out | apply below_alloc | apply pw_below_drewN | apply below_drew1 | refine below_set ?_ GE1206.out) | exact HB.out)) hb); clear HO1; clear HO1209; clear BK1206; clear HB; have HO1 := n0_; have HO1209 := n1_; have BK1206 := n2_; have HB := n3_; clear n0_ n1_ n2_ n3_; (try clear hb); (try clear hb2); (try clear hk); (try clear hi); have hcz21_0 : w20.cell? ⟨gb1206, 0, none⟩ = some (.int .i64 a0_0) := (blk_cell BK1206.out 0).trans rfl; have hcz21_1 : w20.cell? ⟨gb1206, 1, none⟩ = some (.slice A0_1 l0_1.length c0_1) := (blk_cell BK1206.out 1).trans rfl; have hfz21_0 := blk_frozen BK1206.out 0; have hfz21_1 := blk_frozen BK1206.out 1) | (go_at_call 31; (with_reducible refine (net_Outs.calls k a0_0 _ _ l0_1 _ _ l1 t1212 _ ?side1 ?side2 ?side3 ?side4 A14.out).mono ?_); (case side1 => repeat (first | exact (Kd.C_below HR0_1.out HB.out) | (with_reducible refine Kd.C_alloc ?_ _) | (with_reducible refine Kd.C_drewN ?_ _) | (with_reducible refine Kd.C_drew ?_))); (case side2 => exact HC0_1.out); (case side3 => repeat (first | exact (Kd.V_reads' HO1.out).2.2 | (with_reducible refine Kd.C_alloc ?_ _) | (with_reducible refine Kd.C_drewN ?_ _) | (with_reducible refine Kd.C_drew ?_))); (case side4 => exact (Kd.V_reads' HO1.out).2.1); rintro e w22 ⟨rfl, hb⟩; have n0_ := Aside0.mk (Kd.V_below (by (with_reducible repeat (first | apply Kd.V_alloc | apply Kd.V_drewN | apply Kd.V_drew)); exact HO1.out) hb); have n1_ := Aside0.mk (Kd.N_below (by (with_reducible repeat (first | apply Kd.N_alloc | apply Kd.N_drewN | apply Kd.N_drew)); exact HO1209.out) hb); have n2_ := Aside0.mk (blk_below (g := gb1206) (o := .cells #[.int .i64 a0_0, .slice A0_1 l0_1.length c0_1] 24 (0, 0)) (by (with_reducible repeat (first | refine blk_drewN ?_ _ | refine blk_drew ?_ | refine blk_alloc ?_ _)); exact BK1206.out) hb); have n3_ := Aside0.mk (below_step (by repeat (first | (with_reducible first | exact HB.out | apply below_alloc | apply pw_below_drewN | apply below_drew1 | refine below_set ?_ GE1206.out) | exact HB.out)) hb); clear HO1; clear HO1209; clear BK1206; clear HB; have HO1 := n0_; have HO1209 := n1_; have BK1206 := n2_; have HB := n3_; clear n0_ n1_ n2_ n3_; (try clear hb); (try clear hb2); (try clear hk); (try clear hi)) | (go_quiet (fail)))
        go_meet
        case rel => exact ⟨_, ((t1212 != 0)), (by first | rfl | (simp; done) | (simp [*]; done)), H', ⟨by first | omega | exact Nat.le_refl _⟩, ⟨by (with_reducible repeat (first | apply Kd.V_alloc | apply Kd.V_drewN | apply Kd.V_drew)); exact Kd.V_mono HO1.out (fun _ hk => ⟨hk.1.1, hk.1.2⟩)⟩, ⟨by (with_reducible repeat (first | refine blk_drewN ?_ _ | refine blk_drew ?_ | refine blk_alloc ?_ _)); exact BK1206.out⟩, ⟨by repeat (first | (with_reducible first | exact HB.out | apply below_alloc | apply pw_below_drewN | apply below_drew1 | refine below_set ?_ GE1206.out) | exact HB.out)⟩⟩
      · replace c13 := Bool.eq_false_iff.mpr c13
        subst c13
        have H1 : (pylonlaw14_NetEndpoints.j0 k l1 true a0_0 l0_1) = some r := by rw [if_neg (show ¬ (false = true) by decide)] at H; exact H
        clear H
        have H := H1
        clear H1
        have H' := Aside0.mk H
        clear H
        have hcz23_0 : w4.cell? ⟨gb1206, 0, none⟩ = some (.int .i64 a0_0) := (blk_cell BK1206.out 0).trans rfl
        have hcz23_1 : w4.cell? ⟨gb1206, 1, none⟩ = some (.slice A0_1 l0_1.length c0_1) := (blk_cell BK1206.out 1).trans rfl
        have hfz23_0 := blk_frozen BK1206.out 0
        have hfz23_1 := blk_frozen BK1206.out 1
        go_wp2_with (first | ((with_reducible refine gate_dst (N := 16) rfl ?_); (try (refine gate_guard (by rfl) ?_; dsimp only)); refine Kd.N_lit (Kd.slice 3 (Kd.int .i64)) _ 25 ?hg (N' := 16) ?hd (xs := ([l1] : List (List Int))) (inner := [.slice A1 l1.length c1]) (ok := (fun k_ => (P1_ k_ ∨ w.heap.size ≤ k_) ∧ k_ ≠ gb1206)) (okp := (fun k_ => (P1_ k_ ∨ w.heap.size ≤ k_) ∧ k_ ≠ gb1206)) ?hr ?hp (fun _ hk => hk) ((show ∀ k_, w4.heap.size ≤ k_ → (fun k_ => (P1_ k_ ∨ w.heap.size ≤ k_) ∧ k_ ≠ gb1206) k_ from fun k_ hk => ⟨(.inr (Nat.le_trans (below_size (by repeat (first | (with_reducible first | exact HB.out | apply below_alloc | apply pw_below_drewN | apply below_drew1 | refine below_set ?_ GE1206.out) | exact HB.out))) hk)), Kd.freshB (g := gb1206) (o := .cells #[.int .i64 a0_0, .slice A0_1 l0_1.length c0_1] 24 (0, 0)) (by (with_reducible repeat (first | refine blk_drewN ?_ _ | refine blk_drew ?_ | refine blk_alloc ?_ _)); exact BK1206.out) k_ hk⟩) _ (Nat.le_refl _)) (Below.refl _ _) (Nat.le_refl _) (by simp) ?_; (case hd => rfl); (case hg => rfl); (case hr => first | (go_simp; done) | (go_simp; rfl)); (case hp => exact (Reps.one (show Kd.FK (Kd.slice 3 (Kd.int .i64)) _ _ l1 [.slice A1 l1.length c1] from (Kd.FK_slice_mk (Kd.V_reads' (Kd.V_mono (ok' := (fun k_ => (P1_ k_ ∨ w.heap.size ≤ k_) ∧ k_ ≠ gb1206)) (HO1.out) (fun k_ hk => ⟨hk.1, hk.2⟩))).2.1 (Kd.V_F (Kd.V_mono (ok' := (fun k_ => (P1_ k_ ∨ w.heap.size ≤ k_) ∧ k_ ≠ gb1206)) (HO1.out) (fun k_ hk => ⟨hk.1, hk.2⟩))))) (Reps.none _ _))); intro v1208 w24 ho25 hb hg_ hnew_; clear hg_ hnew_; (first | rw [← Ny1207.out] at ho25 | (simp only [Int.reduceToNat] at ho25; rw [← Ny1207.out] at ho25)); have n0_ := Aside0.mk (Kd.V_elder' (by (with_reducible repeat (first | apply Kd.V_alloc | apply Kd.V_drewN | apply Kd.V_drew)); exact HO1.out) (Kd.N_base ho25) hb); have n1_ := Aside0.mk (Kd.N_lower ho25 (below_size (by repeat (first | (with_reducible first | exact HB.out | apply below_alloc | apply pw_below_drewN | apply below_drew1 | refine below_set ?_ GE1206.out) | exact HB.out)))); have n2_ := Aside0.mk (blk_below (g := gb1206) (o := .cells #[.int .i64 a0_0, .slice A0_1 l0_1.length c0_1] 24 (0, 0)) (by (with_reducible repeat (first | refine blk_drewN ?_ _ | refine blk_drew ?_ | refine blk_alloc ?_ _)); exact BK1206.out) hb); have n3_ := Aside0.mk (below_step (by repeat (first | (with_reducible first | exact HB.out | apply below_alloc | apply pw_below_drewN | apply below_drew1 | refine below_set ?_ GE1206.out) | exact HB.out)) hb); clear HO1; clear BK1206; clear HB; have HO1 := n0_; have HO1209 := n1_; have BK1206 := n2_; have HB := n3_; clear n0_ n1_ n2_ n3_; clear hb ho25; obtain ⟨Ao26, co26, eo26⟩ := Kd.N_slice HO1209.out; subst eo26) | (go_at_call 28; (with_reducible refine (pylonlaw14_Long.calls k a0_0 _ _ l0_1 _ _ y1207 false _ ?side1 ?side2 ?side3 ?side4 A5.out).mono ?_); (case side1 => repeat (first | exact (Kd.C_below HR0_1.out HB.out) | (with_reducible refine Kd.C_alloc ?_ _) | (with_reducible refine Kd.C_drewN ?_ _) | (with_reducible refine Kd.C_drew ?_))); (case side2 => exact HC0_1.out); (case side3 => repeat (first | exact (Kd.N_reads' HO1209.out).2.2 | (with_reducible refine Kd.C_alloc ?_ _) | (with_reducible refine Kd.C_drewN ?_ _) | (with_reducible refine Kd.C_drew ?_))); (case side4 => exact (Kd.N_reads' HO1209.out).2.1); rintro e w27 ⟨rfl, hb⟩; have n0_ := Aside0.mk (Kd.V_below (by (with_reducible repeat (first | apply Kd.V_alloc | apply Kd.V_drewN | apply Kd.V_drew)); exact HO1.out) hb); have n1_ := Aside0.mk (Kd.N_below (by (with_reducible repeat (first | apply Kd.N_alloc | apply Kd.N_drewN | apply Kd.N_drew)); exact HO1209.out) hb); have n2_ := Aside0.mk (blk_below (g := gb1206) (o := .cells #[.int .i64 a0_0, .slice A0_1 l0_1.length c0_1] 24 (0, 0)) (by (with_reducible repeat (first | refine blk_drewN ?_ _ | refine blk_drew ?_ | refine blk_alloc ?_ _)); exact BK1206.out) hb); have n3_ := Aside0.mk (below_step (by repeat (first | (with_reducible first | exact HB.out | apply below_alloc | apply pw_below_drewN | apply below_drew1 | refine below_set ?_ GE1206.out) | exact HB.out)) hb); clear HO1; clear HO1209; clear BK1206; clear HB; have HO1 := n0_; have HO1209 := n1_; have BK1206 := n2_; have HB := n3_; clear n0_ n1_ n2_ n3_; (try clear hb); (try clear hb2); (try clear hk); (try clear hi)) | (go_at_call 66; (with_reducible refine (pylonlaw14_awake.calls  false _ A12.out).mono ?_); rintro e w28 ⟨rfl, hb⟩; have n0_ := Aside0.mk (Kd.V_below (by (with_reducible repeat (first | apply Kd.V_alloc | apply Kd.V_drewN | apply Kd.V_drew)); exact HO1.out) hb); have n1_ := Aside0.mk (Kd.N_below (by (with_reducible repeat (first | apply Kd.N_alloc | apply Kd.N_drewN | apply Kd.N_drew)); exact HO1209.out) hb); have n2_ := Aside0.mk (blk_below (g := gb1206) (o := .cells #[.int .i64 a0_0, .slice A0_1 l0_1.length c0_1] 24 (0, 0)) (by (with_reducible repeat (first | refine blk_drewN ?_ _ | refine blk_drew ?_ | refine blk_alloc ?_ _)); exact BK1206.out) hb); have n3_ := Aside0.mk (below_step (by repeat (first | (with_reducible first | exact HB.out | apply below_alloc | apply pw_below_drewN | apply below_drew1 | refine below_set ?_ GE1206.out) | exact HB.out)) hb); clear HO1; clear HO1209; clear BK1206; clear HB; have HO1 := n0_; have HO1209 := n1_; have BK1206 := n2_; have HB := n3_; clear n0_ n1_ n2_ n3_; (try clear hb); (try clear hb2); (try clear hk); (try clear hi)) | (go_quiet (fail)))
        go_meet
        case rel => exact ⟨_, (true), (by first | rfl | (simp; done) | (simp [*]; done)), H', ⟨by first | omega | exact Nat.le_refl _⟩, ⟨by (with_reducible repeat (first | apply Kd.V_alloc | apply Kd.V_drewN | apply Kd.V_drew)); exact Kd.V_mono HO1.out (fun _ hk => ⟨hk.1.1, hk.1.2⟩)⟩, ⟨by (with_reducible repeat (first | refine blk_drewN ?_ _ | refine blk_drew ?_ | refine blk_alloc ?_ _)); exact BK1206.out⟩, ⟨by repeat (first | (with_reducible first | exact HB.out | apply below_alloc | apply pw_below_drewN | apply below_drew1 | refine below_set ?_ GE1206.out) | exact HB.out)⟩⟩
  case rest =>
    clear HC3
    try clear c1
    try clear c2
    try clear p2
    try clear c6
    try clear c13
    try clear c22
    try clear hcz15_0
    try clear hcz15_1
    try clear hcz21_0
    try clear hcz21_1
    try clear hcz23_0
    try clear hcz23_1
    try clear hcz7_0
    try clear hcz7_1
    try clear hfz15_0
    try clear hfz15_1
    try clear hfz21_0
    try clear hfz21_1
    try clear hfz23_0
    try clear hfz23_1
    try clear hfz7_0
    try clear hfz7_1
    obtain ⟨kq, x27_2, rfl, HA, HJ2, HO_1, BK1206, HB⟩ := hcut
    cases kq with
    | zero => exact absurd HA.out (by simp [pylonlaw14_NetEndpoints.j0])
    | succ kj2 =>
      have H := HA.out
      clear HA
      simp only [pylonlaw14_NetEndpoints.j0] at H
      by_cases c29 : x27_2 = true
      · subst c29
        have H1 : ((pylonlaw14_awake.f).bind fun t1213 => (some t1213)) = some r := by rw [if_pos rfl] at H; exact H
        clear H
        have H := H1
        clear H1
        replace H := Option.bind_eq_some_iff.mp H
        obtain ⟨t1213, A300, H⟩ := H
        replace H : (some t1213) = some r := H
        have A30 := Aside0.mk A300
        clear A300
        obtain rfl := Option.some.inj H
        go_wp2_with (first | (go_at_call 66; (with_reducible refine (pylonlaw14_awake.calls  t1213 _ A30.out).mono ?_); rintro e w31 ⟨rfl, hb⟩; have n0_ := Aside0.mk (Kd.V_below (by (with_reducible repeat (first | apply Kd.V_alloc | apply Kd.V_drewN | apply Kd.V_drew)); exact HO_1.out) hb); have n1_ := Aside0.mk (blk_below (g := gb1206) (o := .cells #[.int .i64 a0_0, .slice A0_1 l0_1.length c0_1] 24 (0, 0)) (by (with_reducible repeat (first | refine blk_drewN ?_ _ | refine blk_drew ?_ | refine blk_alloc ?_ _)); exact BK1206.out) hb); have n2_ := Aside0.mk (below_step (by repeat (first | (with_reducible first | exact HB.out | apply below_alloc | apply pw_below_drewN | apply below_drew1 | refine below_set ?_ GE1206.out) | exact HB.out)) hb); clear HO_1; clear BK1206; clear HB; have HO_1 := n0_; have BK1206 := n1_; have HB := n2_; clear n0_ n1_ n2_; (try clear hb); (try clear hb2); (try clear hk); (try clear hi)) | (go_quiet (fail)))
        go_ret
        exact ⟨by first | rfl | (simp [errW_none, errW_some] <;> rfl) | (simp [*, errW_none, errW_some] <;> rfl), by repeat (first | (with_reducible first | exact HB.out | apply below_alloc | apply pw_below_drewN | apply below_drew1 | refine below_set ?_ GE1206.out) | exact HB.out)⟩
      · replace c29 := Bool.eq_false_iff.mpr c29
        subst c29
        have H1 : ((net_In.f a0_0 l0_1 l1).bind fun bt1214 => (if bt1214.2 = 0 then (if 0 ≤ (l0_1.length : Int) then (if ((l0_1.length : Int) : Int).toNat ≤ 35184372088832 then (pylonlaw14_NetEndpoints.l0 kj2 l1 bt1214.1 (List.replicate ((l0_1.length : Int) : Int).toNat 0) 0 0 a0_0 l0_1) else (none)) else (none)) else (some false))) = some r := by rw [if_neg (show ¬ (false = true) by decide)] at H; exact H
        clear H
        have H := H1
        clear H1
        replace H := Option.bind_eq_some_iff.mp H
        obtain ⟨⟨t1214, t1217⟩, A320, H⟩ := H
        replace H : (if t1217 = 0 then (if 0 ≤ (l0_1.length : Int) then (if ((l0_1.length : Int) : Int).toNat ≤ 35184372088832 then (pylonlaw14_NetEndpoints.l0 kj2 l1 t1214 (List.replicate ((l0_1.length : Int) : Int).toNat 0) 0 0 a0_0 l0_1) else (none)) else (none)) else (some false)) = some r := H
        have A32 := Aside0.mk A320
        clear A320
        by_cases c33 : t1217 = 0
        · rw [if_pos c33] at H
          have c33b0 : (t1217 == 0) = true := beq_iff_eq.mpr c33
          have c33b1 : (t1217 != 0) = false := bne_eq_false_iff_eq.mpr c33
          clear c33
          by_cases c34 : 0 ≤ (l0_1.length : Int)
          · rw [if_pos c34] at H
            have c34b0 := eq_true c34
            have c34b1 : decide (0 ≤ (l0_1.length : Int)) = true := decide_eq_true c34
            clear c34
            by_cases c35 : ((l0_1.length : Int) : Int).toNat ≤ 35184372088832
            · rw [if_pos c35] at H
              have c35b0 := eq_true c35
              have c35b1 : decide (((l0_1.length : Int) : Int).toNat ≤ 35184372088832) = true := decide_eq_true c35
              clear c35
              obtain ⟨y1218, hy1218⟩ : ∃ y_ : List Int, y_ = (List.replicate ((l0_1.length : Int) : Int).toNat 0) := ⟨_, rfl⟩
              replace H : (pylonlaw14_NetEndpoints.l0 kj2 l1 t1214 y1218 0 0 a0_0 l0_1) = some r := by first | (rw [hy1218]; with_reducible exact H) | (have H2_ := (Option.bind_some _ _).symm.trans H; rw [hy1218]; with_reducible exact H2_) | (have H2_ := (Option.bind_some _ _).symm.trans H; with_reducible exact H2_) | with_reducible exact H | (rw [hy1218]; exact H) | exact H
              have Ny1218 := Aside0.mk hy1218
              clear hy1218
              have H' := Aside0.mk H
              clear H
              have hcz36_0 : wc.cell? ⟨gb1206, 0, none⟩ = some (.int .i64 a0_0) := (blk_cell BK1206.out 0).trans rfl
              have hcz36_1 : wc.cell? ⟨gb1206, 1, none⟩ = some (.slice A0_1 l0_1.length c0_1) := (blk_cell BK1206.out 1).trans rfl
              have hfz36_0 := blk_frozen BK1206.out 0
              have hfz36_1 := blk_frozen BK1206.out 1
              go_wp2_with (first | (go_at_call 59; (with_reducible refine (net_In.calls a0_0 _ _ l0_1 _ _ l1 t1214 t1217 _ ?side1 ?side2 ?side3 ?side4 A32.out).mono ?_); (case side1 => repeat (first | exact (Kd.C_below HR0_1.out HB.out) | (with_reducible refine Kd.C_alloc ?_ _) | (with_reducible refine Kd.C_drewN ?_ _) | (with_reducible refine Kd.C_drew ?_))); (case side2 => exact HC0_1.out); (case side3 => repeat (first | exact (Kd.V_reads' HO_1.out).2.2 | (with_reducible refine Kd.C_alloc ?_ _) | (with_reducible refine Kd.C_drewN ?_ _) | (with_reducible refine Kd.C_drew ?_))); (case side4 => exact (Kd.V_reads' HO_1.out).2.1); rintro e w37 ⟨v1215, rfl, ho0, hb⟩; have n0_ := Aside0.mk (Kd.V_elder' (by (with_reducible repeat (first | apply Kd.V_alloc | apply Kd.V_drewN | apply Kd.V_drew)); exact HO_1.out) (Kd.R_base ho0) hb); have n1_ := Aside0.mk (Kd.R_lower (Kd.R_newM (M := fun k_ => (w.heap.size ≤ k_)) ho0 (below_size (by repeat (first | (with_reducible first | exact HB.out | apply below_alloc | apply pw_below_drewN | apply below_drew1 | refine below_set ?_ GE1206.out) | exact HB.out))) (fun k_ h_ => h_)) (below_size (by repeat (first | (with_reducible first | exact HB.out | apply below_alloc | apply pw_below_drewN | apply below_drew1 | refine below_set ?_ GE1206.out) | exact HB.out)))); have n2_ := Aside0.mk (blk_below (g := gb1206) (o := .cells #[.int .i64 a0_0, .slice A0_1 l0_1.length c0_1] 24 (0, 0)) (by (with_reducible repeat (first | refine blk_drewN ?_ _ | refine blk_drew ?_ | refine blk_alloc ?_ _)); exact BK1206.out) hb); have n3_ := Aside0.mk (below_step (by repeat (first | (with_reducible first | exact HB.out | apply below_alloc | apply pw_below_drewN | apply below_drew1 | refine below_set ?_ GE1206.out) | exact HB.out)) hb); clear HO_1; clear BK1206; clear HB; have HO_1 := n0_; have HO1216 := n1_; have BK1206 := n2_; have HB := n3_; clear n0_ n1_ n2_ n3_; (try clear hb); (try clear hb2); (try clear hk); (try clear hi); (try clear ho0); have hcz38_0 : w37.cell? ⟨gb1206, 0, none⟩ = some (.int .i64 a0_0) := (blk_cell BK1206.out 0).trans rfl; have hcz38_1 : w37.cell? ⟨gb1206, 1, none⟩ = some (.slice A0_1 l0_1.length c0_1) := (blk_cell BK1206.out 1).trans rfl; have hfz38_0 := blk_frozen BK1206.out 0; have hfz38_1 := blk_frozen BK1206.out 1) | ((with_reducible refine gate_dst (N := 40) rfl ?_); (try (refine gate_guard (by rfl) ?_; dsimp only)); refine Kd.R_make (Kd.int .i64) _ 3 rfl (N := 40) rfl 25 _ _ rfl (l0_1.length : Int) rfl rfl Try.underlying25 (.int .i64 0) 8 info3 rfl (by decide) (by omega) 0 (ok := fun _ => True) (okp := fun _ => True) rfl (fun _ hk => hk) trivial (of_decide_eq_true (by first | (with_reducible assumption) | assumption)) (Nat.le_trans (Nat.mul_le_mul_right _ (of_decide_eq_true (by first | (with_reducible assumption) | assumption) : (l0_1.length : Int).toNat ≤ 35184372088832)) (by omega)) (Below.refl _ _) (Nat.le_refl _) ?_; intro v1219 w39 ho40 hb hg_ hnew_; clear hg_ hnew_; (first | rw [← Ny1218.out] at ho40 | (simp only [Int.reduceToNat] at ho40; rw [← Ny1218.out] at ho40)); have n0_ := Aside0.mk (Kd.V_elder' (by (with_reducible repeat (first | apply Kd.V_alloc | apply Kd.V_drewN | apply Kd.V_drew)); exact HO_1.out) (Kd.R_base ho40) hb); have n1_ := Aside0.mk (Kd.R_elder' (by (with_reducible repeat (first | apply Kd.R_alloc | apply Kd.R_drewN | apply Kd.R_drew)); exact HO1216.out) (Kd.R_base ho40) hb); have n2_ := Aside0.mk (Kd.R_lower (Kd.R_new' (Kd.R_newM (M := fun k_ => (w.heap.size ≤ k_)) ho40 (below_size (by repeat (first | (with_reducible first | exact HB.out | apply below_alloc | apply pw_below_drewN | apply below_drew1 | refine below_set ?_ GE1206.out) | exact HB.out))) (fun k_ h_ => h_)) (Kd.R_lt (by (with_reducible repeat (first | apply Kd.R_alloc | apply Kd.R_drewN | apply Kd.R_drew)); exact HO1216.out))) (below_size (by repeat (first | (with_reducible first | exact HB.out | apply below_alloc | apply pw_below_drewN | apply below_drew1 | refine below_set ?_ GE1206.out) | exact HB.out)))); have n3_ := Aside0.mk (blk_below (g := gb1206) (o := .cells #[.int .i64 a0_0, .slice A0_1 l0_1.length c0_1] 24 (0, 0)) (by (with_reducible repeat (first | refine blk_drewN ?_ _ | refine blk_drew ?_ | refine blk_alloc ?_ _)); exact BK1206.out) hb); have n4_ := Aside0.mk (below_step (by repeat (first | (with_reducible first | exact HB.out | apply below_alloc | apply pw_below_drewN | apply below_drew1 | refine below_set ?_ GE1206.out) | exact HB.out)) hb); clear HO_1; clear HO1216; clear BK1206; clear HB; have HO_1 := n0_; have HO1216 := n1_; have HO1220 := n2_; have BK1206 := n3_; have HB := n4_; clear n0_ n1_ n2_ n3_ n4_; clear hb ho40) | (go_quiet (fail)))
              go_loopg [8, 9] kj2 (fun kq v8 v9 w' => ∃ (x7_2 : List Int) (x8_2 : Int) (x9_2 : Int), v8 = .int .i64 x8_2 ∧ v9 = .int .i64 x9_2 ∧ Aside0 (pylonlaw14_NetEndpoints.l0 kq l1 t1214 x7_2 x8_2 x9_2 a0_0 l0_1 = some r) ∧ Aside0 (kq ≤ kj2) ∧ Aside0 (Kd.V (Kd.int .i64) 3 w' w.heap.size (fun k_ => (P1_ k_ ∨ w.heap.size ≤ k_) ∧ some k_ ≠ (v1215 : Value).ownBlock ∧ some k_ ≠ (v1219 : Value).ownBlock ∧ k_ ≠ gb1206) (.slice A1 l1.length c1) l1) ∧ Aside0 (Kd.R (Kd.int .i64) 3 w' w.heap.size (fun k_ => (w.heap.size ≤ k_) ∧ some k_ ≠ (v1219 : Value).ownBlock) v1215 t1214) ∧ Aside0 (Kd.R (Kd.int .i64) 3 w' w.heap.size (fun k_ => (w.heap.size ≤ k_) ∧ some k_ ≠ (v1215 : Value).ownBlock) v1219 x7_2) ∧ Aside0 (w'.heap[gb1206]? = some (.cells #[.int .i64 a0_0, (.slice A0_1 l0_1.length c0_1)] 24 (0, 0))) ∧ Aside0 (Below w.heap.size w w'))
              case atStart => exact ⟨(y1218), (0), (0), (by first | rfl | (simp; done) | (simp [*]; done)), (by first | rfl | (simp; done) | (simp [*]; done)), H', ⟨Nat.le_refl _⟩, ⟨by (with_reducible repeat (first | apply Kd.V_alloc | apply Kd.V_drewN | apply Kd.V_drew)); exact Kd.V_mono HO_1.out (fun _ hk => ⟨hk.1.1.1, ⟨hk.1.2, ⟨hk.2, hk.1.1.2⟩⟩⟩)⟩, ⟨by (with_reducible repeat (first | apply Kd.R_alloc | apply Kd.R_drewN | apply Kd.R_drew)); exact Kd.R_mono HO1216.out (fun _ hk => ⟨hk.1.1, hk.2⟩)⟩, ⟨by (with_reducible repeat (first | apply Kd.R_alloc | apply Kd.R_drewN | apply Kd.R_drew)); exact Kd.R_mono HO1220.out (fun _ hk => ⟨hk.1.1, hk.2⟩)⟩, ⟨by (with_reducible repeat (first | refine blk_drewN ?_ _ | refine blk_drew ?_ | refine blk_alloc ?_ _)); exact BK1206.out⟩, ⟨by repeat (first | (with_reducible first | exact HB.out | apply below_alloc | apply pw_below_drewN | apply below_drew1 | refine below_set ?_ GE1206.out) | exact HB.out)⟩⟩
              case round =>
                clear H'
                try clear c1
                try clear c2
                try clear p2
                try clear c3
                try clear c6
                try clear c13
                try clear c22
                try clear c29
                try clear c33
                try clear c33b0
                try clear c33b1
                try clear c34
                try clear c34b0
                try clear c34b1
                try clear c35
                try clear c35b0
                try clear c35b1
                try clear hcz15_0
                try clear hcz15_1
                try clear hcz21_0
                try clear hcz21_1
                try clear hcz23_0
                try clear hcz23_1
                try clear hcz36_0
                try clear hcz36_1
                try clear hcz38_0
                try clear hcz38_1
                try clear hcz7_0
                try clear hcz7_1
                try clear hfz15_0
                try clear hfz15_1
                try clear hfz21_0
                try clear hfz21_1
                try clear hfz23_0
                try clear hfz23_1
                try clear hfz36_0
                try clear hfz36_1
                try clear hfz38_0
                try clear hfz38_1
                try clear hfz7_0
                try clear hfz7_1
                try clear p2
                obtain ⟨x7_2, x8_2, x9_2, rfl, rfl, HA, HK2, HO_1, HO_5, HO_7, BK1206, HB⟩ := hrel
                cases gk with
                | zero => exact absurd HA.out (by simp [pylonlaw14_NetEndpoints.l0])
                | succ k2 =>
                  have H := HA.out
                  clear HA
                  simp only [pylonlaw14_NetEndpoints.l0] at H
                  by_cases c41 : x9_2 < a0_0
                  · rw [if_pos c41] at H
                    have c41b0 : decide (x9_2 < a0_0) = true := decide_eq_true c41
                    clear c41
                    replace H := Option.bind_eq_some_iff.mp H
                    obtain ⟨⟨t1221, t1224⟩, A420, H⟩ := H
                    replace H : (if t1224 = 0 then (pylonlaw14_NetEndpoints.l1 k2 l1 t1214 x7_2 x8_2 x9_2 t1221 0 a0_0 l0_1) else (some false)) = some r := H
                    have A42 := Aside0.mk A420
                    clear A420
                    by_cases c43 : t1224 = 0
                    · rw [if_pos c43] at H
                      have c43b0 : (t1224 == 0) = true := beq_iff_eq.mpr c43
                      have c43b1 : (t1224 != 0) = false := bne_eq_false_iff_eq.mpr c43
                      clear c43
                      have H' := Aside0.mk H
                      clear H
                      have hcz44_0 : wr.cell? ⟨gb1206, 0, none⟩ = some (.int .i64 a0_0) := (blk_cell BK1206.out 0).trans rfl
                      have hcz44_1 : wr.cell? ⟨gb1206, 1, none⟩ = some (.slice A0_1 l0_1.length c0_1) := (blk_cell BK1206.out 1).trans rfl
                      have hfz44_0 := blk_frozen BK1206.out 0
                      have hfz44_1 := blk_frozen BK1206.out 1
                      go_wp2_with (first | (go_at_call 71; (with_reducible refine (net_At.calls a0_0 _ _ l0_1 _ _ l1 x9_2 t1221 t1224 _ ?side1 ?side2 ?side3 ?side4 A42.out).mono ?_); (case side1 => repeat (first | exact (Kd.C_below HR0_1.out HB.out) | (with_reducible refine Kd.C_alloc ?_ _) | (with_reducible refine Kd.C_drewN ?_ _) | (with_reducible refine Kd.C_drew ?_))); (case side2 => exact HC0_1.out); (case side3 => repeat (first | exact (Kd.V_reads' HO_1.out).2.2 | (with_reducible refine Kd.C_alloc ?_ _) | (with_reducible refine Kd.C_drewN ?_ _) | (with_reducible refine Kd.C_drew ?_))); (case side4 => exact (Kd.V_reads' HO_1.out).2.1); rintro e w45 ⟨v1222, rfl, ho0, hb⟩; have n0_ := Aside0.mk (Kd.V_elder' (by (with_reducible repeat (first | apply Kd.V_alloc | apply Kd.V_drewN | apply Kd.V_drew)); exact HO_1.out) (Kd.R_base ho0) hb); have n1_ := Aside0.mk (Kd.R_elder' (by (with_reducible repeat (first | apply Kd.R_alloc | apply Kd.R_drewN | apply Kd.R_drew)); exact HO_5.out) (Kd.R_base ho0) hb); have n2_ := Aside0.mk (Kd.R_elder' (by (with_reducible repeat (first | apply Kd.R_alloc | apply Kd.R_drewN | apply Kd.R_drew)); exact HO_7.out) (Kd.R_base ho0) hb); have n3_ := Aside0.mk (Kd.R_lower (Kd.R_new' (Kd.R_new' (Kd.R_newM (M := fun k_ => (w.heap.size ≤ k_)) ho0 (below_size (by repeat (first | (with_reducible first | exact HB.out | apply below_alloc | apply pw_below_drewN | apply below_drew1 | refine below_set ?_ GE1206.out) | exact HB.out))) (fun k_ h_ => h_)) (Kd.R_lt (by (with_reducible repeat (first | apply Kd.R_alloc | apply Kd.R_drewN | apply Kd.R_drew)); exact HO_5.out))) (Kd.R_lt (by (with_reducible repeat (first | apply Kd.R_alloc | apply Kd.R_drewN | apply Kd.R_drew)); exact HO_7.out))) (below_size (by repeat (first | (with_reducible first | exact HB.out | apply below_alloc | apply pw_below_drewN | apply below_drew1 | refine below_set ?_ GE1206.out) | exact HB.out)))); have n4_ := Aside0.mk (blk_below (g := gb1206) (o := .cells #[.int .i64 a0_0, .slice A0_1 l0_1.length c0_1] 24 (0, 0)) (by (with_reducible repeat (first | refine blk_drewN ?_ _ | refine blk_drew ?_ | refine blk_alloc ?_ _)); exact BK1206.out) hb); have n5_ := Aside0.mk (below_step (by repeat (first | (with_reducible first | exact HB.out | apply below_alloc | apply pw_below_drewN | apply below_drew1 | refine below_set ?_ GE1206.out) | exact HB.out)) hb); clear HO_1; clear HO_5; clear HO_7; clear BK1206; clear HB; have HO_1 := n0_; have HO_5 := n1_; have HO_7 := n2_; have HO1223 := n3_; have BK1206 := n4_; have HB := n5_; clear n0_ n1_ n2_ n3_ n4_ n5_; (try clear hb); (try clear hb2); (try clear hk); (try clear hi); (try clear ho0)) | (go_quiet (fail)))
                      go_loopg [8, 12] k2 (fun kq v8 v12 w' => ∃ (x7_3 : List Int) (x8_3 : Int) (x12_3 : Int), v8 = .int .i64 x8_3 ∧ v12 = .int .i64 x12_3 ∧ Aside0 (pylonlaw14_NetEndpoints.l1 kq l1 t1214 x7_3 x8_3 x9_2 t1221 x12_3 a0_0 l0_1 = some r) ∧ Aside0 (kq ≤ k2) ∧ Aside0 (Kd.V (Kd.int .i64) 3 w' w.heap.size (fun k_ => (P1_ k_ ∨ w.heap.size ≤ k_) ∧ some k_ ≠ (v1215 : Value).ownBlock ∧ some k_ ≠ (v1219 : Value).ownBlock ∧ some k_ ≠ (v1222 : Value).ownBlock ∧ k_ ≠ gb1206) (.slice A1 l1.length c1) l1) ∧ Aside0 (Kd.R (Kd.int .i64) 3 w' w.heap.size (fun k_ => (w.heap.size ≤ k_) ∧ some k_ ≠ (v1219 : Value).ownBlock ∧ some k_ ≠ (v1222 : Value).ownBlock) v1215 t1214) ∧ Aside0 (Kd.R (Kd.int .i64) 3 w' w.heap.size (fun k_ => (w.heap.size ≤ k_) ∧ some k_ ≠ (v1215 : Value).ownBlock ∧ some k_ ≠ (v1222 : Value).ownBlock) v1219 x7_3) ∧ Aside0 (Kd.R (Kd.int .i64) 3 w' w.heap.size (fun k_ => (w.heap.size ≤ k_) ∧ some k_ ≠ (v1215 : Value).ownBlock ∧ some k_ ≠ (v1219 : Value).ownBlock) v1222 t1221) ∧ Aside0 (w'.heap[gb1206]? = some (.cells #[.int .i64 a0_0, (.slice A0_1 l0_1.length c0_1)] 24 (0, 0))) ∧ Aside0 (Below w.heap.size w w'))
                      case atStart => exact ⟨(x7_2), (x8_2), (0), (by first | rfl | (simp; done) | (simp [*]; done)), (by first | rfl | (simp; done) | (simp [*]; done)), H', ⟨Nat.le_refl _⟩, ⟨by (with_reducible repeat (first | apply Kd.V_alloc | apply Kd.V_drewN | apply Kd.V_drew)); exact Kd.V_mono HO_1.out (fun _ hk => ⟨hk.1.1, ⟨hk.1.2.1, ⟨hk.1.2.2.1, ⟨hk.2, hk.1.2.2.2⟩⟩⟩⟩)⟩, ⟨by (with_reducible repeat (first | apply Kd.R_alloc | apply Kd.R_drewN | apply Kd.R_drew)); exact Kd.R_mono HO_5.out (fun _ hk => ⟨hk.1.1, ⟨hk.1.2, hk.2⟩⟩)⟩, ⟨by (with_reducible repeat (first | apply Kd.R_alloc | apply Kd.R_drewN | apply Kd.R_drew)); exact Kd.R_mono HO_7.out (fun _ hk => ⟨hk.1.1, ⟨hk.1.2, hk.2⟩⟩)⟩, ⟨by (with_reducible repeat (first | apply Kd.R_alloc | apply Kd.R_drewN | apply Kd.R_drew)); exact Kd.R_mono HO1223.out (fun _ hk => ⟨hk.1.1.1, ⟨hk.1.2, hk.2⟩⟩)⟩, ⟨by (with_reducible repeat (first | refine blk_drewN ?_ _ | refine blk_drew ?_ | refine blk_alloc ?_ _)); exact BK1206.out⟩, ⟨by repeat (first | (with_reducible first | exact HB.out | apply below_alloc | apply pw_below_drewN | apply below_drew1 | refine below_set ?_ GE1206.out) | exact HB.out)⟩⟩
                      case round =>
                        clear H'
                        try clear c1
                        try clear c2
                        try clear p2
                        try clear c3
                        try clear c4
                        try clear c6
                        try clear c13
                        try clear c22
                        try clear c29
                        try clear c33
                        try clear c33b0
                        try clear c33b1
                        try clear c34
                        try clear c34b0
                        try clear c34b1
                        try clear c35
                        try clear c35b0
                        try clear c35b1
                        try clear c41
                        try clear c41b0
                        try clear c43
                        try clear c43b0
                        try clear c43b1
                        try clear hcz15_0
                        try clear hcz15_1
                        try clear hcz21_0
                        try clear hcz21_1
                        try clear hcz23_0
                        try clear hcz23_1
                        try clear hcz36_0
                        try clear hcz36_1
                        try clear hcz38_0
                        try clear hcz38_1
                        try clear hcz44_0
                        try clear hcz44_1
                        try clear hcz7_0
                        try clear hcz7_1
                        try clear hfz15_0
                        try clear hfz15_1
                        try clear hfz21_0
                        try clear hfz21_1
                        try clear hfz23_0
                        try clear hfz23_1
                        try clear hfz36_0
                        try clear hfz36_1
                        try clear hfz38_0
                        try clear hfz38_1
                        try clear hfz44_0
                        try clear hfz44_1
                        try clear hfz7_0
                        try clear hfz7_1
                        try clear p2
                        obtain ⟨x7_3, x8_3, x12_3, rfl, rfl, HA, HK3, HO_1, HO_5, HO_7, HO_10, BK1206, HB⟩ := hrel
                        cases gk with
                        | zero => exact absurd HA.out (by simp [pylonlaw14_NetEndpoints.l1])
                        | succ k3 =>
                          have H := HA.out
                          clear HA
                          simp only [pylonlaw14_NetEndpoints.l1] at H
                          by_cases c46 : x12_3 < (t1221.length : Int)
                          · rw [if_pos c46] at H
                            have c46b0 : decide (x12_3 < (t1221.length : Int)) = true := decide_eq_true c46
                            clear c46
                            by_cases c47 : 0 ≤ x12_3
                            · rw [if_pos c47] at H
                              have c47b0 : decide (0 ≤ x12_3) = true := decide_eq_true c47
                              clear c47
                              by_cases c48 : (rd t1221 x12_3) < 0
                              · rw [if_pos c48] at H
                                have c48b0 : decide ((rd t1221 x12_3) < 0) = true := decide_eq_true c48
                                clear c48
                                obtain rfl := Option.some.inj H
                                obtain ⟨Ao49, co49, eo49⟩ := Kd.R_slice HO_10.out
                                subst eo49
                                have p1225 : 0 ≤ (x12_3 : Int) := of_decide_eq_true (by first | (with_reducible assumption) | assumption)
                                have q1225 : x12_3 < (t1221.length : Int) := of_decide_eq_true (by first | (with_reducible assumption) | assumption)
                                obtain ⟨ad1225, e1225, hx1225_0⟩ := Kd.at_int (Kd.R_reads' HO_10.out).2.2 x12_3 p1225 q1225
                                cases e1225
                                replace p1225 := eq_true p1225
                                replace q1225 := eq_true q1225
                                go_wp2
                                repeat (go_quiet (fail); try go_wp2)
                                go_ret
                                exact ⟨by first | rfl | (simp [errW_none, errW_some] <;> rfl) | (simp [*, errW_none, errW_some] <;> rfl), by repeat (first | (with_reducible first | exact HB.out | apply below_alloc | apply pw_below_drewN | apply below_drew1 | refine below_set ?_ GE1206.out) | exact HB.out)⟩
                              · rw [if_neg c48] at H
                                have c48b0 : decide ((rd t1221 x12_3) < 0) = false := decide_eq_false c48
                                clear c48
                                by_cases c50 : (rd t1221 x12_3) ≥ (x7_3.length : Int)
                                · rw [if_pos c50] at H
                                  have c50b0 : decide ((x7_3.length : Int) ≤ (rd t1221 x12_3)) = true := decide_eq_true c50
                                  clear c50
                                  obtain rfl := Option.some.inj H
                                  obtain ⟨Ao51, co51, eo51⟩ := Kd.R_slice HO_10.out
                                  subst eo51
                                  have p1225 : 0 ≤ (x12_3 : Int) := of_decide_eq_true (by first | (with_reducible assumption) | assumption)
                                  have q1225 : x12_3 < (t1221.length : Int) := of_decide_eq_true (by first | (with_reducible assumption) | assumption)
                                  obtain ⟨ad1225, e1225, hx1225_0⟩ := Kd.at_int (Kd.R_reads' HO_10.out).2.2 x12_3 p1225 q1225
                                  cases e1225
                                  replace p1225 := eq_true p1225
                                  replace q1225 := eq_true q1225
                                  have p1226 : 0 ≤ (x12_3 : Int) := of_decide_eq_true (by first | (with_reducible assumption) | assumption)
                                  have q1226 : x12_3 < (t1221.length : Int) := of_decide_eq_true (by first | (with_reducible assumption) | assumption)
                                  obtain ⟨ad1226, e1226, hx1226_0⟩ := Kd.at_int (Kd.R_reads' HO_10.out).2.2 x12_3 p1226 q1226
                                  obtain rfl : ad1225 = ad1226 := (by injection e1226)
                                  replace p1226 := eq_true p1226
                                  replace q1226 := eq_true q1226
                                  obtain ⟨Ao52, co52, eo52⟩ := Kd.R_slice HO_7.out
                                  subst eo52
                                  go_wp2
                                  repeat (go_quiet (fail); try go_wp2)
                                  go_ret
                                  exact ⟨by first | rfl | (simp [errW_none, errW_some] <;> rfl) | (simp [*, errW_none, errW_some] <;> rfl), by repeat (first | (with_reducible first | exact HB.out | apply below_alloc | apply pw_below_drewN | apply below_drew1 | refine below_set ?_ GE1206.out) | exact HB.out)⟩
                                · rw [if_neg c50] at H
                                  have c50b0 : decide ((x7_3.length : Int) ≤ (rd t1221 x12_3)) = false := decide_eq_false c50
                                  clear c50
                                  by_cases c53 : x12_3 > 0
                                  · rw [if_pos c53] at H
                                    have c53b0 : decide (0 < x12_3) = true := decide_eq_true c53
                                    clear c53
                                    obtain ⟨ji54, hji54⟩ : ∃ j_ : Int, (wrap64 (x12_3 - 1)) = j_ := ⟨_, rfl⟩
                                    replace H : (if 0 ≤ (ji54) then (if (ji54) < (t1221.length : Int) then (if (rd t1221 x12_3) ≤ (rd t1221 (ji54)) then (some false) else (if 0 ≤ (rd t1221 x12_3) then (if (rd t1221 x12_3) < (x7_3.length : Int) then (pylonlaw14_NetEndpoints.l1 k3 l1 t1214 (x7_3.set ((rd t1221 x12_3) : Int).toNat (wrap64 ((rd x7_3 (rd t1221 x12_3)) + 1))) (wrap64 (x8_3 + 1)) x9_2 t1221 (wrap64 (x12_3 + 1)) a0_0 l0_1) else (none)) else (none))) else (none)) else (none)) = some r := by first | (rw [hji54] at H; exact H) | (simp only [hji54] at H ⊢; exact H)
                                    have hji54w : (IntKind.i64.wrap (x12_3 - 1)) = ji54 := (i64_w _).trans hji54
                                    by_cases c55 : 0 ≤ (ji54)
                                    · rw [if_pos c55] at H
                                      have c55b0 : decide (0 ≤ (ji54)) = true := decide_eq_true c55
                                      clear c55
                                      by_cases c56 : (ji54) < (t1221.length : Int)
                                      · rw [if_pos c56] at H
                                        have c56b0 : decide ((ji54) < (t1221.length : Int)) = true := decide_eq_true c56
                                        clear c56
                                        by_cases c57 : (rd t1221 x12_3) ≤ (rd t1221 (ji54))
                                        · rw [if_pos c57] at H
                                          have c57b0 : decide ((rd t1221 x12_3) ≤ (rd t1221 (ji54))) = true := decide_eq_true c57
                                          clear c57
                                          obtain rfl := Option.some.inj H
                                          obtain ⟨Ao58, co58, eo58⟩ := Kd.R_slice HO_10.out
                                          subst eo58
                                          have p1225 : 0 ≤ (x12_3 : Int) := of_decide_eq_true (by first | (with_reducible assumption) | assumption)
                                          have q1225 : x12_3 < (t1221.length : Int) := of_decide_eq_true (by first | (with_reducible assumption) | assumption)
                                          obtain ⟨ad1225, e1225, hx1225_0⟩ := Kd.at_int (Kd.R_reads' HO_10.out).2.2 x12_3 p1225 q1225
                                          cases e1225
                                          replace p1225 := eq_true p1225
                                          replace q1225 := eq_true q1225
                                          have p1226 : 0 ≤ (x12_3 : Int) := of_decide_eq_true (by first | (with_reducible assumption) | assumption)
                                          have q1226 : x12_3 < (t1221.length : Int) := of_decide_eq_true (by first | (with_reducible assumption) | assumption)
                                          obtain ⟨ad1226, e1226, hx1226_0⟩ := Kd.at_int (Kd.R_reads' HO_10.out).2.2 x12_3 p1226 q1226
                                          obtain rfl : ad1225 = ad1226 := (by injection e1226)
                                          replace p1226 := eq_true p1226
                                          replace q1226 := eq_true q1226
                                          obtain ⟨Ao59, co59, eo59⟩ := Kd.R_slice HO_7.out
                                          subst eo59
                                          have p1227 : 0 ≤ (x12_3 : Int) := of_decide_eq_true (by first | (with_reducible assumption) | assumption)
                                          have q1227 : x12_3 < (t1221.length : Int) := of_decide_eq_true (by first | (with_reducible assumption) | assumption)
                                          obtain ⟨ad1227, e1227, hx1227_0⟩ := Kd.at_int (Kd.R_reads' HO_10.out).2.2 x12_3 p1227 q1227
                                          obtain rfl : ad1225 = ad1227 := (by injection e1227)
                                          replace p1227 := eq_true p1227
                                          replace q1227 := eq_true q1227
                                          have p1228 : 0 ≤ ((ji54) : Int) := of_decide_eq_true (by first | (with_reducible assumption) | assumption)
                                          have q1228 : (ji54) < (t1221.length : Int) := of_decide_eq_true (by first | (with_reducible assumption) | assumption)
                                          obtain ⟨ad1228, e1228, hx1228_0⟩ := Kd.at_int (Kd.R_reads' HO_10.out).2.2 (ji54) p1228 q1228
                                          obtain rfl : ad1225 = ad1228 := (by injection e1228)
                                          replace p1228 := eq_true p1228
                                          replace q1228 := eq_true q1228
                                          go_wp2
                                          repeat (go_quiet (fail); try go_wp2)
                                          go_ret
                                          exact ⟨by first | rfl | (simp [errW_none, errW_some] <;> rfl) | (simp only [← hji54]; first | rfl | (simp [errW_none, errW_some] <;> rfl)) | (simp [*, errW_none, errW_some] <;> rfl), by repeat (first | (with_reducible first | exact HB.out | apply below_alloc | apply pw_below_drewN | apply below_drew1 | refine below_set ?_ GE1206.out) | exact HB.out)⟩
                                        · rw [if_neg c57] at H
                                          have c57b0 : decide ((rd t1221 x12_3) ≤ (rd t1221 (ji54))) = false := decide_eq_false c57
                                          clear c57
                                          by_cases c60 : 0 ≤ (rd t1221 x12_3)
                                          · rw [if_pos c60] at H
                                            have c60b0 : decide (0 ≤ (rd t1221 x12_3)) = true := decide_eq_true c60
                                            clear c60
                                            by_cases c61 : (rd t1221 x12_3) < (x7_3.length : Int)
                                            · rw [if_pos c61] at H
                                              have c61b0 : decide ((rd t1221 x12_3) < (x7_3.length : Int)) = true := decide_eq_true c61
                                              clear c61
                                              obtain ⟨y1231, hy1231⟩ : ∃ y_ : List Int, y_ = (x7_3.set ((rd t1221 x12_3) : Int).toNat (wrap64 ((rd x7_3 (rd t1221 x12_3)) + 1))) := ⟨_, rfl⟩
                                              replace H : (pylonlaw14_NetEndpoints.l1 k3 l1 t1214 y1231 (wrap64 (x8_3 + 1)) x9_2 t1221 (wrap64 (x12_3 + 1)) a0_0 l0_1) = some r := by first | (rw [hy1231]; with_reducible exact H) | (have H2_ := (Option.bind_some _ _).symm.trans H; rw [hy1231]; with_reducible exact H2_) | (have H2_ := (Option.bind_some _ _).symm.trans H; with_reducible exact H2_) | with_reducible exact H | (rw [hy1231]; exact H) | exact H
                                              have Ny1231 := Aside0.mk hy1231
                                              clear hy1231
                                              have H' := Aside0.mk H
                                              clear H
                                              obtain ⟨Ao63, co63, eo63⟩ := Kd.R_slice HO_10.out
                                              subst eo63
                                              have p1225 : 0 ≤ (x12_3 : Int) := of_decide_eq_true (by first | (with_reducible assumption) | assumption)
                                              have q1225 : x12_3 < (t1221.length : Int) := of_decide_eq_true (by first | (with_reducible assumption) | assumption)
                                              obtain ⟨ad1225, e1225, hx1225_0⟩ := Kd.at_int (Kd.R_reads' HO_10.out).2.2 x12_3 p1225 q1225
                                              cases e1225
                                              replace p1225 := eq_true p1225
                                              replace q1225 := eq_true q1225
                                              have p1226 : 0 ≤ (x12_3 : Int) := of_decide_eq_true (by first | (with_reducible assumption) | assumption)
                                              have q1226 : x12_3 < (t1221.length : Int) := of_decide_eq_true (by first | (with_reducible assumption) | assumption)
                                              obtain ⟨ad1226, e1226, hx1226_0⟩ := Kd.at_int (Kd.R_reads' HO_10.out).2.2 x12_3 p1226 q1226
                                              obtain rfl : ad1225 = ad1226 := (by injection e1226)
                                              replace p1226 := eq_true p1226
                                              replace q1226 := eq_true q1226
                                              obtain ⟨Ao64, co64, eo64⟩ := Kd.R_slice HO_7.out
                                              subst eo64
                                              have p1227 : 0 ≤ (x12_3 : Int) := of_decide_eq_true (by first | (with_reducible assumption) | assumption)
                                              have q1227 : x12_3 < (t1221.length : Int) := of_decide_eq_true (by first | (with_reducible assumption) | assumption)
                                              obtain ⟨ad1227, e1227, hx1227_0⟩ := Kd.at_int (Kd.R_reads' HO_10.out).2.2 x12_3 p1227 q1227
                                              obtain rfl : ad1225 = ad1227 := (by injection e1227)
                                              replace p1227 := eq_true p1227
                                              replace q1227 := eq_true q1227
                                              have p1228 : 0 ≤ ((ji54) : Int) := of_decide_eq_true (by first | (with_reducible assumption) | assumption)
                                              have q1228 : (ji54) < (t1221.length : Int) := of_decide_eq_true (by first | (with_reducible assumption) | assumption)
                                              obtain ⟨ad1228, e1228, hx1228_0⟩ := Kd.at_int (Kd.R_reads' HO_10.out).2.2 (ji54) p1228 q1228
                                              obtain rfl : ad1225 = ad1228 := (by injection e1228)
                                              replace p1228 := eq_true p1228
                                              replace q1228 := eq_true q1228
                                              have p1229 : 0 ≤ (x12_3 : Int) := of_decide_eq_true (by first | (with_reducible assumption) | assumption)
                                              have q1229 : x12_3 < (t1221.length : Int) := of_decide_eq_true (by first | (with_reducible assumption) | assumption)
                                              obtain ⟨ad1229, e1229, hx1229_0⟩ := Kd.at_int (Kd.R_reads' HO_10.out).2.2 x12_3 p1229 q1229
                                              obtain rfl : ad1225 = ad1229 := (by injection e1229)
                                              replace p1229 := eq_true p1229
                                              replace q1229 := eq_true q1229
                                              have p1230 : 0 ≤ ((rd t1221 x12_3) : Int) := of_decide_eq_true (by first | (with_reducible assumption) | assumption)
                                              have q1230 : (rd t1221 x12_3) < (x7_3.length : Int) := of_decide_eq_true (by first | (with_reducible assumption) | assumption)
                                              obtain ⟨ad1230, e1230, hx1230_0⟩ := Kd.at_int (Kd.R_reads' HO_7.out).2.2 (rd t1221 x12_3) p1230 q1230
                                              cases e1230
                                              replace p1230 := eq_true p1230
                                              replace q1230 := eq_true q1230
                                              have p62 : 0 ≤ ((rd t1221 x12_3) : Int) := of_decide_eq_true (by first | (with_reducible assumption) | assumption)
                                              have q62 : ((rd t1221 x12_3) : Int) < ((x7_3.length : Int) : Int) := of_decide_eq_true (by first | (with_reducible assumption) | assumption)
                                              obtain ⟨go62, co62, eo62, gb62, gl62, cl62, HG62⟩ := Kd.R_form HO_7.out (by omega)
                                              (first | cases eo62 | (injection eo62 with ea_ en_ ec_; (first | subst ea_ | (injection ea_ with ea_; subst ea_)); subst ec_; clear en_))
                                              have GB62 := Aside0.mk gb62
                                              have GG62 := Aside0.mk HG62
                                              clear gb62 gl62 HG62
                                              (first | simp only [add_plain] at hx1230_0 | skip)
                                              obtain ⟨hx62_0, hf62_0⟩ := Kd.R_celln 0 HO_7.out ((rd t1221 x12_3) : Int) p62 q62
                                              replace p62 := eq_true p62
                                              replace q62 := eq_true q62
                                              have HP65 := Kd.R_putg HO_7.out ((rd t1221 x12_3) : Int) (wrap64 ((rd x7_3 (rd t1221 x12_3)) + 1))
                                              go_wp2_with (first | ((with_reducible refine gate_store (t := 3) (p := 100) rfl ?_); (try ((first | (generalize hq_ : World.drewN wr _ = wr) | (rw [drewN_self wr]; generalize hq_ : World.drewN wr _ = wr)); have n0_ := Aside0.mk (V_atq hq_ HO_1.out); have n1_ := Aside0.mk (Kd.R_at hq_ HO_5.out); have n2_ := Aside0.mk (Kd.R_at hq_ HO_7.out); have n3_ := Aside0.mk (Kd.R_at hq_ HO_10.out); have n4_ := Aside0.mk (blk_at hq_ BK1206.out); have n5_ := Aside0.mk (below_at hq_ HB.out); clear hq_ HO_1 HO_5 HO_7 HO_10 BK1206 HB; have HO_1 := n0_; have HO_5 := n1_; have HO_7 := n2_; have HO_10 := n3_; have BK1206 := n4_; have HB := n5_; clear n0_ n1_ n2_ n3_ n4_ n5_; (try (have HP65 := Kd.R_putg HO_7.out ((rd t1221 x12_3) : Int) (wrap64 ((rd x7_3 (rd t1221 x12_3)) + 1)))); (try (obtain ⟨hx62_0, hf62_0⟩ := Kd.R_celln 0 HO_7.out ((rd t1221 x12_3) : Int) (of_eq_true p62) (of_eq_true q62))))); refine store_event (t := 3) (p := 100) (v := ?vo_w66) (w1 := (wr.setCell ⟨go62, ((rd t1221 x12_3) : Int).toNat, none⟩ (.int .i64 (wrap64 ((rd x7_3 (rd t1221 x12_3)) + 1))))) ?hg ?ho ?hn ?hr ?_; (case ho => rfl); (case hg => rfl); (case hn => rfl); (case hr => first | (go_simp; done) | (go_simp; rfl)); intro w66 hw; have hg : wr.grownBy w66 (some go62) := (by rw [hw]; exact HP65.2); have hp_ : Kd.R (Kd.int .i64) 3 w66 w.heap.size (fun k_ => (w.heap.size ≤ k_) ∧ some k_ ≠ (v1215 : Value).ownBlock ∧ some k_ ≠ (.slice (some ad1225) t1221.length co63 : Value).ownBlock) (.slice (some ⟨go62, 0, none⟩) x7_3.length co64) y1231 := (by rw [hw, Ny1231.out]; exact HP65.1); clear HP65; have n0_ := Aside0.mk (Kd.V_afterv (v := (.slice (some ⟨go62, 0, none⟩) x7_3.length co64)) (v1 := (.slice (some ⟨go62, 0, none⟩) x7_3.length co64)) (ok := (fun k_ => (P1_ k_ ∨ w.heap.size ≤ k_) ∧ some k_ ≠ (v1215 : Value).ownBlock ∧ some k_ ≠ (.slice (some ad1225) t1221.length co63 : Value).ownBlock ∧ k_ ≠ gb1206)) (by (with_reducible repeat (first | apply Kd.V_alloc | apply Kd.V_drewN | apply Kd.V_drew)); exact Kd.V_mono HO_1.out (fun _ hk => ⟨⟨hk.1, ⟨hk.2.1, ⟨hk.2.2.2.1, hk.2.2.2.2⟩⟩⟩, hk.2.2.1⟩)) hg (.inl rfl)); have n1_ := Aside0.mk (Kd.R_after (v := (.slice (some ⟨go62, 0, none⟩) x7_3.length co64)) (v1 := (.slice (some ⟨go62, 0, none⟩) x7_3.length co64)) (ok := (fun k_ => (w.heap.size ≤ k_) ∧ some k_ ≠ (.slice (some ad1225) t1221.length co63 : Value).ownBlock)) (by (with_reducible repeat (first | apply Kd.R_alloc | apply Kd.R_drewN | apply Kd.R_drew)); exact Kd.R_mono HO_5.out (fun _ hk => ⟨⟨hk.1, hk.2.2⟩, hk.2.1⟩)) hg (.inl rfl)); have n2_ := Aside0.mk (hp_); have n3_ := Aside0.mk (Kd.R_after (v := (.slice (some ⟨go62, 0, none⟩) x7_3.length co64)) (v1 := (.slice (some ⟨go62, 0, none⟩) x7_3.length co64)) (ok := (fun k_ => (w.heap.size ≤ k_) ∧ some k_ ≠ (v1215 : Value).ownBlock)) (by (with_reducible repeat (first | apply Kd.R_alloc | apply Kd.R_drewN | apply Kd.R_drew)); exact Kd.R_mono HO_10.out (fun _ hk => ⟨⟨hk.1, hk.2.1⟩, hk.2.2⟩)) hg (.inl rfl)); have n4_ := Aside0.mk (blk_grown (g := gb1206) (o := .cells #[.int .i64 a0_0, .slice A0_1 l0_1.length c0_1] 24 (0, 0)) (by (with_reducible repeat (first | refine blk_drewN ?_ _ | refine blk_drew ?_ | refine blk_alloc ?_ _)); exact BK1206.out) hg (Kd.R_ne HO_7.out BK1206.out (by decide))); have n5_ := Aside0.mk ((by rw [hw]; exact below_set (HB.out) GB62.out : Below w.heap.size w w66)); clear HO_1; clear HO_5; clear HO_7; clear HO_10; clear BK1206; clear HB; have HO_1 := n0_; have HO_5 := n1_; have HO_7 := n2_; have HO_10 := n3_; have BK1206 := n4_; have HB := n5_; clear n0_ n1_ n2_ n3_ n4_ n5_; clear hg hw hp_) | (go_quiet (fail)))
                                              go_roundg k3
                                              case measure => have := HJ2.out; have := HK2.out; have := HK3.out; omega
                                              case rel => exact ⟨(y1231), (wrap64 (x8_3 + 1)), (wrap64 (x12_3 + 1)), (by first | rfl | (simp; done) | (simp [*]; done)), (by first | rfl | (simp; done) | (simp [*]; done)), H', ⟨by have := HJ2.out; have := HK2.out; have := HK3.out; omega⟩, ⟨by (with_reducible repeat (first | apply Kd.V_alloc | apply Kd.V_drewN | apply Kd.V_drew)); exact Kd.V_mono HO_1.out (fun _ hk => ⟨hk.1.1, ⟨hk.1.2.1, ⟨hk.2, ⟨hk.1.2.2.1, hk.1.2.2.2⟩⟩⟩⟩)⟩, ⟨by (with_reducible repeat (first | apply Kd.R_alloc | apply Kd.R_drewN | apply Kd.R_drew)); exact Kd.R_mono HO_5.out (fun _ hk => ⟨hk.1.1, ⟨hk.2, hk.1.2⟩⟩)⟩, ⟨by (with_reducible repeat (first | apply Kd.R_alloc | apply Kd.R_drewN | apply Kd.R_drew)); exact HO_7.out⟩, ⟨by (with_reducible repeat (first | apply Kd.R_alloc | apply Kd.R_drewN | apply Kd.R_drew)); exact Kd.R_mono HO_10.out (fun _ hk => ⟨hk.1.1, ⟨hk.1.2, hk.2⟩⟩)⟩, ⟨by (with_reducible repeat (first | refine blk_drewN ?_ _ | refine blk_drew ?_ | refine blk_alloc ?_ _)); exact BK1206.out⟩, ⟨by repeat (first | (with_reducible first | exact HB.out | apply below_alloc | apply pw_below_drewN | apply below_drew1 | refine below_set ?_ GE1206.out) | exact HB.out)⟩⟩
                                            · rw [if_neg c61] at H
                                              exact absurd H (by simp)
                                          · rw [if_neg c60] at H
                                            exact absurd H (by simp)
                                      · rw [if_neg c56] at H
                                        exact absurd H (by simp)
                                    · rw [if_neg c55] at H
                                      exact absurd H (by simp)
                                  · rw [if_neg c53] at H
                                    have c53b0 : decide (0 < x12_3) = false := decide_eq_false c53
                                    clear c53
                                    by_cases c67 : 0 ≤ (rd t1221 x12_3)
                                    · rw [if_pos c67] at H
                                      have c67b0 : decide (0 ≤ (rd t1221 x12_3)) = true := decide_eq_true c67
                                      clear c67
                                      by_cases c68 : (rd t1221 x12_3) < (x7_3.length : Int)
                                      · rw [if_pos c68] at H
                                        have c68b0 : decide ((rd t1221 x12_3) < (x7_3.length : Int)) = true := decide_eq_true c68
                                        clear c68
                                        obtain ⟨y1234, hy1234⟩ : ∃ y_ : List Int, y_ = (x7_3.set ((rd t1221 x12_3) : Int).toNat (wrap64 ((rd x7_3 (rd t1221 x12_3)) + 1))) := ⟨_, rfl⟩
                                        replace H : (pylonlaw14_NetEndpoints.l1 k3 l1 t1214 y1234 (wrap64 (x8_3 + 1)) x9_2 t1221 (wrap64 (x12_3 + 1)) a0_0 l0_1) = some r := by first | (rw [hy1234]; with_reducible exact H) | (have H2_ := (Option.bind_some _ _).symm.trans H; rw [hy1234]; with_reducible exact H2_) | (have H2_ := (Option.bind_some _ _).symm.trans H; with_reducible exact H2_) | with_reducible exact H | (rw [hy1234]; exact H) | exact H
                                        have Ny1234 := Aside0.mk hy1234
                                        clear hy1234
                                        have H' := Aside0.mk H
                                        clear H
                                        obtain ⟨Ao70, co70, eo70⟩ := Kd.R_slice HO_10.out
                                        subst eo70
                                        have p1225 : 0 ≤ (x12_3 : Int) := of_decide_eq_true (by first | (with_reducible assumption) | assumption)
                                        have q1225 : x12_3 < (t1221.length : Int) := of_decide_eq_true (by first | (with_reducible assumption) | assumption)
                                        obtain ⟨ad1225, e1225, hx1225_0⟩ := Kd.at_int (Kd.R_reads' HO_10.out).2.2 x12_3 p1225 q1225
                                        cases e1225
                                        replace p1225 := eq_true p1225
                                        replace q1225 := eq_true q1225
                                        have p1226 : 0 ≤ (x12_3 : Int) := of_decide_eq_true (by first | (with_reducible assumption) | assumption)
                                        have q1226 : x12_3 < (t1221.length : Int) := of_decide_eq_true (by first | (with_reducible assumption) | assumption)
                                        obtain ⟨ad1226, e1226, hx1226_0⟩ := Kd.at_int (Kd.R_reads' HO_10.out).2.2 x12_3 p1226 q1226
                                        obtain rfl : ad1225 = ad1226 := (by injection e1226)
                                        replace p1226 := eq_true p1226
                                        replace q1226 := eq_true q1226
                                        obtain ⟨Ao71, co71, eo71⟩ := Kd.R_slice HO_7.out
                                        subst eo71
                                        have p1232 : 0 ≤ (x12_3 : Int) := of_decide_eq_true (by first | (with_reducible assumption) | assumption)
                                        have q1232 : x12_3 < (t1221.length : Int) := of_decide_eq_true (by first | (with_reducible assumption) | assumption)
                                        obtain ⟨ad1232, e1232, hx1232_0⟩ := Kd.at_int (Kd.R_reads' HO_10.out).2.2 x12_3 p1232 q1232
                                        obtain rfl : ad1225 = ad1232 := (by injection e1232)
                                        replace p1232 := eq_true p1232
                                        replace q1232 := eq_true q1232
                                        have p1233 : 0 ≤ ((rd t1221 x12_3) : Int) := of_decide_eq_true (by first | (with_reducible assumption) | assumption)
                                        have q1233 : (rd t1221 x12_3) < (x7_3.length : Int) := of_decide_eq_true (by first | (with_reducible assumption) | assumption)
                                        obtain ⟨ad1233, e1233, hx1233_0⟩ := Kd.at_int (Kd.R_reads' HO_7.out).2.2 (rd t1221 x12_3) p1233 q1233
                                        cases e1233
                                        replace p1233 := eq_true p1233
                                        replace q1233 := eq_true q1233
                                        have p69 : 0 ≤ ((rd t1221 x12_3) : Int) := of_decide_eq_true (by first | (with_reducible assumption) | assumption)
                                        have q69 : ((rd t1221 x12_3) : Int) < ((x7_3.length : Int) : Int) := of_decide_eq_true (by first | (with_reducible assumption) | assumption)
                                        obtain ⟨go69, co69, eo69, gb69, gl69, cl69, HG69⟩ := Kd.R_form HO_7.out (by omega)
                                        (first | cases eo69 | (injection eo69 with ea_ en_ ec_; (first | subst ea_ | (injection ea_ with ea_; subst ea_)); subst ec_; clear en_))
                                        have GB69 := Aside0.mk gb69
                                        have GG69 := Aside0.mk HG69
                                        clear gb69 gl69 HG69
                                        (first | simp only [add_plain] at hx1233_0 | skip)
                                        obtain ⟨hx69_0, hf69_0⟩ := Kd.R_celln 0 HO_7.out ((rd t1221 x12_3) : Int) p69 q69
                                        replace p69 := eq_true p69
                                        replace q69 := eq_true q69
                                        have HP72 := Kd.R_putg HO_7.out ((rd t1221 x12_3) : Int) (wrap64 ((rd x7_3 (rd t1221 x12_3)) + 1))
                                        go_wp2_with (first | ((with_reducible refine gate_store (t := 3) (p := 100) rfl ?_); (try ((first | (generalize hq_ : World.drewN wr _ = wr) | (rw [drewN_self wr]; generalize hq_ : World.drewN wr _ = wr)); have n0_ := Aside0.mk (V_atq hq_ HO_1.out); have n1_ := Aside0.mk (Kd.R_at hq_ HO_5.out); have n2_ := Aside0.mk (Kd.R_at hq_ HO_7.out); have n3_ := Aside0.mk (Kd.R_at hq_ HO_10.out); have n4_ := Aside0.mk (blk_at hq_ BK1206.out); have n5_ := Aside0.mk (below_at hq_ HB.out); clear hq_ HO_1 HO_5 HO_7 HO_10 BK1206 HB; have HO_1 := n0_; have HO_5 := n1_; have HO_7 := n2_; have HO_10 := n3_; have BK1206 := n4_; have HB := n5_; clear n0_ n1_ n2_ n3_ n4_ n5_; (try (have HP72 := Kd.R_putg HO_7.out ((rd t1221 x12_3) : Int) (wrap64 ((rd x7_3 (rd t1221 x12_3)) + 1)))); (try (obtain ⟨hx69_0, hf69_0⟩ := Kd.R_celln 0 HO_7.out ((rd t1221 x12_3) : Int) (of_eq_true p69) (of_eq_true q69))))); refine store_event (t := 3) (p := 100) (v := ?vo_w73) (w1 := (wr.setCell ⟨go69, ((rd t1221 x12_3) : Int).toNat, none⟩ (.int .i64 (wrap64 ((rd x7_3 (rd t1221 x12_3)) + 1))))) ?hg ?ho ?hn ?hr ?_; (case ho => rfl); (case hg => rfl); (case hn => rfl); (case hr => first | (go_simp; done) | (go_simp; rfl)); intro w73 hw; have hg : wr.grownBy w73 (some go69) := (by rw [hw]; exact HP72.2); have hp_ : Kd.R (Kd.int .i64) 3 w73 w.heap.size (fun k_ => (w.heap.size ≤ k_) ∧ some k_ ≠ (v1215 : Value).ownBlock ∧ some k_ ≠ (.slice (some ad1225) t1221.length co70 : Value).ownBlock) (.slice (some ⟨go69, 0, none⟩) x7_3.length co71) y1234 := (by rw [hw, Ny1234.out]; exact HP72.1); clear HP72; have n0_ := Aside0.mk (Kd.V_afterv (v := (.slice (some ⟨go69, 0, none⟩) x7_3.length co71)) (v1 := (.slice (some ⟨go69, 0, none⟩) x7_3.length co71)) (ok := (fun k_ => (P1_ k_ ∨ w.heap.size ≤ k_) ∧ some k_ ≠ (v1215 : Value).ownBlock ∧ some k_ ≠ (.slice (some ad1225) t1221.length co70 : Value).ownBlock ∧ k_ ≠ gb1206)) (by (with_reducible repeat (first | apply Kd.V_alloc | apply Kd.V_drewN | apply Kd.V_drew)); exact Kd.V_mono HO_1.out (fun _ hk => ⟨⟨hk.1, ⟨hk.2.1, ⟨hk.2.2.2.1, hk.2.2.2.2⟩⟩⟩, hk.2.2.1⟩)) hg (.inl rfl)); have n1_ := Aside0.mk (Kd.R_after (v := (.slice (some ⟨go69, 0, none⟩) x7_3.length co71)) (v1 := (.slice (some ⟨go69, 0, none⟩) x7_3.length co71)) (ok := (fun k_ => (w.heap.size ≤ k_) ∧ some k_ ≠ (.slice (some ad1225) t1221.length co70 : Value).ownBlock)) (by (with_reducible repeat (first | apply Kd.R_alloc | apply Kd.R_drewN | apply Kd.R_drew)); exact Kd.R_mono HO_5.out (fun _ hk => ⟨⟨hk.1, hk.2.2⟩, hk.2.1⟩)) hg (.inl rfl)); have n2_ := Aside0.mk (hp_); have n3_ := Aside0.mk (Kd.R_after (v := (.slice (some ⟨go69, 0, none⟩) x7_3.length co71)) (v1 := (.slice (some ⟨go69, 0, none⟩) x7_3.length co71)) (ok := (fun k_ => (w.heap.size ≤ k_) ∧ some k_ ≠ (v1215 : Value).ownBlock)) (by (with_reducible repeat (first | apply Kd.R_alloc | apply Kd.R_drewN | apply Kd.R_drew)); exact Kd.R_mono HO_10.out (fun _ hk => ⟨⟨hk.1, hk.2.1⟩, hk.2.2⟩)) hg (.inl rfl)); have n4_ := Aside0.mk (blk_grown (g := gb1206) (o := .cells #[.int .i64 a0_0, .slice A0_1 l0_1.length c0_1] 24 (0, 0)) (by (with_reducible repeat (first | refine blk_drewN ?_ _ | refine blk_drew ?_ | refine blk_alloc ?_ _)); exact BK1206.out) hg (Kd.R_ne HO_7.out BK1206.out (by decide))); have n5_ := Aside0.mk ((by rw [hw]; exact below_set (HB.out) GB69.out : Below w.heap.size w w73)); clear HO_1; clear HO_5; clear HO_7; clear HO_10; clear BK1206; clear HB; have HO_1 := n0_; have HO_5 := n1_; have HO_7 := n2_; have HO_10 := n3_; have BK1206 := n4_; have HB := n5_; clear n0_ n1_ n2_ n3_ n4_ n5_; clear hg hw hp_) | (go_quiet (fail)))
                                        go_roundg k3
                                        case measure => have := HJ2.out; have := HK2.out; have := HK3.out; omega
                                        case rel => exact ⟨(y1234), (wrap64 (x8_3 + 1)), (wrap64 (x12_3 + 1)), (by first | rfl | (simp; done) | (simp [*]; done)), (by first | rfl | (simp; done) | (simp [*]; done)), H', ⟨by have := HJ2.out; have := HK2.out; have := HK3.out; omega⟩, ⟨by (with_reducible repeat (first | apply Kd.V_alloc | apply Kd.V_drewN | apply Kd.V_drew)); exact Kd.V_mono HO_1.out (fun _ hk => ⟨hk.1.1, ⟨hk.1.2.1, ⟨hk.2, ⟨hk.1.2.2.1, hk.1.2.2.2⟩⟩⟩⟩)⟩, ⟨by (with_reducible repeat (first | apply Kd.R_alloc | apply Kd.R_drewN | apply Kd.R_drew)); exact Kd.R_mono HO_5.out (fun _ hk => ⟨hk.1.1, ⟨hk.2, hk.1.2⟩⟩)⟩, ⟨by (with_reducible repeat (first | apply Kd.R_alloc | apply Kd.R_drewN | apply Kd.R_drew)); exact HO_7.out⟩, ⟨by (with_reducible repeat (first | apply Kd.R_alloc | apply Kd.R_drewN | apply Kd.R_drew)); exact Kd.R_mono HO_10.out (fun _ hk => ⟨hk.1.1, ⟨hk.1.2, hk.2⟩⟩)⟩, ⟨by (with_reducible repeat (first | refine blk_drewN ?_ _ | refine blk_drew ?_ | refine blk_alloc ?_ _)); exact BK1206.out⟩, ⟨by repeat (first | (with_reducible first | exact HB.out | apply below_alloc | apply pw_below_drewN | apply below_drew1 | refine below_set ?_ GE1206.out) | exact HB.out)⟩⟩
                                      · rw [if_neg c68] at H
                                        exact absurd H (by simp)
                                    · rw [if_neg c67] at H
                                      exact absurd H (by simp)
                            · rw [if_neg c47] at H
                              exact absurd H (by simp)
                          · rw [if_neg c46] at H
                            have c46b0 : decide (x12_3 < (t1221.length : Int)) = false := decide_eq_false c46
                            clear c46
                            have H' := Aside0.mk H
                            clear H
                            obtain ⟨Ao74, co74, eo74⟩ := Kd.R_slice HO_10.out
                            subst eo74
                            go_wp2
                            repeat (go_quiet (fail); try go_wp2)
                            go_roundg k3
                            case measure => have := HJ2.out; have := HK2.out; have := HK3.out; omega
                            case rel => exact ⟨(x7_3), (x8_3), (wrap64 (x9_2 + 1)), (by first | rfl | (simp; done) | (simp [*]; done)), (by first | rfl | (simp; done) | (simp [*]; done)), H', ⟨by have := HJ2.out; have := HK2.out; have := HK3.out; omega⟩, ⟨by (with_reducible repeat (first | apply Kd.V_alloc | apply Kd.V_drewN | apply Kd.V_drew)); exact Kd.V_mono HO_1.out (fun _ hk => ⟨hk.1, ⟨hk.2.1, ⟨hk.2.2.1, hk.2.2.2.2⟩⟩⟩)⟩, ⟨by (with_reducible repeat (first | apply Kd.R_alloc | apply Kd.R_drewN | apply Kd.R_drew)); exact Kd.R_mono HO_5.out (fun _ hk => ⟨hk.1, hk.2.1⟩)⟩, ⟨by (with_reducible repeat (first | apply Kd.R_alloc | apply Kd.R_drewN | apply Kd.R_drew)); exact Kd.R_mono HO_7.out (fun _ hk => ⟨hk.1, hk.2.1⟩)⟩, ⟨by (with_reducible repeat (first | refine blk_drewN ?_ _ | refine blk_drew ?_ | refine blk_alloc ?_ _)); exact BK1206.out⟩, ⟨by repeat (first | (with_reducible first | exact HB.out | apply below_alloc | apply pw_below_drewN | apply below_drew1 | refine below_set ?_ GE1206.out) | exact HB.out)⟩⟩
                    · rw [if_neg c43] at H
                      have c43b0 : (t1224 == 0) = false := beq_eq_false_iff_ne.mpr c43
                      have c43b1 : (t1224 != 0) = true := bne_iff_ne.mpr c43
                      obtain rfl := Option.some.inj H
                      have hcz75_0 : wr.cell? ⟨gb1206, 0, none⟩ = some (.int .i64 a0_0) := (blk_cell BK1206.out 0).trans rfl
                      have hcz75_1 : wr.cell? ⟨gb1206, 1, none⟩ = some (.slice A0_1 l0_1.length c0_1) := (blk_cell BK1206.out 1).trans rfl
                      have hfz75_0 := blk_frozen BK1206.out 0
                      have hfz75_1 := blk_frozen BK1206.out 1
                      go_wp2_with (first | (go_at_call 71; (with_reducible refine (net_At.calls a0_0 _ _ l0_1 _ _ l1 x9_2 t1221 t1224 _ ?side1 ?side2 ?side3 ?side4 A42.out).mono ?_); (case side1 => repeat (first | exact (Kd.C_below HR0_1.out HB.out) | (with_reducible refine Kd.C_alloc ?_ _) | (with_reducible refine Kd.C_drewN ?_ _) | (with_reducible refine Kd.C_drew ?_))); (case side2 => exact HC0_1.out); (case side3 => repeat (first | exact (Kd.V_reads' HO_1.out).2.2 | (with_reducible refine Kd.C_alloc ?_ _) | (with_reducible refine Kd.C_drewN ?_ _) | (with_reducible refine Kd.C_drew ?_))); (case side4 => exact (Kd.V_reads' HO_1.out).2.1); rintro e w76 ⟨v1222, rfl, ho0, hb⟩; have n0_ := Aside0.mk (Kd.V_elder' (by (with_reducible repeat (first | apply Kd.V_alloc | apply Kd.V_drewN | apply Kd.V_drew)); exact HO_1.out) (Kd.R_base ho0) hb); have n1_ := Aside0.mk (Kd.R_elder' (by (with_reducible repeat (first | apply Kd.R_alloc | apply Kd.R_drewN | apply Kd.R_drew)); exact HO_5.out) (Kd.R_base ho0) hb); have n2_ := Aside0.mk (Kd.R_elder' (by (with_reducible repeat (first | apply Kd.R_alloc | apply Kd.R_drewN | apply Kd.R_drew)); exact HO_7.out) (Kd.R_base ho0) hb); have n3_ := Aside0.mk (Kd.R_lower (Kd.R_new' (Kd.R_new' (Kd.R_newM (M := fun k_ => (w.heap.size ≤ k_)) ho0 (below_size (by repeat (first | (with_reducible first | exact HB.out | apply below_alloc | apply pw_below_drewN | apply below_drew1 | refine below_set ?_ GE1206.out) | exact HB.out))) (fun k_ h_ => h_)) (Kd.R_lt (by (with_reducible repeat (first | apply Kd.R_alloc | apply Kd.R_drewN | apply Kd.R_drew)); exact HO_5.out))) (Kd.R_lt (by (with_reducible repeat (first | apply Kd.R_alloc | apply Kd.R_drewN | apply Kd.R_drew)); exact HO_7.out))) (below_size (by repeat (first | (with_reducible first | exact HB.out | apply below_alloc | apply pw_below_drewN | apply below_drew1 | refine below_set ?_ GE1206.out) | exact HB.out)))); have n4_ := Aside0.mk (blk_below (g := gb1206) (o := .cells #[.int .i64 a0_0, .slice A0_1 l0_1.length c0_1] 24 (0, 0)) (by (with_reducible repeat (first | refine blk_drewN ?_ _ | refine blk_drew ?_ | refine blk_alloc ?_ _)); exact BK1206.out) hb); have n5_ := Aside0.mk (below_step (by repeat (first | (with_reducible first | exact HB.out | apply below_alloc | apply pw_below_drewN | apply below_drew1 | refine below_set ?_ GE1206.out) | exact HB.out)) hb); clear HO_1; clear HO_5; clear HO_7; clear BK1206; clear HB; have HO_1 := n0_; have HO_5 := n1_; have HO_7 := n2_; have HO1223 := n3_; have BK1206 := n4_; have HB := n5_; clear n0_ n1_ n2_ n3_ n4_ n5_; (try clear hb); (try clear hb2); (try clear hk); (try clear hi); (try clear ho0)) | (go_quiet (fail)))
                      go_ret
                      exact ⟨by first | rfl | (simp [errW_none, errW_some] <;> rfl) | (simp [*, errW_none, errW_some] <;> rfl), by repeat (first | (with_reducible first | exact HB.out | apply below_alloc | apply pw_below_drewN | apply below_drew1 | refine below_set ?_ GE1206.out) | exact HB.out)⟩
                  · rw [if_neg c41] at H
                    have c41b0 : decide (x9_2 < a0_0) = false := decide_eq_false c41
                    clear c41
                    have H' := Aside0.mk H
                    clear H
                    have hcz77_0 : wr.cell? ⟨gb1206, 0, none⟩ = some (.int .i64 a0_0) := (blk_cell BK1206.out 0).trans rfl
                    have hcz77_1 : wr.cell? ⟨gb1206, 1, none⟩ = some (.slice A0_1 l0_1.length c0_1) := (blk_cell BK1206.out 1).trans rfl
                    have hfz77_0 := blk_frozen BK1206.out 0
                    have hfz77_1 := blk_frozen BK1206.out 1
                    go_wp2
                    repeat (go_quiet (fail); try go_wp2)
                    go_loopg [13] k2 (fun kq v13 w' => ∃ (x13_3 : Int), v13 = .int .i64 x13_3 ∧ Aside0 (pylonlaw14_NetEndpoints.l2 kq t1214 x7_2 x8_2 x13_3 = some r) ∧ Aside0 (kq ≤ k2) ∧ Aside0 (Kd.R (Kd.int .i64) 3 w' w.heap.size (fun k_ => (w.heap.size ≤ k_) ∧ some k_ ≠ (v1219 : Value).ownBlock) v1215 t1214) ∧ Aside0 (Kd.R (Kd.int .i64) 3 w' w.heap.size (fun k_ => (w.heap.size ≤ k_) ∧ some k_ ≠ (v1215 : Value).ownBlock) v1219 x7_2) ∧ Aside0 (w'.heap[gb1206]? = some (.cells #[.int .i64 a0_0, (.slice A0_1 l0_1.length c0_1)] 24 (0, 0))) ∧ Aside0 (Below w.heap.size w w'))
                    case atStart => exact ⟨(0), (by first | rfl | (simp; done) | (simp [*]; done)), H', ⟨Nat.le_refl _⟩, ⟨by (with_reducible repeat (first | apply Kd.R_alloc | apply Kd.R_drewN | apply Kd.R_drew)); exact HO_5.out⟩, ⟨by (with_reducible repeat (first | apply Kd.R_alloc | apply Kd.R_drewN | apply Kd.R_drew)); exact HO_7.out⟩, ⟨by (with_reducible repeat (first | refine blk_drewN ?_ _ | refine blk_drew ?_ | refine blk_alloc ?_ _)); exact BK1206.out⟩, ⟨by repeat (first | (with_reducible first | exact HB.out | apply below_alloc | apply pw_below_drewN | apply below_drew1 | refine below_set ?_ GE1206.out) | exact HB.out)⟩⟩
                    case round =>
                      clear H'
                      try clear c1
                      try clear p1
                      try clear q1
                      try clear hx1
                      try clear c2
                      try clear p2
                      try clear c3
                      try clear c4
                      try clear c5
                      try clear c6
                      try clear p6
                      try clear q6
                      try clear hx6
                      try clear hf6
                      try clear p12
                      try clear q12
                      try clear hx12
                      try clear c13
                      try clear c22
                      try clear c29
                      try clear c33
                      try clear c33b0
                      try clear c33b1
                      try clear c34
                      try clear c34b0
                      try clear c34b1
                      try clear c35
                      try clear c35b0
                      try clear c35b1
                      try clear c41
                      try clear c41b0
                      try clear c43
                      try clear c43b0
                      try clear c43b1
                      try clear c46
                      try clear c46b0
                      try clear c47
                      try clear c47b0
                      try clear c48
                      try clear c48b0
                      try clear c50
                      try clear c50b0
                      try clear c53
                      try clear c53b0
                      try clear c55
                      try clear c55b0
                      try clear c56
                      try clear c56b0
                      try clear c57
                      try clear c57b0
                      try clear c60
                      try clear c60b0
                      try clear c61
                      try clear c61b0
                      try clear p62
                      try clear q62
                      try clear hx62
                      try clear hf62
                      try clear p64
                      try clear c67
                      try clear c67b0
                      try clear c68
                      try clear c68b0
                      try clear p69
                      try clear q69
                      try clear hx69
                      try clear hf69
                      try clear hcz15_0
                      try clear hcz15_1
                      try clear hcz21_0
                      try clear hcz21_1
                      try clear hcz23_0
                      try clear hcz23_1
                      try clear hcz36_0
                      try clear hcz36_1
                      try clear hcz38_0
                      try clear hcz38_1
                      try clear hcz44_0
                      try clear hcz44_1
                      try clear hcz75_0
                      try clear hcz75_1
                      try clear hcz77_0
                      try clear hcz77_1
                      try clear hcz7_0
                      try clear hcz7_1
                      try clear hfz15_0
                      try clear hfz15_1
                      try clear hfz21_0
                      try clear hfz21_1
                      try clear hfz23_0
                      try clear hfz23_1
                      try clear hfz36_0
                      try clear hfz36_1
                      try clear hfz38_0
                      try clear hfz38_1
                      try clear hfz44_0
                      try clear hfz44_1
                      try clear hfz75_0
                      try clear hfz75_1
                      try clear hfz77_0
                      try clear hfz77_1
                      try clear hfz7_0
                      try clear hfz7_1
                      try clear hx1225_0
                      try clear hx1226_0
                      try clear hx1227_0
                      try clear hx1228_0
                      try clear hx1229_0
                      try clear hx1230_0
                      try clear hx1232_0
                      try clear hx1233_0
                      try clear hx62_0
                      try clear hx69_0
                      try clear p1225
                      try clear p1226
                      try clear p1227
                      try clear p1228
                      try clear p1229
                      try clear p1230
                      try clear p1232
                      try clear p1233
                      try clear p2
                      try clear p62
                      try clear p69
                      try clear q1225
                      try clear q1226
                      try clear q1227
                      try clear q1228
                      try clear q1229
                      try clear q1230
                      try clear q1232
                      try clear q1233
                      try clear q62
                      try clear q69
                      obtain ⟨x13_3, rfl, HA, HK3, HO_5, HO_7, BK1206, HB⟩ := hrel
                      cases gk with
                      | zero => exact absurd HA.out (by simp [pylonlaw14_NetEndpoints.l2])
                      | succ k3 =>
                        have H := HA.out
                        clear HA
                        simp only [pylonlaw14_NetEndpoints.l2] at H
                        by_cases c78 : x13_3 < (t1214.length : Int)
                        · rw [if_pos c78] at H
                          have c78b0 : decide (x13_3 < (t1214.length : Int)) = true := decide_eq_true c78
                          clear c78
                          by_cases c79 : 0 ≤ x13_3
                          · rw [if_pos c79] at H
                            have c79b0 : decide (0 ≤ x13_3) = true := decide_eq_true c79
                            clear c79
                            by_cases c80 : (rd t1214 x13_3) < 0
                            · rw [if_pos c80] at H
                              have c80b0 : decide ((rd t1214 x13_3) < 0) = true := decide_eq_true c80
                              clear c80
                              obtain rfl := Option.some.inj H
                              obtain ⟨Ao81, co81, eo81⟩ := Kd.R_slice HO_5.out
                              subst eo81
                              have p1235 : 0 ≤ (x13_3 : Int) := of_decide_eq_true (by first | (with_reducible assumption) | assumption)
                              have q1235 : x13_3 < (t1214.length : Int) := of_decide_eq_true (by first | (with_reducible assumption) | assumption)
                              obtain ⟨ad1235, e1235, hx1235_0⟩ := Kd.at_int (Kd.R_reads' HO_5.out).2.2 x13_3 p1235 q1235
                              cases e1235
                              replace p1235 := eq_true p1235
                              replace q1235 := eq_true q1235
                              go_wp2
                              repeat (go_quiet (fail); try go_wp2)
                              go_ret
                              exact ⟨by first | rfl | (simp [errW_none, errW_some] <;> rfl) | (simp [*, errW_none, errW_some] <;> rfl), by repeat (first | (with_reducible first | exact HB.out | apply below_alloc | apply pw_below_drewN | apply below_drew1 | refine below_set ?_ GE1206.out) | exact HB.out)⟩
                            · rw [if_neg c80] at H
                              have c80b0 : decide ((rd t1214 x13_3) < 0) = false := decide_eq_false c80
                              clear c80
                              by_cases c82 : (rd t1214 x13_3) ≥ (x7_2.length : Int)
                              · rw [if_pos c82] at H
                                have c82b0 : decide ((x7_2.length : Int) ≤ (rd t1214 x13_3)) = true := decide_eq_true c82
                                clear c82
                                obtain rfl := Option.some.inj H
                                obtain ⟨Ao83, co83, eo83⟩ := Kd.R_slice HO_5.out
                                subst eo83
                                have p1235 : 0 ≤ (x13_3 : Int) := of_decide_eq_true (by first | (with_reducible assumption) | assumption)
                                have q1235 : x13_3 < (t1214.length : Int) := of_decide_eq_true (by first | (with_reducible assumption) | assumption)
                                obtain ⟨ad1235, e1235, hx1235_0⟩ := Kd.at_int (Kd.R_reads' HO_5.out).2.2 x13_3 p1235 q1235
                                cases e1235
                                replace p1235 := eq_true p1235
                                replace q1235 := eq_true q1235
                                have p1236 : 0 ≤ (x13_3 : Int) := of_decide_eq_true (by first | (with_reducible assumption) | assumption)
                                have q1236 : x13_3 < (t1214.length : Int) := of_decide_eq_true (by first | (with_reducible assumption) | assumption)
                                obtain ⟨ad1236, e1236, hx1236_0⟩ := Kd.at_int (Kd.R_reads' HO_5.out).2.2 x13_3 p1236 q1236
                                obtain rfl : ad1235 = ad1236 := (by injection e1236)
                                replace p1236 := eq_true p1236
                                replace q1236 := eq_true q1236
                                obtain ⟨Ao84, co84, eo84⟩ := Kd.R_slice HO_7.out
                                subst eo84
                                go_wp2
                                repeat (go_quiet (fail); try go_wp2)
                                go_ret
                                exact ⟨by first | rfl | (simp [errW_none, errW_some] <;> rfl) | (simp [*, errW_none, errW_some] <;> rfl), by repeat (first | (with_reducible first | exact HB.out | apply below_alloc | apply pw_below_drewN | apply below_drew1 | refine below_set ?_ GE1206.out) | exact HB.out)⟩
                              · rw [if_neg c82] at H
                                have c82b0 : decide ((x7_2.length : Int) ≤ (rd t1214 x13_3)) = false := decide_eq_false c82
                                clear c82
                                by_cases c85 : 0 ≤ (rd t1214 x13_3)
                                · rw [if_pos c85] at H
                                  have c85b0 : decide (0 ≤ (rd t1214 x13_3)) = true := decide_eq_true c85
                                  clear c85
                                  by_cases c86 : (rd t1214 x13_3) < (x7_2.length : Int)
                                  · rw [if_pos c86] at H
                                    have c86b0 : decide ((rd t1214 x13_3) < (x7_2.length : Int)) = true := decide_eq_true c86
                                    clear c86
                                    by_cases c87 : (rd x7_2 (rd t1214 x13_3)) = 2
                                    · rw [if_pos c87] at H
                                      have c87b0 : ((rd x7_2 (rd t1214 x13_3)) == 2) = true := beq_iff_eq.mpr c87
                                      have c87b1 : ((rd x7_2 (rd t1214 x13_3)) != 2) = false := bne_eq_false_iff_eq.mpr c87
                                      clear c87
                                      have H' := Aside0.mk H
                                      clear H
                                      obtain ⟨Ao88, co88, eo88⟩ := Kd.R_slice HO_5.out
                                      subst eo88
                                      have p1235 : 0 ≤ (x13_3 : Int) := of_decide_eq_true (by first | (with_reducible assumption) | assumption)
                                      have q1235 : x13_3 < (t1214.length : Int) := of_decide_eq_true (by first | (with_reducible assumption) | assumption)
                                      obtain ⟨ad1235, e1235, hx1235_0⟩ := Kd.at_int (Kd.R_reads' HO_5.out).2.2 x13_3 p1235 q1235
                                      cases e1235
                                      replace p1235 := eq_true p1235
                                      replace q1235 := eq_true q1235
                                      have p1236 : 0 ≤ (x13_3 : Int) := of_decide_eq_true (by first | (with_reducible assumption) | assumption)
                                      have q1236 : x13_3 < (t1214.length : Int) := of_decide_eq_true (by first | (with_reducible assumption) | assumption)
                                      obtain ⟨ad1236, e1236, hx1236_0⟩ := Kd.at_int (Kd.R_reads' HO_5.out).2.2 x13_3 p1236 q1236
                                      obtain rfl : ad1235 = ad1236 := (by injection e1236)
                                      replace p1236 := eq_true p1236
                                      replace q1236 := eq_true q1236
                                      obtain ⟨Ao89, co89, eo89⟩ := Kd.R_slice HO_7.out
                                      subst eo89
                                      have p1237 : 0 ≤ (x13_3 : Int) := of_decide_eq_true (by first | (with_reducible assumption) | assumption)
                                      have q1237 : x13_3 < (t1214.length : Int) := of_decide_eq_true (by first | (with_reducible assumption) | assumption)
                                      obtain ⟨ad1237, e1237, hx1237_0⟩ := Kd.at_int (Kd.R_reads' HO_5.out).2.2 x13_3 p1237 q1237
                                      obtain rfl : ad1235 = ad1237 := (by injection e1237)
                                      replace p1237 := eq_true p1237
                                      replace q1237 := eq_true q1237
                                      have p1238 : 0 ≤ ((rd t1214 x13_3) : Int) := of_decide_eq_true (by first | (with_reducible assumption) | assumption)
                                      have q1238 : (rd t1214 x13_3) < (x7_2.length : Int) := of_decide_eq_true (by first | (with_reducible assumption) | assumption)
                                      obtain ⟨ad1238, e1238, hx1238_0⟩ := Kd.at_int (Kd.R_reads' HO_7.out).2.2 (rd t1214 x13_3) p1238 q1238
                                      cases e1238
                                      replace p1238 := eq_true p1238
                                      replace q1238 := eq_true q1238
                                      go_wp2
                                      repeat (go_quiet (fail); try go_wp2)
                                      go_roundg k3
                                      case measure => have := HJ2.out; have := HK2.out; have := HK3.out; omega
                                      case rel => exact ⟨(wrap64 (x13_3 + 1)), (by first | rfl | (simp; done) | (simp [*]; done)), H', ⟨by have := HJ2.out; have := HK2.out; have := HK3.out; omega⟩, ⟨by (with_reducible repeat (first | apply Kd.R_alloc | apply Kd.R_drewN | apply Kd.R_drew)); exact HO_5.out⟩, ⟨by (with_reducible repeat (first | apply Kd.R_alloc | apply Kd.R_drewN | apply Kd.R_drew)); exact HO_7.out⟩, ⟨by (with_reducible repeat (first | refine blk_drewN ?_ _ | refine blk_drew ?_ | refine blk_alloc ?_ _)); exact BK1206.out⟩, ⟨by repeat (first | (with_reducible first | exact HB.out | apply below_alloc | apply pw_below_drewN | apply below_drew1 | refine below_set ?_ GE1206.out) | exact HB.out)⟩⟩
                                    · rw [if_neg c87] at H
                                      have c87b0 : ((rd x7_2 (rd t1214 x13_3)) == 2) = false := beq_eq_false_iff_ne.mpr c87
                                      have c87b1 : ((rd x7_2 (rd t1214 x13_3)) != 2) = true := bne_iff_ne.mpr c87
                                      obtain rfl := Option.some.inj H
                                      obtain ⟨Ao90, co90, eo90⟩ := Kd.R_slice HO_5.out
                                      subst eo90
                                      have p1235 : 0 ≤ (x13_3 : Int) := of_decide_eq_true (by first | (with_reducible assumption) | assumption)
                                      have q1235 : x13_3 < (t1214.length : Int) := of_decide_eq_true (by first | (with_reducible assumption) | assumption)
                                      obtain ⟨ad1235, e1235, hx1235_0⟩ := Kd.at_int (Kd.R_reads' HO_5.out).2.2 x13_3 p1235 q1235
                                      cases e1235
                                      replace p1235 := eq_true p1235
                                      replace q1235 := eq_true q1235
                                      have p1236 : 0 ≤ (x13_3 : Int) := of_decide_eq_true (by first | (with_reducible assumption) | assumption)
                                      have q1236 : x13_3 < (t1214.length : Int) := of_decide_eq_true (by first | (with_reducible assumption) | assumption)
                                      obtain ⟨ad1236, e1236, hx1236_0⟩ := Kd.at_int (Kd.R_reads' HO_5.out).2.2 x13_3 p1236 q1236
                                      obtain rfl : ad1235 = ad1236 := (by injection e1236)
                                      replace p1236 := eq_true p1236
                                      replace q1236 := eq_true q1236
                                      obtain ⟨Ao91, co91, eo91⟩ := Kd.R_slice HO_7.out
                                      subst eo91
                                      have p1237 : 0 ≤ (x13_3 : Int) := of_decide_eq_true (by first | (with_reducible assumption) | assumption)
                                      have q1237 : x13_3 < (t1214.length : Int) := of_decide_eq_true (by first | (with_reducible assumption) | assumption)
                                      obtain ⟨ad1237, e1237, hx1237_0⟩ := Kd.at_int (Kd.R_reads' HO_5.out).2.2 x13_3 p1237 q1237
                                      obtain rfl : ad1235 = ad1237 := (by injection e1237)
                                      replace p1237 := eq_true p1237
                                      replace q1237 := eq_true q1237
                                      have p1238 : 0 ≤ ((rd t1214 x13_3) : Int) := of_decide_eq_true (by first | (with_reducible assumption) | assumption)
                                      have q1238 : (rd t1214 x13_3) < (x7_2.length : Int) := of_decide_eq_true (by first | (with_reducible assumption) | assumption)
                                      obtain ⟨ad1238, e1238, hx1238_0⟩ := Kd.at_int (Kd.R_reads' HO_7.out).2.2 (rd t1214 x13_3) p1238 q1238
                                      cases e1238
                                      replace p1238 := eq_true p1238
                                      replace q1238 := eq_true q1238
                                      go_wp2
                                      repeat (go_quiet (fail); try go_wp2)
                                      go_ret
                                      exact ⟨by first | rfl | (simp [errW_none, errW_some] <;> rfl) | (simp [*, errW_none, errW_some] <;> rfl), by repeat (first | (with_reducible first | exact HB.out | apply below_alloc | apply pw_below_drewN | apply below_drew1 | refine below_set ?_ GE1206.out) | exact HB.out)⟩
                                  · rw [if_neg c86] at H
                                    exact absurd H (by simp)
                                · rw [if_neg c85] at H
                                  exact absurd H (by simp)
                          · rw [if_neg c79] at H
                            exact absurd H (by simp)
                        · rw [if_neg c78] at H
                          have c78b0 : decide (x13_3 < (t1214.length : Int)) = false := decide_eq_false c78
                          clear c78
                          obtain rfl := Option.some.inj H
                          obtain ⟨Ao92, co92, eo92⟩ := Kd.R_slice HO_5.out
                          subst eo92
                          go_wp2
                          repeat (go_quiet (fail); try go_wp2)
                          go_ret
                          exact ⟨by first | rfl | (simp [errW_none, errW_some] <;> rfl) | (simp [*, errW_none, errW_some] <;> rfl), by repeat (first | (with_reducible first | exact HB.out | apply below_alloc | apply pw_below_drewN | apply below_drew1 | refine below_set ?_ GE1206.out) | exact HB.out)⟩
            · rw [if_neg c35] at H
              exact absurd H (by simp)
          · rw [if_neg c34] at H
            exact absurd H (by simp)
        · rw [if_neg c33] at H
          have c33b0 : (t1217 == 0) = false := beq_eq_false_iff_ne.mpr c33
          have c33b1 : (t1217 != 0) = true := bne_iff_ne.mpr c33
          obtain rfl := Option.some.inj H
          have hcz93_0 : wc.cell? ⟨gb1206, 0, none⟩ = some (.int .i64 a0_0) := (blk_cell BK1206.out 0).trans rfl
          have hcz93_1 : wc.cell? ⟨gb1206, 1, none⟩ = some (.slice A0_1 l0_1.length c0_1) := (blk_cell BK1206.out 1).trans rfl
          have hfz93_0 := blk_frozen BK1206.out 0
          have hfz93_1 := blk_frozen BK1206.out 1
          go_wp2_with (first | (go_at_call 59; (with_reducible refine (net_In.calls a0_0 _ _ l0_1 _ _ l1 t1214 t1217 _ ?side1 ?side2 ?side3 ?side4 A32.out).mono ?_); (case side1 => repeat (first | exact (Kd.C_below HR0_1.out HB.out) | (with_reducible refine Kd.C_alloc ?_ _) | (with_reducible refine Kd.C_drewN ?_ _) | (with_reducible refine Kd.C_drew ?_))); (case side2 => exact HC0_1.out); (case side3 => repeat (first | exact (Kd.V_reads' HO_1.out).2.2 | (with_reducible refine Kd.C_alloc ?_ _) | (with_reducible refine Kd.C_drewN ?_ _) | (with_reducible refine Kd.C_drew ?_))); (case side4 => exact (Kd.V_reads' HO_1.out).2.1); rintro e w94 ⟨v1215, rfl, ho0, hb⟩; have n0_ := Aside0.mk (Kd.V_elder' (by (with_reducible repeat (first | apply Kd.V_alloc | apply Kd.V_drewN | apply Kd.V_drew)); exact HO_1.out) (Kd.R_base ho0) hb); have n1_ := Aside0.mk (Kd.R_lower (Kd.R_newM (M := fun k_ => (w.heap.size ≤ k_)) ho0 (below_size (by repeat (first | (with_reducible first | exact HB.out | apply below_alloc | apply pw_below_drewN | apply below_drew1 | refine below_set ?_ GE1206.out) | exact HB.out))) (fun k_ h_ => h_)) (below_size (by repeat (first | (with_reducible first | exact HB.out | apply below_alloc | apply pw_below_drewN | apply below_drew1 | refine below_set ?_ GE1206.out) | exact HB.out)))); have n2_ := Aside0.mk (blk_below (g := gb1206) (o := .cells #[.int .i64 a0_0, .slice A0_1 l0_1.length c0_1] 24 (0, 0)) (by (with_reducible repeat (first | refine blk_drewN ?_ _ | refine blk_drew ?_ | refine blk_alloc ?_ _)); exact BK1206.out) hb); have n3_ := Aside0.mk (below_step (by repeat (first | (with_reducible first | exact HB.out | apply below_alloc | apply pw_below_drewN | apply below_drew1 | refine below_set ?_ GE1206.out) | exact HB.out)) hb); clear HO_1; clear BK1206; clear HB; have HO_1 := n0_; have HO1216 := n1_; have BK1206 := n2_; have HB := n3_; clear n0_ n1_ n2_ n3_; (try clear hb); (try clear hb2); (try clear hk); (try clear hi); (try clear ho0)) | (go_quiet (fail)))
          go_ret
          exact ⟨by first | rfl | (simp [errW_none, errW_some] <;> rfl) | (simp [*, errW_none, errW_some] <;> rfl), by repeat (first | (with_reducible first | exact HB.out | apply below_alloc | apply pw_below_drewN | apply below_drew1 | refine below_set ?_ GE1206.out) | exact HB.out)⟩

end Go.Proofs.Ytdpgdelimffjpaa.P
