/- Texts of this claim, merged: the words that print.sh and the prover's driver wrote, and hand-proved contracts and lemmas, less what this claim does not name. Lean checks them. -/
import Derived.Lib.Hide
import Derived.RangeFuncBox
import Derived.Maps.AppendAt
import Derived.Outline
import Derived.Test.YtdpgdelimffjpaaK26a
import Derived.Test.YtdpgdelimffjpaaK26b
namespace Go.Proofs.Ytdpgdelimffjpaa.P
open Go.RowKit Go.Proofs.YtdpgdelimffjpaaW.PrintWords Go.Proofs.YtdpgdelimffjpaaW.PrintLast Go.Proofs.YtdpgdelimffjpaaW.PrintMore
attribute [local go_sem] max2_int min2_int max_two min_two max_three min_three max_four min_four
set_option linter.unusedVariables false
set_option linter.unusedSimpArgs false
def net_Union.f (l0 : List Int) (l1 : List Int) : Option (List Int × Int) :=
 if l0.length ≤ 1000000 ∧ l1.length ≤ 1000000 then (if risesFrom (-1) l0 = true then (if risesFrom (-1) l1 = true then some (uni l0 l1, 0) else some ([], 1)) else some ([], 1)) else none
set_option maxRecDepth 100000 in
set_option maxHeartbeats 4000000 in
theorem net_Union.calls (A0 : Option Addr) (c0 : Nat) (l0 : List Int) (A1 : Option Addr) (c1 : Nat) (l1 : List Int) (r1 : List Int) (r2 : Int) (w : World) (hr0 : Kd.C (Kd.int .i64) w A0 l0.length l0) (hc0 : l0.length ≤ c0) (hr1 : Kd.C (Kd.int .i64) w A1 l1.length l1) (hc1 : l1.length ≤ c1) (h : net_Union.f l0 l1 = some (r1, r2)) :
  Calls Try.prog 49 #[.slice A0 l0.length c0, .slice A1 l1.length c1] w fun e w' => ∃ v0_ : Value, e = .returned (.tuple #[v0_, .int .i64 r2]) ∧ Kd.R (Kd.int .i64) 3 w' w.heap.size (fun _ => True) v0_ r1 ∧ Below w.heap.size w w' := by
 rw [net_Union.f] at h
 by_cases hlen : l0.length ≤ 1000000 ∧ l1.length ≤ 1000000
 ·rw [if_pos hlen] at h
  have HL := Lib.hid hlen
  have F0 := Lib.hid (rises_f l0 (by omega) (l0.length + 1) (by omega))
  have F1 := Lib.hid (rises_f l1 (by omega) (l1.length + 1) (by omega))
  have HR0 := Lib.hid hr0
  have HR1 := Lib.hid hr1
  have HC0 := Lib.hid hc0
  have HC1 := Lib.hid hc1
  clear hr0 hr1 hc0 hc1 hlen
  by_cases h0 : risesFrom (-1) l0 = true
  ·rw [if_pos h0] at h
   rw [h0] at F0
   by_cases h1 : risesFrom (-1) l1 = true
   ·rw [if_pos h1] at h
    rw [h1] at F1
    simp only [Option.some.injEq, Prod.mk.injEq] at h
    obtain ⟨rfl, rfl⟩ := h
    clear h0 h1
    go_enter Try.func49, Try.ntmps49
    obtain ⟨X, hX⟩ : ∃ X, X = l0 ++ l1 := ⟨_, rfl⟩
    have hXl : X.length ≤ 2000000 := by rw [hX, List.length_append]; have := HL.out; omega
    have hU : uni l0 l1 = Lib.compact (X.mergeSort fun x y => decide (x ≤ y)) := by rw [hX]; rfl
    obtain ⟨Y, hY⟩ : ∃ Y, Y = (X.mergeSort fun x y => decide (x ≤ y)) := ⟨_, rfl⟩
    have hYl : Y.length ≤ 2000000 := by rw [hY, List.length_mergeSort]; exact hXl
    rw [← hY] at hU
    rw [hU]
    have HX := Lib.hid hX
    have HXL := Lib.hid hXl
    have HY := Lib.hid hY
    have HYL := Lib.hid hYl
    clear hU hX hXl hY hYl
    go_wp2_with (first | (go_at_call 83; refine (net_rises.calls (l0.length + 1) A0 c0 l0 true w HR0.out HC0.out F0.out).mono ?_; rintro e w1 ⟨rfl, n1, rfl⟩; clear F0) | (go_at_call 83; refine (net_rises.calls (l1.length + 1) A1 c1 l1 true _ (Kd.C_below HR1.out (bN (Below.refl _ _) _)) HC1.out F1.out).mono ?_; rintro e w1 ⟨rfl, n2, rfl⟩) | (go_at_call 92; refine (cloneI_calls A0 c0 l0 _ (Kd.C_below HR0.out (bN (Below.refl _ _) _)) HL.out.1).mono ?_; rintro e w3 ⟨v3, rfl, r3, b3⟩; obtain ⟨A3, c3, rfl⟩ := Kd.R_slice r3; have R3 : RowKit.Hid (Kd.R (Kd.int .i64) 3 w3 w.heap.size (fun _ => True) (.slice A3 l0.length c3) l0) := Lib.hid r3; have B3 : RowKit.Hid (Below w.heap.size w w3) := Lib.hid ((bN (Below.refl _ _) _).trans b3); clear r3 b3) | ((with_reducible refine gate_builtin (b := .append) (xs := #[.tmp 16, .tmp 17]) rfl ?_); at_builtin; go_loud (refine Kd.R_append_row (Value.int .i64) (0 : Int) (h1 := fun _ => rfl) (w0 := w) w.heap.size rfl (.tmp 16) (.tmp 17) 25 3 (.int .i64 0) 8 rfl Try.underlying25 info3 rfl (by decide) (.slice A3 l0.length c3) l0 l1 A1 l1.length c1 (fun _ => True) rfl rfl (fun _ _ => trivial) ?aO ?aR ?aB ?ab ?al ?_; (case aO => exact R3.out); (case aR => exact Kd.C_below HR1.out B3.out); (case aB => exact B3.out); (case ab => exact B3.out.size); (case al => have := HL.out; omega); intro v4 w4 r4 b4 g4 at4; rw [← HX.out] at r4; obtain ⟨A4, c4, rfl⟩ := Kd.R_slice r4; have R4 := Lib.hid r4; have B4 := Lib.hid b4; clear r4 b4 g4 at4)) | (go_at_call 93; refine (sort_calls R4.out HXL.out).mono ?_; rintro e w5 ⟨rfl, r5, g5⟩; rw [← HY.out] at r5; have R5 := Lib.hid r5; have B5 : RowKit.Hid (Below w.heap.size w w5) := Lib.hid (B4.out.grown g5 B4.out.size (Kd.R_base R4.out)); clear r5 g5) | (go_at_call 94; refine (compact_calls R5.out HYL.out).mono ?_; rintro e w6 ⟨v6, rfl, r6, b6⟩; have R6 := Lib.hid r6; have B6 : RowKit.Hid (Below w.heap.size w w6) := Lib.hid (B5.out.trans b6); clear r6 b6))
    exact bodyPost_ret (v := .tuple #[v6, .int .i64 0]) (by simp [results, Try.f49, go_sem]) rfl ⟨_, rfl, R6.out, B6.out⟩
   ·rw [if_neg h1] at h
    simp only [Option.some.injEq, Prod.mk.injEq] at h
    obtain ⟨rfl, rfl⟩ := h
    rw [Bool.eq_false_iff.2 h1] at F1
    clear h0 h1
    go_enter Try.func49, Try.ntmps49
    go_wp2_with (first | (go_at_call 83; refine (net_rises.calls (l0.length + 1) A0 c0 l0 true w HR0.out HC0.out F0.out).mono ?_; rintro e w1 ⟨rfl, n1, rfl⟩; clear F0) | (go_at_call 83; refine (net_rises.calls (l1.length + 1) A1 c1 l1 false _ (Kd.C_below HR1.out (bN (Below.refl _ _) _)) HC1.out F1.out).mono ?_; rintro e w1 ⟨rfl, n2, rfl⟩))
    exact bodyPost_ret (v := .tuple #[.slice none 0 0, .int .i64 1]) (by simp [results, Try.f49, go_sem]) rfl ⟨_, rfl, Kd.R_nil _ _ _ _ _, bN (Below.refl _ _) _⟩
  ·rw [if_neg h0] at h
   simp only [Option.some.injEq, Prod.mk.injEq] at h
   obtain ⟨rfl, rfl⟩ := h
   rw [Bool.eq_false_iff.2 h0] at F0
   clear h0
   go_enter Try.func49, Try.ntmps49
   go_wp2_with (go_at_call 83; refine (net_rises.calls (l0.length + 1) A0 c0 l0 false w HR0.out HC0.out F0.out).mono ?_; rintro e w1 ⟨rfl, n1, rfl⟩; clear F0)
   exact bodyPost_ret (v := .tuple #[.slice none 0 0, .int .i64 1]) (by simp [results, Try.f49, go_sem]) rfl ⟨_, rfl, Kd.R_nil _ _ _ _ _, bN (Below.refl _ _) _⟩
 ·rw [if_neg hlen] at h; cases h
def net_In.f (a0_0 : Int) (l0_1 : List (S37)) (l1 : List Int) : Option (List Int × Int) := (net_Strip.f a0_0 l0_1 l1).bind fun bt569 => (some (bt569.2.2.1, bt569.2.2.2))
set_option maxHeartbeats 8000000 in
set_option maxRecDepth 100000 in
theorem net_In.calls (a0_0 : Int) (A0_1 : Option Addr) (c0_1 : Nat) (l0_1 : List (S37)) (A1 : Option Addr) (c1 : Nat) (l1 : List Int) (r1 : List Int) (r2 : Int) (w : World) (hr0_1 : Kd.C k37 w A0_1 l0_1.length l0_1) (hc0_1 : l0_1.length ≤ c0_1) (hr1 : Kd.C (Kd.int .i64) w A1 l1.length l1) (hc1 : l1.length ≤ c1) (h : net_In.f a0_0 l0_1 l1 = some (r1, r2)) :
  Calls Try.prog 59 #[.agg #[.int .i64 a0_0, .slice A0_1 l0_1.length c0_1], .slice A1 l1.length c1] w fun e w' => ∃ v0_ : Value, e = .returned (.tuple #[v0_, .int .i64 r2]) ∧ Kd.R (Kd.int .i64) 3 w' w.heap.size (fun _ => True) v0_ r1 ∧ Below w.heap.size w w' := by
 have hu24 := Try.underlying24
 have HR0_1 := Z0.mk hr0_1
 have HC0_1 := Z0.mk hc0_1
 clear hr0_1 hc0_1
 have HR1 := Z0.mk hr1
 have HC1 := Z0.mk hc1
 clear hr1 hc1
 have HB := Z0.mk (Below.refl w.heap.size w)
 have H : ((net_Strip.f a0_0 l0_1 l1).bind fun bt569 => (some (bt569.2.2.1, bt569.2.2.2))) = some (r1, r2) := h
 clear h
 replace H := Option.bind_eq_some_iff.mp H
 obtain ⟨⟨t569, t570, t573, t576⟩, A30, H⟩ := H
 replace H : (some (t573, t576)) = some (r1, r2) := H
 have A3 := Z0.mk A30
 clear A30
 simp only [Option.some.injEq, Prod.mk.injEq] at H
 obtain ⟨rfl, rfl⟩ := H
 go_enter Try.func59, Try.ntmps59
 go_wp2_with (first | ((with_reducible refine gate_dst (N := 2) rfl ?_); refine bE ?hg (N := 2) ?hd (cs := #[.int .i64 a0_0, .slice A0_1 l0_1.length c0_1]) (t := 24) ?hr ?_; (case hd => rfl); (case hg => rfl); (case hr => first | (go_simp; done) | (go_simp; rfl)); intro gb568 hg w4 hbox hb; have n0_ := Z0.mk (bT (by repeat (first | (with_reducible first | exact HB.out | apply below_alloc | apply bN | apply bD) | exact HB.out)) hb); have n1_ := Z0.mk (hbox); have n2_ := Z0.mk ((by rw [hg]; exact (bZ (by repeat (first | (with_reducible first | exact HB.out | apply below_alloc | apply bN | apply bD) | exact HB.out))) : w.heap.size ≤ gb568)); have n3_ := Z0.mk ((by rw [hg]; exact (bZ (by repeat (first | (with_reducible first | exact HB.out | apply below_alloc | apply bN | apply bD) | exact HB.out))) : w.heap.size ≤ gb568)); clear HB; have HB := n0_; have BK568 := n1_; have GW568 := n2_; have GE568 := n3_; clear n0_ n1_ n2_ n3_; clear hb hbox hg; have hcz5_0 : w4.cell? ⟨gb568, 0, none⟩ = some (.int .i64 a0_0) := (kC BK568.out 0).trans rfl; have hcz5_1 : w4.cell? ⟨gb568, 1, none⟩ = some (.slice A0_1 l0_1.length c0_1) := (kC BK568.out 1).trans rfl; have hfz5_0 := kF BK568.out 0; have hfz5_1 := kF BK568.out 1) | ((with_reducible refine gC (f := 32) rfl ?_); refine gL (some 9) rfl rfl Try.func32 (by kernel_rfl) rfl #[.agg #[.int .i64 a0_0, .slice A0_1 l0_1.length c0_1], .slice A1 l1.length c1] rfl (by (try simp only [List.map_toArray, List.map_cons, List.map_nil]); first | done | rfl | (simp only [List.length_drop, List.length_take]; rfl)) ?_; (with_reducible refine (net_Strip.calls a0_0 _ _ l0_1 _ _ l1 t569 t570 t573 t576 _ ?side1 ?side2 ?side3 ?side4 A3.out).mono ?_); (case side1 => repeat (first | exact (Kd.C_below HR0_1.out HB.out) | (with_reducible refine Kd.C_alloc ?_ _) | (with_reducible refine Kd.C_drewN ?_ _) | (with_reducible refine Kd.C_drew ?_))); (case side2 => exact HC0_1.out); (case side3 => repeat (first | exact (Kd.C_below HR1.out HB.out) | (with_reducible refine Kd.C_alloc ?_ _) | (with_reducible refine Kd.C_drewN ?_ _) | (with_reducible refine Kd.C_drew ?_))); (case side4 => exact HC1.out); rintro e w6 ⟨v571, v574, rfl, ho0, ho1, hb⟩; refine ⟨_, rfl, ?_⟩; have n0_ := Z0.mk (Kd.R_lower ho0 (bZ (by repeat (first | (with_reducible first | exact HB.out | apply below_alloc | apply bN | apply bD | refine bS ?_ GE568.out) | exact HB.out)))); have n1_ := Z0.mk (Kd.R_lower ho1 (bZ (by repeat (first | (with_reducible first | exact HB.out | apply below_alloc | apply bN | apply bD | refine bS ?_ GE568.out) | exact HB.out)))); have n2_ := Z0.mk (kB (g := gb568) (o := .cells #[.int .i64 a0_0, .slice A0_1 l0_1.length c0_1] 24 (0, 0)) (by (with_reducible repeat (first | refine kN ?_ _ | refine kD ?_ | refine kA ?_ _)); exact BK568.out) hb); have n3_ := Z0.mk (bT (by repeat (first | (with_reducible first | exact HB.out | apply below_alloc | apply bN | apply bD | refine bS ?_ GE568.out) | exact HB.out)) hb); clear BK568; clear HB; have HO572 := n0_; have HO575 := n1_; have BK568 := n2_; have HB := n3_; clear n0_ n1_ n2_ n3_; (try clear hb); (try clear hb2); (try clear hk); (try clear hi); (try clear ho0); (try clear ho1)))
 go_ret2
 exact ⟨_, by first | rfl | (simp [errW_none, errW_some] <;> rfl) | (simp [*, errW_none, errW_some] <;> rfl), by (with_reducible repeat (first | apply Kd.R_alloc | apply Kd.R_drewN | apply Kd.R_drew)); exact HO575.out, by repeat (first | (with_reducible first | exact HB.out | apply below_alloc | apply bN | apply bD | refine bS ?_ GE568.out) | exact HB.out)⟩
section
attribute [local go_sem] Oper.semAt_some
def atBus (bus : Int) (l : S37) : Bool := decide (l.f0 = bus) || decide (l.f1 = bus)
def net_At.f (a0_0 : Int) (l0_1 : List (S37)) (l1 : List Int) (a2 : Int) : Option (List Int × Int) :=
 if outsV a0_0 l0_1 l1 = 0 then (if a2 < 0 ∨ a0_0 ≤ a2 then some ([], 1) else some (((inn l0_1 l1).filter (fun (k : Nat) => atBus a2 (rd_T37 l0_1 (k : Int)))).map (fun (k : Nat) => (k : Int)), 0)) else some ([], outsV a0_0 l0_1 l1)
def atF (bus : Int) (xs : List (Nat × S37)) : List Int := (xs.filter (fun p => atBus bus p.2)).map (fun p => (p.1 : Int))
theorem atF_in {bus : Int} {xs : List (Nat × S37)} {x : Nat × S37} (h : atBus bus x.2 = true) : atF bus (xs ++ [x]) = atF bus xs ++ [(x.1 : Int)] := by simp [atF, h]
theorem atF_out {bus : Int} {xs : List (Nat × S37)} {x : Nat × S37} (h : atBus bus x.2 = false) : atF bus (xs ++ [x]) = atF bus xs := by simp [atF, h]
theorem atR_of {w : World} {B : Nat} {v : Value} (xs : List Int) (y : Int) (h : w.ownsRow B 3 1 v (xs.length + 1) (xs.map (Value.int .i64) ++ [.int .i64 y])) : Kd.R (Kd.int .i64) 3 w B (fun _ => True) v (xs ++ [y]) := Kd.R_of_own (by simpa [encs] using h) (fun _ _ => trivial)
theorem atF_len (bus : Int) (xs : List (Nat × S37)) : (atF bus xs).length ≤ xs.length := by simp only [atF, List.length_map]; exact List.length_filter_le _ _
set_option maxRecDepth 100000 in
set_option maxHeartbeats 4000000 in
theorem net_At.calls (a0_0 : Int) (A0_1 : Option Addr) (c0_1 : Nat) (l0_1 : List (S37)) (A1 : Option Addr) (c1 : Nat) (l1 : List Int) (a2 : Int) (r1 : List Int) (r2 : Int) (w : World) (hr0_1 : Kd.C k37 w A0_1 l0_1.length l0_1) (hc0_1 : l0_1.length ≤ c0_1) (hr1 : Kd.C (Kd.int .i64) w A1 l1.length l1) (hc1 : l1.length ≤ c1) (h : net_At.f a0_0 l0_1 l1 a2 = some (r1, r2)) :
  Calls Try.prog 71 #[.agg #[.int .i64 a0_0, .slice A0_1 l0_1.length c0_1], .slice A1 l1.length c1, .int .i64 a2] w fun e w' => ∃ v0_ : Value, e = .returned (.tuple #[v0_, .int .i64 r2]) ∧ Kd.R (Kd.int .i64) 3 w' w.heap.size (fun _ => True) v0_ r1 ∧ Below w.heap.size w w' := by
 have hu24 := Try.underlying24
 have hu37 := Try.underlying37
 have hob : l1.length ≤ 9223372036854775807 := hr1.2.1
 have HOF := Lib.hid (outs_f a0_0 l0_1 l1 hob (l1.length + 1) (by omega))
 have HR0 := Lib.hid hr0_1
 have HR1 := Lib.hid hr1
 clear hr0_1 hr1 hob
 by_cases hv : outsV a0_0 l0_1 l1 = 0
 ·rw [net_At.f, if_pos hv] at h
  rw [hv] at HOF
  have HV := Lib.hid hv
  clear hv
  by_cases hbad : a2 < 0 ∨ a0_0 ≤ a2
  ·rw [if_pos hbad] at h
   simp only [Option.some.injEq, Prod.mk.injEq] at h
   obtain ⟨rfl, rfl⟩ := h
   by_cases hneg : a2 < 0
   ·have q1 : decide (a2 < 0) = true := decide_eq_true hneg
    clear hbad hneg
    go_enter Try.func71, Try.ntmps71
    go_wp2_with (go_at_call 31; refine (net_Outs.calls (l1.length + 1) a0_0 _ _ l0_1 _ _ l1 0 _ ?side1 hc0_1 ?side2 hc1 HOF.out).mono ?_; (case side1 => exact Kd.C_below HR0.out (((((Below.refl _ w).alloc (Nat.le_refl _) _).alloc (by simp) _).alloc (by simp; omega) _))); (case side2 => exact Kd.C_below HR1.out (((((Below.refl _ w).alloc (Nat.le_refl _) _).alloc (by simp) _).alloc (by simp; omega) _))); rintro e w4 ⟨rfl, hb4⟩; obtain ⟨k0, k1, k2, hsz, hbw⟩ := boxes3 hb4; have K0 := Lib.hid k0; have K1 := Lib.hid k1; have K2 := Lib.hid k2; have HBW := Lib.hid hbw; clear hb4 k0 k1 k2 hbw; have c00 : w4.cell? ⟨w.heap.size, 0, none⟩ = some (.int .i64 a0_0) := (kC K0.out 0).trans rfl; have c10 : w4.cell? ⟨w.heap.size + 1, 0, none⟩ = some (.int .i64 a2) := (kC K1.out 0).trans rfl; have c20 : w4.cell? ⟨w.heap.size + 1 + 1, 0, none⟩ = some (.slice none 0 0) := (kC K2.out 0).trans rfl; have f20 := kF K2.out 0)
    rw [setCell_id (i := 0) (v := .slice none 0 0) K2.out rfl]
    exact bodyPost_ret (v := .tuple #[.slice none 0 0, .int .i64 1]) (by simp [results, Try.f71, go_sem, c20]) rfl ⟨_, rfl, Kd.R_nil _ _ _ _ _, HBW.out⟩
   ·have q1 : decide (a2 < 0) = false := decide_eq_false hneg
    have q2 : decide (a0_0 ≤ a2) = true := decide_eq_true (by omega)
    clear hbad hneg
    go_enter Try.func71, Try.ntmps71
    go_wp2_with (go_at_call 31; refine (net_Outs.calls (l1.length + 1) a0_0 _ _ l0_1 _ _ l1 0 _ ?side1 hc0_1 ?side2 hc1 HOF.out).mono ?_; (case side1 => exact Kd.C_below HR0.out (((((Below.refl _ w).alloc (Nat.le_refl _) _).alloc (by simp) _).alloc (by simp; omega) _))); (case side2 => exact Kd.C_below HR1.out (((((Below.refl _ w).alloc (Nat.le_refl _) _).alloc (by simp) _).alloc (by simp; omega) _))); rintro e w4 ⟨rfl, hb4⟩; obtain ⟨k0, k1, k2, hsz, hbw⟩ := boxes3 hb4; have K0 := Lib.hid k0; have K1 := Lib.hid k1; have K2 := Lib.hid k2; have HBW := Lib.hid hbw; clear hb4 k0 k1 k2 hbw; have c00 : w4.cell? ⟨w.heap.size, 0, none⟩ = some (.int .i64 a0_0) := (kC K0.out 0).trans rfl; have c10 : w4.cell? ⟨w.heap.size + 1, 0, none⟩ = some (.int .i64 a2) := (kC K1.out 0).trans rfl; have c20 : w4.cell? ⟨w.heap.size + 1 + 1, 0, none⟩ = some (.slice none 0 0) := (kC K2.out 0).trans rfl; have f20 := kF K2.out 0)
    rw [setCell_id (i := 0) (v := .slice none 0 0) K2.out rfl]
    exact bodyPost_ret (v := .tuple #[.slice none 0 0, .int .i64 1]) (by simp [results, Try.f71, go_sem, c20]) rfl ⟨_, rfl, Kd.R_nil _ _ _ _ _, HBW.out⟩
  ·rw [if_neg hbad] at h
   refine (callsIn_wide (n := 3)).1 ?_
   refine callsIn_of_wp_marks Try.func71 rfl trivial ?_ rfl
   simp only [Try.ntmps71, List.size_toArray, List.length_cons, List.length_nil, Nat.reduceAdd, Nat.reduceSub, Array.replicate_succ, Array.replicate_zero, List.push_toArray, List.append_toArray, List.nil_append, List.cons_append]
   simp only [Option.some.injEq, Prod.mk.injEq] at h
   obtain ⟨rfl, rfl⟩ := h
   have q1 : decide (a2 < 0) = false := decide_eq_false (by omega)
   have q2 : decide (a0_0 ≤ a2) = false := decide_eq_false (by omega)
   clear hbad
   gi_wp2_with (refine ⟨trivial, ?_⟩; refine (callsIn_wide.2 (net_Outs.calls (l1.length + 1) a0_0 _ _ l0_1 _ _ l1 0 _ ?side1 hc0_1 ?side2 hc1 HOF.out)).mono ?_; (case side1 => exact Kd.C_below HR0.out (((((Below.refl _ w).alloc (Nat.le_refl _) _).alloc (by simp) _).alloc (by simp; omega) _))); (case side2 => exact Kd.C_below HR1.out (((((Below.refl _ w).alloc (Nat.le_refl _) _).alloc (by simp) _).alloc (by simp; omega) _))); rintro e w4 ⟨rfl, hb4⟩; obtain ⟨k0, k1, k2, hsz, hbw⟩ := boxes3 hb4; have K0 := Lib.hid k0; have K1 := Lib.hid k1; have K2 := Lib.hid k2; have HBW := Lib.hid hbw; clear hb4 k0 k1 k2 hbw; have c00 : w4.cell? ⟨w.heap.size, 0, none⟩ = some (.int .i64 a0_0) := (kC K0.out 0).trans rfl; have c01 : w4.cell? ⟨w.heap.size, 1, none⟩ = some (.slice A0_1 l0_1.length c0_1) := (kC K0.out 1).trans rfl; have c10 : w4.cell? ⟨w.heap.size + 1, 0, none⟩ = some (.int .i64 a2) := (kC K1.out 0).trans rfl)
   gi_wp2_with (refine ⟨trivial, ?_⟩; refine (callsIn_wide.2 (in_calls _ _ _ _ _ _ _ _)).mono ?_; rintro e w6 ⟨rfl, hb6, hs6, n6, o6⟩; have HB6 := Lib.hid hb6; have HS6 := Lib.hid hs6; have N6 := Lib.hid n6; have O6 := Lib.hid o6; clear hb6 hs6 n6 o6)
   obtain ⟨B, hB⟩ : ∃ B, B = w6.heap.size := ⟨_, rfl⟩
   obtain ⟨H, hH⟩ : ∃ H, H = w.heap.size := ⟨_, rfl⟩
   have hBn : w4.heap.size + 2 = B := by rw [hB]; exact HS6.out.symm
   have hH5 : H + 3 ≤ w4.heap.size := by rw [hH]; exact hsz
   have bw6 : Below H w w6 := by rw [hH]; exact HBW.out.trans (HB6.out.mono (by omega))
   have m6 : w6.heap[H + 1]? = some (.cells #[.int .i64 a2] 3 (0, 0)) := by rw [hH]; exact kB K1.out HB6.out
   have l6 : w6.heap[H + 1 + 1]? = some (.cells #[.slice none 0 0] 25 (0, 0)) := by rw [hH]; exact kB K2.out HB6.out
   have hkc : ∀ W, KpS (fun i => i < B ∧ i ≠ H + 1 + 1 ∧ i ≠ H + 1 + 1) w6 W → ∀ k, k < w.heap.size → W.heap[k]? = w.heap[k]? := fun W hk k hlt => (hk k ⟨by omega, by omega, by omega⟩).trans (bw6.block k (by omega))
   have hseq : SeqStopsK Fence.wide 2 Try.prog 106 #[.pointer (some ⟨w4.heap.size, 0, none⟩), .pointer (some ⟨w4.heap.size + 1, 0, none⟩)] encL (KpS (fun i => i < B ∧ i ≠ H + 1 + 1 ∧ i ≠ H + 1 + 1)) (fun xs => xs = insF (fun k => l1.contains (k : Int)) l0_1 l0_1.length) (fun _ => True) l0_1.length w6 := by
    intro l J Jx W hW hJ hJx hY h0
    obtain ⟨hck, hri, _⟩ := outsV_ok HV.out
    have hL10 := (chk_ok hck).2.2.1
    have hol := outsV_len HV.out
    refine in_iter _ w6 w4.heap.size (w4.heap.size + 1) a0_0 A0_1 c0_1 l0_1 A1 c1 l1 _ (by omega) hc0_1 (fun k _ => bs_f l1 (k : Int) (by omega) hri) ⟨by omega, by omega, by omega⟩ ⟨by omega, by omega, by omega⟩ hc1 ?_ ?_ ?_ ?_ l J Jx W (fun i hi => hW.block i (by rw [← hB]; exact hi.1)) (fun i hi => by rw [← hB]; exact hi.1) hJ hY h0
    ·intro W hk; exact (hk _ ⟨by omega, by omega, by omega⟩).trans N6.out
    ·intro W hk; exact (hk _ ⟨by omega, by omega, by omega⟩).trans O6.out
    ·intro W hk; exact Kd.Heap.C (Kd.heap_iso _ (Kd.heap_pair (Kd.heap_int _) (Kd.heap_pair (Kd.heap_int _) (Kd.heap_pair (Kd.heap_int _) (Kd.heap_int _))))) (hkc W hk) HR0.out
    ·intro W hk; exact Kd.Heap.C (Kd.heap_int _) (hkc W hk) HR1.out
   have HSEQ := Lib.hid hseq
   have HB' := Lib.hid hB
   have HH' := Lib.hid hH
   have BW6 := Lib.hid bw6
   have M6 := Lib.hid m6
   have L6 := Lib.hid l6
   have hbs : w6.heap.size = B := hB.symm
   have HBS := Lib.hid hbs
   clear hbs hseq hB hH bw6 m6 l6 hkc c00 c01 c10
   refine wpIn_rangeFunc_ownH (F := Fence.wide) (n := 3) rfl (by omega) (gf := 106) (lb := #[.pointer (some ⟨w4.heap.size, 0, none⟩), .pointer (some ⟨w4.heap.size + 1, 0, none⟩)]) rfl trivial (enters_of Try.func106 (by kernel_rfl) rfl)
    (encs := encL) (Kp := KpS (fun i => i < B ∧ i ≠ H + 1 + 1 ∧ i ≠ H + 1 + 1)) HSEQ.out ?hKt ?hKb (Below.refl _ _) (fun _ => rfl)
    (fun pre W => ∃ v2, W.heap[H + 1]? = some (.cells #[.int .i64 a2] 3 (0, 0)) ∧ W.heap[H + 1 + 1]? = some (.cells #[v2] 25 (0, 0)) ∧ Kd.R (Kd.int .i64) 3 W B (fun _ => True) v2 (atF a2 pre) ∧ Below H w6 W ∧ B ≤ W.heap.size)
    (fun _ _ _ => False) ?hI (fun _ _ _ _ _ hs _ _ => hs) ?h0
    (fun x a' W => ∃ Bx, B ≤ Bx ∧ W.heap[Bx]? = some (.cells #[.int .i64 x.2.f0, .int .i64 x.2.f1, .int .i64 x.2.f2, .int .i64 x.2.f3] 37 (0, 0)) ∧ a' = { tmps := #[.agg #[.int .i64 a0_0, .slice A0_1 l0_1.length c0_1], .slice A1 l1.length c1, .int .i64 a2, .pointer (some ⟨w.heap.size, 0, none⟩), undef, .pointer (some ⟨w.heap.size + 1, 0, none⟩), .pointer (some ⟨w.heap.size + 1 + 1, 0, none⟩), .int .i64 0, .int .i64 0, .int .i64 (x.1 : Int), .pointer (some ⟨Bx, 0, none⟩), .agg #[.int .i64 a0_0, .slice A0_1 l0_1.length c0_1], .slice A1 l1.length c1, .int .i64 0, .int .i64 0, .bool false, undef, .int .i64 a2, .bool false, .bool false, .int .i64 a2, .pointer (some ⟨w.heap.size, 0, none⟩), .int .i64 a0_0, .bool false, .bool false, .agg #[.int .i64 a0_0, .slice A0_1 l0_1.length c0_1], .slice A1 l1.length c1, .func (.func 106) #[] #[.pointer (some ⟨w4.heap.size, 0, none⟩), .pointer (some ⟨w4.heap.size + 1, 0, none⟩)], .int .i64 (x.1 : Int), .agg #[.int .i64 x.2.f0, .int .i64 x.2.f1, .int .i64 x.2.f2, .int .i64 x.2.f3], undef, undef, undef, undef, undef, undef, undef, undef, undef, undef, undef, undef, undef, undef, undef], defers := [] }) ?hAx ?assign ?body ?done ?stop
   case hKt => intro A B' C h1 h2 i hi; exact (h2 i hi).trans (h1 i hi)
   case hKb => intro W l o o' hl ho _ _ i hi; exact World.putObj_heap_other (by rw [HBS.out] at hl; omega)
   case hI =>
    rintro pre W W' row ⟨v2, hm, hl, h2, hb, hs⟩ hg hr
    rw [HBS.out] at hr
    have hlt : H + 1 + 1 < B := by omega
    refine ⟨v2, blk_grown hm hg (fun e => by have := (hr _ e.symm).1; omega), blk_grown hl hg (fun e => by have := (hr _ e.symm).1; omega), R_grown_walk rfl h2 hg (fun r e => (hr r e).2), hb.grown hg (by omega) (fun k e => by have := (hr k e).1; omega), Nat.le_trans hs hg.size⟩
   case h0 => exact ⟨_, M6.out, L6.out, Kd.R_nil _ _ _ _ _, Below.refl _ _, by rw [HBS.out]; exact Nat.le_refl _⟩
   case hAx =>
    rintro x a' _ W W' row ⟨Bx, hB1, hB2, rfl⟩ hg hr
    refine ⟨Bx, hB1, blk_grown hB2 hg ?_, rfl⟩
    intro e
    obtain ⟨_, o, ho, hc⟩ := hr _ e.symm
    rw [hB2] at ho; cases ho; cases hc
   case assign =>
    rintro l pre x W K ⟨v2, hm, hl, h2, hb, hs⟩ hK
    have hKK := Lib.hid hK
    clear hK
    simp only [encL]
    gi_wp2
    exact hKK.out _ _ ((KeepsOthers.alloc _ _).from _) (fun i hi => (below_alloc (Below.refl _ _) _).block i (by omega)) ⟨v2, kA hm _, kA hl _, Kd.R_alloc h2 _, hb.alloc (by omega) _, by simp; omega⟩ ⟨W.heap.size, hs, heap_alloc_new W _, rfl⟩
   case body =>
    rintro l pre x a' W _ _ ⟨v2, hm, hl, h2, hb, hs⟩ ⟨Bx, hB1, hB2, rfl⟩ hlen
    have hH' := HH'.out
    clear HH'
    subst hH'
    obtain ⟨A8, c8, rfl⟩ := Kd.R_slice h2
    have c10 : W.cell? ⟨w.heap.size + 1, 0, none⟩ = some (.int .i64 a2) := (kC hm 0).trans rfl
    have b0 : W.cell? ⟨Bx, 0, none⟩ = some (.int .i64 x.2.f0) := (kC hB2 0).trans rfl
    have b1 : W.cell? ⟨Bx, 1, none⟩ = some (.int .i64 x.2.f1) := (kC hB2 1).trans rfl
    have b2 : W.cell? ⟨Bx, 2, none⟩ = some (.int .i64 x.2.f2) := (kC hB2 2).trans rfl
    have b3 : W.cell? ⟨Bx, 3, none⟩ = some (.int .i64 x.2.f3) := (kC hB2 3).trans rfl
    have hhB : w.heap.size + 1 + 1 < B := by omega
    cases hat : atBus a2 x.2 with
    | false =>
     have hat' := hat
     simp only [atBus, Bool.or_eq_false_iff, decide_eq_false_iff_not] at hat'
     have t1 : (x.2.f0 == a2) = false := beq_eq_false_iff_ne.2 hat'.1
     have t2 : (x.2.f1 == a2) = false := beq_eq_false_iff_ne.2 hat'.2
     have HAT := Lib.hid hat
     have HPP := Lib.hid (show ∃ v2, W.heap[w.heap.size + 1]? = some (.cells #[.int .i64 a2] 3 (0, 0)) ∧ W.heap[w.heap.size + 1 + 1]? = some (.cells #[v2] 25 (0, 0)) ∧ Kd.R (Kd.int .i64) 3 W B (fun _ => True) v2 (atF a2 (pre ++ [x])) ∧ Below w.heap.size w6 W ∧ B ≤ W.heap.size from ⟨_, hm, hl, by rw [atF_out hat]; exact h2, hb, hs⟩)
     clear hat' hat hm hl h2 hb hs hB2 hlen
     gi_wp2
     exact ⟨KeepsFrom.refl _ _, fun _ _ => rfl, HPP.out⟩
    | true =>
     obtain ⟨i0, hi, hz0, hz1, hz2⟩ := info_parts info3
     obtain ⟨X2, hX2⟩ : ∃ X2, X2 = atF a2 pre := ⟨_, rfl⟩
     have hx2 : X2.length ≤ 10 := by rw [hX2]; have h1 := atF_len a2 pre; have := (chk_ok (outsV_ok HV.out).1).2.2.1; omega
     rw [← hX2] at h2 hl
     have EX2 := Lib.hid hX2
     have HAT := Lib.hid hat
     have HM := Lib.hid hm
     have HL := Lib.hid hl
     have HOWN := Lib.hid (show W.ownsRow B 3 1 (.slice A8 X2.length c8) X2.length (X2.map (Value.int .i64)) from Kd.own_of_R h2)
     have R2 := Lib.hid h2
     have HBB := Lib.hid hb
     have HSS := Lib.hid hs
     have HLEN := Lib.hid hlen
     have c20 : W.cell? ⟨w.heap.size + 1 + 1, 0, none⟩ = some (.slice A8 X2.length c8) := (kC hl 0).trans rfl
     have hss := hs
     clear hX2 hat hm hl h2 hb hs hB2 hlen
     by_cases t0 : x.2.f0 = a2
     ·have t1 : (x.2.f0 == a2) = true := beq_iff_eq.2 t0
      clear t0
      gi_wp2_with (gi_at_builtin; refine wpListIn_append_own _ rfl _ _ 25 rfl B 3 i0 (.int .i64 0) 1 8 Try.underlying25 hi hz0 hz1 hz2 rfl (by decide) _ _ _ rfl (HOWN.out.alloc _) ⟨W.heap.size, 0, none⟩ 1 1 [.int .i64 (x.1 : Int)] rfl rfl (cell_one_new _ _ _) (by simp [Value.oneCell']) (by unfold maxLen; omega) (by omega) (by simp; omega) ?_; intro v' w5 hown' hgrow _; obtain ⟨g', cap', rfl⟩ := ownsRow_succ hown'; have hr5 := atR_of X2 (x.1 : Int) hown'; have hm5 := blk_grown (kA HM.out (.cells #[.int .i64 (x.1 : Int)] 3)) hgrow (fun e => by have := Kd.R_base R2.out _ e.symm; omega); have hl5 := blk_grown (kA HL.out (.cells #[.int .i64 (x.1 : Int)] 3)) hgrow (fun e => by have := Kd.R_base R2.out _ e.symm; omega); have ht5 := ((Tr.refl W : Tr w.heap.size B (w.heap.size + 1 + 1) (w.heap.size + 1 + 1) W W).alloc (.cells #[.int .i64 (x.1 : Int)] 3) HSS.out (by omega)).grown (Kd.R_alloc R2.out _) hgrow (by simp; omega) (by omega); have hsz5 := hgrow.size; have hc1 : w5.cell? ⟨w.heap.size + 1 + 1, 0, none⟩ = some (.slice A8 X2.length c8) := (kC hl5 0).trans rfl; have hf1 := kF hl5 0; have G1 := Lib.hid hr5; have G2 := Lib.hid hm5; have G3 := Lib.hid hl5; have G4 := Lib.hid ht5; have G5 := Lib.hid hsz5; clear hown' hgrow hr5 hm5 hl5 ht5 hsz5)
      have ht6 := G4.out.set (w.heap.size + 1 + 1) 0 (.inl rfl) (by omega) (by omega) (.slice (some ⟨g', 0, none⟩) (X2.length + 1) cap')
      refine ⟨by rw [HBS.out]; exact ht6.kf, ht6.kp, _, kR (p := ⟨w.heap.size + 1 + 1, 0, none⟩) G2.out (by simp) _, blk_set G3.out 0 _, ?_, HBB.out.trans ht6.bl, by simp [World.setCell]; have := G5.out; simp at this; omega⟩
      rw [atF_in HAT.out, ← EX2.out]
      exact Kd.R_mono (Kd.R_far (Kd.R_reok (ok := fun k => k ≠ w.heap.size + 1 + 1) rfl G1.out (fun k e => by have := Kd.R_base G1.out k e; omega)) (fun k hk => hk) _) (fun _ _ => trivial)
     ·have t1 : (x.2.f0 == a2) = false := beq_eq_false_iff_ne.2 t0
      have t2 : (x.2.f1 == a2) = true := beq_iff_eq.2 (by have := HAT.out; simp only [atBus, Bool.or_eq_true, decide_eq_true_eq] at this; exact this.resolve_left t0)
      clear t0
      gi_wp2_with (gi_at_builtin; refine wpListIn_append_own _ rfl _ _ 25 rfl B 3 i0 (.int .i64 0) 1 8 Try.underlying25 hi hz0 hz1 hz2 rfl (by decide) _ _ _ rfl (HOWN.out.alloc _) ⟨W.heap.size, 0, none⟩ 1 1 [.int .i64 (x.1 : Int)] rfl rfl (cell_one_new _ _ _) (by simp [Value.oneCell']) (by unfold maxLen; omega) (by omega) (by simp; omega) ?_; intro v' w5 hown' hgrow _; obtain ⟨g', cap', rfl⟩ := ownsRow_succ hown'; have hr5 := atR_of X2 (x.1 : Int) hown'; have hm5 := blk_grown (kA HM.out (.cells #[.int .i64 (x.1 : Int)] 3)) hgrow (fun e => by have := Kd.R_base R2.out _ e.symm; omega); have hl5 := blk_grown (kA HL.out (.cells #[.int .i64 (x.1 : Int)] 3)) hgrow (fun e => by have := Kd.R_base R2.out _ e.symm; omega); have ht5 := ((Tr.refl W : Tr w.heap.size B (w.heap.size + 1 + 1) (w.heap.size + 1 + 1) W W).alloc (.cells #[.int .i64 (x.1 : Int)] 3) HSS.out (by omega)).grown (Kd.R_alloc R2.out _) hgrow (by simp; omega) (by omega); have hsz5 := hgrow.size; have hc1 : w5.cell? ⟨w.heap.size + 1 + 1, 0, none⟩ = some (.slice A8 X2.length c8) := (kC hl5 0).trans rfl; have hf1 := kF hl5 0; have G1 := Lib.hid hr5; have G2 := Lib.hid hm5; have G3 := Lib.hid hl5; have G4 := Lib.hid ht5; have G5 := Lib.hid hsz5; clear hown' hgrow hr5 hm5 hl5 ht5 hsz5)
      have ht6 := G4.out.set (w.heap.size + 1 + 1) 0 (.inl rfl) (by omega) (by omega) (.slice (some ⟨g', 0, none⟩) (X2.length + 1) cap')
      refine ⟨by rw [HBS.out]; exact ht6.kf, ht6.kp, _, kR (p := ⟨w.heap.size + 1 + 1, 0, none⟩) G2.out (by simp) _, blk_set G3.out 0 _, ?_, HBB.out.trans ht6.bl, by simp [World.setCell]; have := G5.out; simp at this; omega⟩
      rw [atF_in HAT.out, ← EX2.out]
      exact Kd.R_mono (Kd.R_far (Kd.R_reok (ok := fun k => k ≠ w.heap.size + 1 + 1) rfl G1.out (fun k e => by have := Kd.R_base G1.out k e; omega)) (fun k hk => hk) _) (fun _ _ => trivial)
   case done =>
    rintro D xs W hD hxs ⟨v2, hm, hl, h2, hb, hs⟩ hK
    have hH' := HH'.out
    clear HH'
    subst hH'
    obtain ⟨X2, hX2⟩ : ∃ X2, X2 = atF a2 xs := ⟨_, rfl⟩
    rw [← hX2] at h2
    have E2 := Lib.hid (show X2 = ((inn l0_1 l1).filter (fun (k : Nat) => atBus a2 (rd_T37 l0_1 (k : Int)))).map (fun (k : Nat) => (k : Int)) by rw [hX2, hxs, insF_inn, atF, List.filter_map, List.map_map]; rfl)
    clear hX2 hxs
    obtain ⟨A8, c8, rfl⟩ := Kd.R_slice h2
    have c20 : W.cell? ⟨w.heap.size + 1 + 1, 0, none⟩ = some (.slice A8 X2.length c8) := (kC hl 0).trans rfl
    have f20 := kF hl 0
    have HL := Lib.hid hl
    have R2 := Lib.hid h2
    have HBB := Lib.hid hb
    have HSS := Lib.hid hs
    have HD := Lib.hid hD
    have HK := Lib.hid hK
    clear hm hl h2 hb hs hD hK
    gi_wp2
    rw [setCell_id (i := 0) (v := .slice A8 X2.length c8) HL.out rfl]
    refine ⟨by simp, .inl ⟨_, _, rfl, run_takeDeferred (w := W) HK.out, ?_⟩⟩
    have gD := grownBy_putObj' W D (.deferred none)
    have hrow : ∀ r, some D = some r → ∃ o : Obj, W.heap[r]? = some o ∧ o.isCells = false := fun r e => by cases e; exact ⟨_, HK.out, rfl⟩
    have hDw : w.heap.size + 1 + 1 < D := by have := HD.out; rw [HBS.out] at this; omega
    have hL2 := blk_grown HL.out gD (by simp; omega)
    have q2 := R_grown_walk rfl R2.out gD hrow
    have q3 : Below w.heap.size w (W.putObj D (.deferred none)) := (BW6.out.trans HBB.out).trans ((Below.refl _ _).grown gD (by have := HSS.out; omega) (fun k e => by cases e; omega))
    generalize W.putObj D (.deferred none) = Wf at hL2 q2 q3 ⊢
    clear c20 f20
    have d20 : Wf.cell? ⟨w.heap.size + 1 + 1, 0, none⟩ = some (.slice A8 X2.length c8) := (kC hL2 0).trans rfl
    refine ⟨.tuple #[.slice A8 X2.length c8, .int .i64 0], ?_, ?_⟩
    ·simp [results, Try.f71, go_sem, d20]
    ·rw [← E2.out]
     exact ⟨_, rfl, Kd.R_lower q2 (by omega), q3⟩
   case stop =>
    rintro D c pre W _ _ h _
    exact h.elim
 ·rw [net_At.f, if_neg hv] at h
  simp only [Option.some.injEq, Prod.mk.injEq] at h
  obtain ⟨rfl, rfl⟩ := h
  have hvb : (outsV a0_0 l0_1 l1 != 0) = true := by simpa using hv
  generalize outsV a0_0 l0_1 l1 = ev at HOF hvb ⊢
  clear hv
  go_enter Try.func71, Try.ntmps71
  go_wp2_with (go_at_call 31; refine (net_Outs.calls (l1.length + 1) a0_0 _ _ l0_1 _ _ l1 ev _ ?side1 hc0_1 ?side2 hc1 HOF.out).mono ?_; (case side1 => exact Kd.C_below HR0.out (((((Below.refl _ w).alloc (Nat.le_refl _) _).alloc (by simp) _).alloc (by simp; omega) _))); (case side2 => exact Kd.C_below HR1.out (((((Below.refl _ w).alloc (Nat.le_refl _) _).alloc (by simp) _).alloc (by simp; omega) _))); rintro e w4 ⟨rfl, hb4⟩; obtain ⟨k0, k1, k2, hsz, hbw⟩ := boxes3 hb4; have K0 := Lib.hid k0; have K1 := Lib.hid k1; have K2 := Lib.hid k2; have HBW := Lib.hid hbw; clear hb4 k0 k1 k2 hbw; have c00 : w4.cell? ⟨w.heap.size, 0, none⟩ = some (.int .i64 a0_0) := (kC K0.out 0).trans rfl; have c10 : w4.cell? ⟨w.heap.size + 1, 0, none⟩ = some (.int .i64 a2) := (kC K1.out 0).trans rfl; have c20 : w4.cell? ⟨w.heap.size + 1 + 1, 0, none⟩ = some (.slice none 0 0) := (kC K2.out 0).trans rfl; have f20 := kF K2.out 0)
  rw [setCell_id (i := 0) (v := .slice none 0 0) K2.out rfl]
  exact bodyPost_ret (v := .tuple #[.slice none 0 0, .int .i64 ev]) (by simp [results, Try.f71, go_sem, c20]) rfl ⟨_, rfl, Kd.R_nil _ _ _ _ _, HBW.out⟩
end
def ql14three.f  : Option (Int × (List (S37))) := some (3, (([(⟨0, 1, 10, 100⟩ : S37), (⟨1, 2, 5, 50⟩ : S37), (⟨0, 2, 10, 70⟩ : S37)] : List (S37))))
set_option maxHeartbeats 8000000 in
set_option maxRecDepth 100000 in
theorem ql14three.calls  (r1 : Int) (r2 : List (S37)) (w : World) (h : ql14three.f  = some (r1, r2)) :
  Calls Try.prog 77 #[] w fun e w' => ∃ v1_ : Value, e = .returned (.agg #[.int .i64 r1, v1_]) ∧ Kd.R k37 37 w' w.heap.size (fun _ => True) v1_ r2 ∧ Below w.heap.size w w' := by
 have hu24 := Try.underlying24
 have hu37 := Try.underlying37
 have HB := Z0.mk (Below.refl w.heap.size w)
 have H : (some (3, (([(⟨0, 1, 10, 100⟩ : S37), (⟨1, 2, 5, 50⟩ : S37), (⟨0, 2, 10, 70⟩ : S37)] : List (S37))))) = some (r1, r2) := h
 clear h
 obtain ⟨y1360, hy1360⟩ : ∃ y_ : List (S37), y_ = (([(⟨0, 1, 10, 100⟩ : S37), (⟨1, 2, 5, 50⟩ : S37), (⟨0, 2, 10, 70⟩ : S37)] : List (S37))) := ⟨_, rfl⟩
 replace H : (some (3, y1360)) = some (r1, r2) := by first | (rw [hy1360]; with_reducible exact H) | (have H2_ := (Option.bind_some _ _).symm.trans H; rw [hy1360]; with_reducible exact H2_) | (have H2_ := (Option.bind_some _ _).symm.trans H; with_reducible exact H2_) | with_reducible exact H | (rw [hy1360]; exact H) | exact H
 have Ny1360 := Z0.mk hy1360
 clear hy1360
 simp only [Option.some.injEq, Prod.mk.injEq] at H
 obtain ⟨rfl, rfl⟩ := H
 go_enter Try.func77, Try.ntmps77
 go_wp2_with (first | ((with_reducible refine gate_dst (N := 0) rfl ?_); refine bE ?hg (N := 0) ?hd (cs := #[.int .i64 0, .slice none 0 0]) (t := 24) ?hr ?_; (case hd => rfl); (case hg => rfl); (case hr => first | (go_simp; done) | (go_simp; rfl)); intro gb1359 hg w1 hbox hb; have n0_ := Z0.mk (bT (by repeat (first | (with_reducible first | exact HB.out | apply below_alloc | apply bN | apply bD) | exact HB.out)) hb); have n1_ := Z0.mk (hbox); have n2_ := Z0.mk ((by rw [hg]; exact (bZ (by repeat (first | (with_reducible first | exact HB.out | apply below_alloc | apply bN | apply bD) | exact HB.out))) : w.heap.size ≤ gb1359)); have n3_ := Z0.mk ((by rw [hg]; exact (bZ (by repeat (first | (with_reducible first | exact HB.out | apply below_alloc | apply bN | apply bD) | exact HB.out))) : w.heap.size ≤ gb1359)); clear HB; have HB := n0_; have BK1359 := n1_; have GW1359 := n2_; have GE1359 := n3_; clear n0_ n1_ n2_ n3_; clear hb hbox hg) | ((with_reducible refine gate_dst (N := 4) rfl ?_); refine Kd.R_lit k37 _ 37 ?hg (N := 4) ?hd (xs := ([(⟨0, 1, 10, 100⟩ : S37), (⟨1, 2, 5, 50⟩ : S37), (⟨0, 2, 10, 70⟩ : S37)] : List (S37))) (inner := [.int .i64 0, .int .i64 1, .int .i64 10, .int .i64 100, .int .i64 1, .int .i64 2, .int .i64 5, .int .i64 50, .int .i64 0, .int .i64 2, .int .i64 10, .int .i64 70]) (ok := fun _ => True) (okp := fun _ => True) ?hr ?hp (fun _ hk => hk) trivial (Below.refl _ _) (Nat.le_refl _) (by simp) ?_; (case hd => rfl); (case hg => rfl); (case hr => first | (go_simp; done) | (go_simp; rfl)); (case hp => exact (Reps.c4 (show Kd.M k37 _ _ _ (⟨0, 1, 10, 100⟩ : S37) [.int .i64 0, .int .i64 1, .int .i64 10, .int .i64 100] from (k37_mkM _ _ _ (⟨0, 1, 10, 100⟩ : S37) )) (Reps.c4 (show Kd.M k37 _ _ _ (⟨1, 2, 5, 50⟩ : S37) [.int .i64 1, .int .i64 2, .int .i64 5, .int .i64 50] from (k37_mkM _ _ _ (⟨1, 2, 5, 50⟩ : S37) )) (Reps.c4 (show Kd.M k37 _ _ _ (⟨0, 2, 10, 70⟩ : S37) [.int .i64 0, .int .i64 2, .int .i64 10, .int .i64 70] from (k37_mkM _ _ _ (⟨0, 2, 10, 70⟩ : S37) )) (Reps.none _ _))))); intro v1361 w2 ho3 hb hg_ hnew_; clear hg_ hnew_; (first | rw [← Ny1360.out] at ho3 | (simp only [Int.reduceToNat] at ho3; rw [← Ny1360.out] at ho3)); have n0_ := Z0.mk (Kd.R_lower ho3 (bZ (by repeat (first | (with_reducible first | exact HB.out | apply below_alloc | apply bN | apply bD | refine bS ?_ GE1359.out) | exact HB.out)))); have n1_ := Z0.mk (kB (g := gb1359) (o := .cells #[.int .i64 0, .slice none 0 0] 24 (0, 0)) (by (with_reducible repeat (first | refine kN ?_ _ | refine kD ?_ | refine kA ?_ _)); exact BK1359.out) hb); have n2_ := Z0.mk (bT (by repeat (first | (with_reducible first | exact HB.out | apply below_alloc | apply bN | apply bD | refine bS ?_ GE1359.out) | exact HB.out)) hb); clear BK1359; clear HB; have HO1362 := n0_; have BK1359 := n1_; have HB := n2_; clear n0_ n1_ n2_; clear hb ho3; obtain ⟨Ao4, co4, eo4⟩ := Kd.R_slice HO1362.out; subst eo4; have hcz5_0 : w2.cell? ⟨gb1359, 0, none⟩ = some (.int .i64 0) := (kC BK1359.out 0).trans rfl; have hcz5_1 : w2.cell? ⟨gb1359, 1, none⟩ = some (.slice none 0 0) := (kC BK1359.out 1).trans rfl; have hfz5_0 := kF BK1359.out 0; have hfz5_1 := kF BK1359.out 1))
 refine bodyPost_ret (results_cell_row rfl _ _ gb1359 24 #[.int .i64 3, .slice Ao4 y1360.length co4] (0, 0) _ rfl (by (with_reducible repeat (first | refine kN ?_ _ | refine kD ?_ | refine kA ?_ _)); refine kP (cs := #[.int .i64 3, .slice none 0 0]) ?_ 1 _ rfl; (with_reducible repeat (first | refine kN ?_ _ | refine kD ?_ | refine kA ?_ _)); refine kP (cs := #[.int .i64 0, .slice none 0 0]) ?_ 0 _ rfl; (with_reducible repeat (first | refine kN ?_ _ | refine kD ?_ | refine kA ?_ _)); exact BK1359.out) Try.underlying24 rfl (by kernel_rfl)) rfl ?_
 exact ⟨_, by first | rfl | (simp [errW_none, errW_some] <;> rfl) | (simp [*, errW_none, errW_some] <;> rfl), by (with_reducible repeat (first | apply Kd.R_alloc | apply Kd.R_drewN | apply Kd.R_drew)); exact Kd.R_mono (Kd.R_far (p := ⟨gb1359, 1, none⟩) (Kd.R_far (p := ⟨gb1359, 0, none⟩) (Kd.R_types HO1362.out BK1359.out (by decide)) (fun _ hk => hk.2) (.int .i64 3)) (fun _ hk => hk.2) (.slice Ao4 y1360.length co4)) (fun _ hk => trivial), by repeat (first | (with_reducible first | exact HB.out | apply below_alloc | apply bN | apply bD | refine bS ?_ GE1359.out) | exact HB.out)⟩
def three14 : List S37 := [(⟨0, 1, 10, 100⟩ : S37), (⟨1, 2, 5, 50⟩ : S37), (⟨0, 2, 10, 70⟩ : S37)]
theorem a14_three : ql14three.f = some (3, three14) := rfl
theorem a14_in : net_In.f 3 three14 [1] = some ([0, 2], 0) := by kernel_rfl
theorem a14_at : net_At.f 3 three14 [1] 2 = some ([2], 0) := by kernel_rfl
theorem a14_un : net_Union.f [0, 2] [1, 2] = some ([0, 1, 2], 0) := by
 rw [net_Union.f, if_pos (by decide), if_pos (by decide), if_pos (by decide), show uni [0, 2] [1, 2] = [0, 1, 2] from inc_ext (uni_inc _ _) (by decide) (fun x => by rw [mem_uni]; simp; omega)]
theorem a14_check : net_Check.f 3 three14 = some 0 := by kernel_rfl
theorem a14_check0 : net_Check.f 0 [] = some 1 := by kernel_rfl
theorem a14_outs1 : net_Outs.f 20 3 three14 [1, 1] = some 1 := by kernel_rfl
theorem a14_outs2 : net_Outs.f 20 3 three14 [3] = some 1 := by kernel_rfl
theorem a14_ints1 : qr14Ints.f 20 [0, 2] [0, 2] = some true := by kernel_rfl
theorem a14_ints2 : qr14Ints.f 20 [2] [2] = some true := by kernel_rfl
theorem a14_ints3 : qr14Ints.f 20 [0, 1, 2] [0, 1, 2] = some true := by kernel_rfl
def ql14awake.f : Option (Bool) := some true
set_option maxRecDepth 100000 in
set_option maxHeartbeats 4000000 in
theorem ql14awake.calls  (r : Bool) (w : World) (h : ql14awake.f  = some r) :
  Calls Try.prog 66 #[] w fun e w' => e = .returned (.bool r) ∧ Below w.heap.size w w' := by
 have hr : true = r := Option.some.inj h
 subst hr
 clear h
 go_enter Try.func66, Try.ntmps66
 go_wp2_with fail
 go_at_call 77
 refine (ql14three.calls  3 three14 _  a14_three).mono ?_
 rintro e w1 ⟨v1, rfl, h1, b1⟩
 obtain ⟨A1, c1, rfl⟩ := Kd.R_slice h1
 obtain ⟨_, hc1, hC1⟩ := Kd.R_reads' h1
 have X1_0 := Lib.hid hC1
 clear h1 hC1
 have d1 := b1
 have B1 := Lib.hid (d1)
 clear d1
 go_wp2_with fail
 go_at_call 59
 refine (net_In.calls 3 A1 c1 three14 (some ⟨w1.heap.size + 1, 0, none⟩) 1 [1] [0, 2] 0 _ (Kd.C_alloc (Kd.C_alloc X1_0.out _) _) hc1 (C_litS (w1.alloc (.cells #[.int .i64 3, .slice A1 three14.length c1] 24)) (w1.heap.size + 1) (by simp) [1] 3 (by decide)) (Nat.le_refl _) a14_in).mono ?_
 rintro e w2 ⟨v2, rfl, h2, b2⟩
 obtain ⟨A2, c2, rfl⟩ := Kd.R_slice h2
 obtain ⟨_, hc2, hC2⟩ := Kd.R_reads' h2
 have X2_0 := Lib.hid hC2
 clear h2 hC2
 have d2 : Below w1.heap.size w1 w2 := (below_alloc (below_alloc (Below.refl w1.heap.size w1) _) _).trans (b2.mono (by simp <;> omega))
 have K2 : RowKit.Hid (w2.heap[w1.heap.size]? = some (.cells #[.int .i64 3, .slice A1 three14.length c1] 24 (0, 0))) := Lib.hid ((b2.block _ (by simp <;> omega)).trans (kA (blk_newS w1 (w1.heap.size) (by simp) _) _))
 have K2c0 : w2.cell? ⟨w1.heap.size, 0, none⟩ = some (.int .i64 3) := (kC K2.out 0).trans rfl
 have K2c1 : w2.cell? ⟨w1.heap.size, 1, none⟩ = some (.slice A1 three14.length c1) := (kC K2.out 1).trans rfl
 have K2l : w1.heap.size < w2.heap.size := blk_lt K2.out
 have X_3 := Lib.hid (Kd.C_below X1_0.out d2)
 clear X1_0
 have B4 := Lib.hid (B1.out.trans (d2.mono B1.out.size))
 clear d2 B1
 go_wp2_with fail
 go_at_call 71
 refine (net_At.calls 3 A1 c1 three14 (some ⟨w2.heap.size, 0, none⟩) 1 [1] 2 [2] 0 _ (Kd.C_alloc X_3.out _) hc1 (C_litS w2 (w2.heap.size) (by simp) [1] 3 (by decide)) (Nat.le_refl _) a14_at).mono ?_
 rintro e w3 ⟨v3, rfl, h3, b3⟩
 obtain ⟨A3, c3, rfl⟩ := Kd.R_slice h3
 obtain ⟨_, hc3, hC3⟩ := Kd.R_reads' h3
 have X3_0 := Lib.hid hC3
 clear h3 hC3
 have d3 : Below w2.heap.size w2 w3 := (below_alloc (Below.refl w2.heap.size w2) _).trans (b3.mono (by simp <;> omega))
 have K5 : RowKit.Hid (w3.heap[w1.heap.size]? = some (.cells #[.int .i64 3, .slice A1 three14.length c1] 24 (0, 0))) := Lib.hid ((d3.block _ (by omega)).trans K2.out)
 have K5c0 : w3.cell? ⟨w1.heap.size, 0, none⟩ = some (.int .i64 3) := (kC K5.out 0).trans rfl
 have K5c1 : w3.cell? ⟨w1.heap.size, 1, none⟩ = some (.slice A1 three14.length c1) := (kC K5.out 1).trans rfl
 have K5l : w1.heap.size < w3.heap.size := blk_lt K5.out
 clear K2 K2l K2c0 K2c1
 have X_6 := Lib.hid (Kd.C_below X_3.out d3)
 clear X_3
 have X_7 := Lib.hid (Kd.C_below X2_0.out d3)
 clear X2_0
 have B8 := Lib.hid (B4.out.trans (d3.mono B4.out.size))
 clear d3 B4
 go_wp2_with fail
 go_at_call 49
 refine (net_Union.calls (some ⟨w3.heap.size, 0, none⟩) 2 [0, 2] (some ⟨w3.heap.size + 1, 0, none⟩) 2 [1, 2] [0, 1, 2] 0 _ (Kd.C_alloc (C_litS w3 (w3.heap.size) (by simp) [0, 2] 3 (by decide)) _) (Nat.le_refl _) (C_litS (w3.alloc (.cells (([0, 2] : List Int).map (Value.int .i64)).toArray 3)) (w3.heap.size + 1) (by simp) [1, 2] 3 (by decide)) (Nat.le_refl _) a14_un).mono ?_
 rintro e w4 ⟨v4, rfl, h4, b4⟩
 obtain ⟨A4, c4, rfl⟩ := Kd.R_slice h4
 obtain ⟨_, hc4, hC4⟩ := Kd.R_reads' h4
 have X4_0 := Lib.hid hC4
 clear h4 hC4
 have d4 : Below w3.heap.size w3 w4 := (below_alloc (below_alloc (Below.refl w3.heap.size w3) _) _).trans (b4.mono (by simp <;> omega))
 have K9 : RowKit.Hid (w4.heap[w1.heap.size]? = some (.cells #[.int .i64 3, .slice A1 three14.length c1] 24 (0, 0))) := Lib.hid ((d4.block _ (by omega)).trans K5.out)
 have K9c0 : w4.cell? ⟨w1.heap.size, 0, none⟩ = some (.int .i64 3) := (kC K9.out 0).trans rfl
 have K9c1 : w4.cell? ⟨w1.heap.size, 1, none⟩ = some (.slice A1 three14.length c1) := (kC K9.out 1).trans rfl
 have K9l : w1.heap.size < w4.heap.size := blk_lt K9.out
 clear K5 K5l K5c0 K5c1
 have X_10 := Lib.hid (Kd.C_below X_6.out d4)
 clear X_6
 have X_11 := Lib.hid (Kd.C_below X_7.out d4)
 clear X_7
 have X_12 := Lib.hid (Kd.C_below X3_0.out d4)
 clear X3_0
 have B13 := Lib.hid (B8.out.trans (d4.mono B8.out.size))
 clear d4 B8
 go_wp2_with fail
 go_at_call 35
 refine (net_Check.calls 3 A1 c1 three14 0 _ X_10.out hc1 a14_check).mono ?_
 rintro e w5 ⟨rfl, b5⟩
 have d5 := b5
 have K14 : RowKit.Hid (w5.heap[w1.heap.size]? = some (.cells #[.int .i64 3, .slice A1 three14.length c1] 24 (0, 0))) := Lib.hid ((d5.block _ (by omega)).trans K9.out)
 have K14c0 : w5.cell? ⟨w1.heap.size, 0, none⟩ = some (.int .i64 3) := (kC K14.out 0).trans rfl
 have K14c1 : w5.cell? ⟨w1.heap.size, 1, none⟩ = some (.slice A1 three14.length c1) := (kC K14.out 1).trans rfl
 have K14l : w1.heap.size < w5.heap.size := blk_lt K14.out
 clear K9 K9l K9c0 K9c1
 have X_15 := Lib.hid (Kd.C_below X_10.out d5)
 clear X_10
 have X_16 := Lib.hid (Kd.C_below X_11.out d5)
 clear X_11
 have X_17 := Lib.hid (Kd.C_below X_12.out d5)
 clear X_12
 have X_18 := Lib.hid (Kd.C_below X4_0.out d5)
 clear X4_0
 have B19 := Lib.hid (B13.out.trans (d5.mono B13.out.size))
 clear d5 B13
 go_wp2_with fail
 go_at_call 36
 refine (qr14Ints.calls 20 A2 c2 [0, 2] (some ⟨w5.heap.size, 0, none⟩) 2 [0, 2] true _ (Kd.C_alloc X_16.out _) hc2 (C_litS w5 (w5.heap.size) (by simp) [0, 2] 3 (by decide)) (Nat.le_refl _) a14_ints1).mono ?_
 rintro e w' ⟨rfl, ⟨m, rfl⟩⟩
 have b6 : Below w5.heap.size w5 ((w5.alloc (.cells (([0, 2] : List Int).map (Value.int .i64)).toArray 3)).drewN m) := bN (below_alloc (Below.refl _ _) _) m
 generalize (w5.alloc (.cells (([0, 2] : List Int).map (Value.int .i64)).toArray 3)).drewN m = w6 at b6 ⊢
 have d6 := b6
 have K20 : RowKit.Hid (w6.heap[w1.heap.size]? = some (.cells #[.int .i64 3, .slice A1 three14.length c1] 24 (0, 0))) := Lib.hid ((d6.block _ (by omega)).trans K14.out)
 have K20c0 : w6.cell? ⟨w1.heap.size, 0, none⟩ = some (.int .i64 3) := (kC K20.out 0).trans rfl
 have K20c1 : w6.cell? ⟨w1.heap.size, 1, none⟩ = some (.slice A1 three14.length c1) := (kC K20.out 1).trans rfl
 have K20l : w1.heap.size < w6.heap.size := blk_lt K20.out
 clear K14 K14l K14c0 K14c1
 have X_21 := Lib.hid (Kd.C_below X_15.out d6)
 clear X_15
 have X_22 := Lib.hid (Kd.C_below X_16.out d6)
 clear X_16
 have X_23 := Lib.hid (Kd.C_below X_17.out d6)
 clear X_17
 have X_24 := Lib.hid (Kd.C_below X_18.out d6)
 clear X_18
 have B25 := Lib.hid (B19.out.trans (d6.mono B19.out.size))
 clear d6 B19; clear X_22
 go_wp2_with fail
 go_at_call 36
 refine (qr14Ints.calls 20 A3 c3 [2] (some ⟨w6.heap.size, 0, none⟩) 1 [2] true _ (Kd.C_alloc X_23.out _) hc3 (C_litS w6 (w6.heap.size) (by simp) [2] 3 (by decide)) (Nat.le_refl _) a14_ints2).mono ?_
 rintro e w' ⟨rfl, ⟨m, rfl⟩⟩
 have b7 : Below w6.heap.size w6 ((w6.alloc (.cells (([2] : List Int).map (Value.int .i64)).toArray 3)).drewN m) := bN (below_alloc (Below.refl _ _) _) m
 generalize (w6.alloc (.cells (([2] : List Int).map (Value.int .i64)).toArray 3)).drewN m = w7 at b7 ⊢
 have d7 := b7
 have K26 : RowKit.Hid (w7.heap[w1.heap.size]? = some (.cells #[.int .i64 3, .slice A1 three14.length c1] 24 (0, 0))) := Lib.hid ((d7.block _ (by omega)).trans K20.out)
 have K26c0 : w7.cell? ⟨w1.heap.size, 0, none⟩ = some (.int .i64 3) := (kC K26.out 0).trans rfl
 have K26c1 : w7.cell? ⟨w1.heap.size, 1, none⟩ = some (.slice A1 three14.length c1) := (kC K26.out 1).trans rfl
 have K26l : w1.heap.size < w7.heap.size := blk_lt K26.out
 clear K20 K20l K20c0 K20c1
 have X_27 := Lib.hid (Kd.C_below X_21.out d7)
 clear X_21
 have X_28 := Lib.hid (Kd.C_below X_23.out d7)
 clear X_23
 have X_29 := Lib.hid (Kd.C_below X_24.out d7)
 clear X_24
 have B30 := Lib.hid (B25.out.trans (d7.mono B25.out.size))
 clear d7 B25; clear X_28
 go_wp2_with fail
 go_at_call 36
 refine (qr14Ints.calls 20 A4 c4 [0, 1, 2] (some ⟨w7.heap.size, 0, none⟩) 3 [0, 1, 2] true _ (Kd.C_alloc X_29.out _) hc4 (C_litS w7 (w7.heap.size) (by simp) [0, 1, 2] 3 (by decide)) (Nat.le_refl _) a14_ints3).mono ?_
 rintro e w' ⟨rfl, ⟨m, rfl⟩⟩
 have b8 : Below w7.heap.size w7 ((w7.alloc (.cells (([0, 1, 2] : List Int).map (Value.int .i64)).toArray 3)).drewN m) := bN (below_alloc (Below.refl _ _) _) m
 generalize (w7.alloc (.cells (([0, 1, 2] : List Int).map (Value.int .i64)).toArray 3)).drewN m = w8 at b8 ⊢
 have d8 := b8
 have K31 : RowKit.Hid (w8.heap[w1.heap.size]? = some (.cells #[.int .i64 3, .slice A1 three14.length c1] 24 (0, 0))) := Lib.hid ((d8.block _ (by omega)).trans K26.out)
 have K31c0 : w8.cell? ⟨w1.heap.size, 0, none⟩ = some (.int .i64 3) := (kC K31.out 0).trans rfl
 have K31c1 : w8.cell? ⟨w1.heap.size, 1, none⟩ = some (.slice A1 three14.length c1) := (kC K31.out 1).trans rfl
 have K31l : w1.heap.size < w8.heap.size := blk_lt K31.out
 clear K26 K26l K26c0 K26c1
 have X_32 := Lib.hid (Kd.C_below X_27.out d8)
 clear X_27
 have X_33 := Lib.hid (Kd.C_below X_29.out d8)
 clear X_29
 have B34 := Lib.hid (B30.out.trans (d8.mono B30.out.size))
 clear d8 B30; clear X_33
 go_wp2_with fail
 go_at_call 31
 refine (net_Outs.calls 20 3 A1 c1 three14 (some ⟨w8.heap.size, 0, none⟩) 2 [1, 1] 1 _ (Kd.C_alloc X_32.out _) hc1 (C_litS w8 (w8.heap.size) (by simp) [1, 1] 3 (by decide)) (Nat.le_refl _) a14_outs1).mono ?_
 rintro e w9 ⟨rfl, b9⟩
 have d9 : Below w8.heap.size w8 w9 := (below_alloc (Below.refl w8.heap.size w8) _).trans (b9.mono (by simp <;> omega))
 have K35 : RowKit.Hid (w9.heap[w1.heap.size]? = some (.cells #[.int .i64 3, .slice A1 three14.length c1] 24 (0, 0))) := Lib.hid ((d9.block _ (by omega)).trans K31.out)
 have K35c0 : w9.cell? ⟨w1.heap.size, 0, none⟩ = some (.int .i64 3) := (kC K35.out 0).trans rfl
 have K35c1 : w9.cell? ⟨w1.heap.size, 1, none⟩ = some (.slice A1 three14.length c1) := (kC K35.out 1).trans rfl
 have K35l : w1.heap.size < w9.heap.size := blk_lt K35.out
 clear K31 K31l K31c0 K31c1
 have X_36 := Lib.hid (Kd.C_below X_32.out d9)
 clear X_32
 have B37 := Lib.hid (B34.out.trans (d9.mono B34.out.size))
 clear d9 B34
 go_wp2_with fail
 go_at_call 31
 refine (net_Outs.calls 20 3 A1 c1 three14 (some ⟨w9.heap.size, 0, none⟩) 1 [3] 1 _ (Kd.C_alloc X_36.out _) hc1 (C_litS w9 (w9.heap.size) (by simp) [3] 3 (by decide)) (Nat.le_refl _) a14_outs2).mono ?_
 rintro e w10 ⟨rfl, b10⟩
 have d10 : Below w9.heap.size w9 w10 := (below_alloc (Below.refl w9.heap.size w9) _).trans (b10.mono (by simp <;> omega))
 have K38 : RowKit.Hid (w10.heap[w1.heap.size]? = some (.cells #[.int .i64 3, .slice A1 three14.length c1] 24 (0, 0))) := Lib.hid ((d10.block _ (by omega)).trans K35.out)
 have K38c0 : w10.cell? ⟨w1.heap.size, 0, none⟩ = some (.int .i64 3) := (kC K38.out 0).trans rfl
 have K38c1 : w10.cell? ⟨w1.heap.size, 1, none⟩ = some (.slice A1 three14.length c1) := (kC K38.out 1).trans rfl
 have K38l : w1.heap.size < w10.heap.size := blk_lt K38.out
 clear K35 K35l K35c0 K35c1
 have X_39 := Lib.hid (Kd.C_below X_36.out d10)
 clear X_36
 have B40 := Lib.hid (B37.out.trans (d10.mono B37.out.size))
 clear d10 B37
 go_wp2_with fail
 go_at_call 35
 refine (net_Check.calls 0 none 0 [] 1 _ (Kd.C_nil _ _) (Nat.le_refl _) a14_check0).mono ?_
 rintro e w11 ⟨rfl, b11⟩
 have d11 := b11
 have K41 : RowKit.Hid (w11.heap[w1.heap.size]? = some (.cells #[.int .i64 3, .slice A1 three14.length c1] 24 (0, 0))) := Lib.hid ((d11.block _ (by omega)).trans K38.out)
 have K41c0 : w11.cell? ⟨w1.heap.size, 0, none⟩ = some (.int .i64 3) := (kC K41.out 0).trans rfl
 have K41c1 : w11.cell? ⟨w1.heap.size, 1, none⟩ = some (.slice A1 three14.length c1) := (kC K41.out 1).trans rfl
 have K41l : w1.heap.size < w11.heap.size := blk_lt K41.out
 clear K38 K38l K38c0 K38c1
 have X_42 := Lib.hid (Kd.C_below X_39.out d11)
 clear X_39
 have B43 := Lib.hid (B40.out.trans (d11.mono B40.out.size))
 clear d11 B40
 go_wp2_with fail
 go_ret
 exact ⟨rfl, B43.out⟩
def ql14own.f (a0_0 : Int) (l0_1 : List (S37)) : Option (Int × (List (S37))) := if ([] : List (S37)).length + l0_1.length < 4398046511104 then (some (a0_0, (([] : List (S37)) ++ l0_1))) else (none)
set_option maxHeartbeats 8000000 in
set_option maxRecDepth 100000 in
theorem ql14own.calls (a0_0 : Int) (A0_1 : Option Addr) (c0_1 : Nat) (l0_1 : List (S37)) (r1 : Int) (r2 : List (S37)) (w : World) (hr0_1 : Kd.C k37 w A0_1 l0_1.length l0_1) (hc0_1 : l0_1.length ≤ c0_1) (h : ql14own.f a0_0 l0_1 = some (r1, r2)) :
  Calls Try.prog 67 #[.agg #[.int .i64 a0_0, .slice A0_1 l0_1.length c0_1]] w fun e w' => ∃ v1_ : Value, e = .returned (.agg #[.int .i64 r1, v1_]) ∧ Kd.R k37 37 w' w.heap.size (fun _ => True) v1_ r2 ∧ Below w.heap.size w w' := by
 have hu24 := Try.underlying24
 have HR0_1 := Z0.mk hr0_1
 have HC0_1 := Z0.mk hc0_1
 clear hr0_1 hc0_1
 have HB := Z0.mk (Below.refl w.heap.size w)
 have H : (if ([] : List (S37)).length + l0_1.length < 4398046511104 then (some (a0_0, (([] : List (S37)) ++ l0_1))) else (none)) = some (r1, r2) := h
 clear h
 by_cases c2 : ([] : List (S37)).length + l0_1.length < 4398046511104
 ·rw [if_pos c2] at H
  have LMc2 := Z0.mk c2
  clear c2
  obtain ⟨y1115, hy1115⟩ : ∃ y_ : List (S37), y_ = (([] : List (S37)) ++ l0_1) := ⟨_, rfl⟩
  replace H : (some (a0_0, y1115)) = some (r1, r2) := by first | (rw [hy1115]; with_reducible exact H) | (have H2_ := (Option.bind_some _ _).symm.trans H; rw [hy1115]; with_reducible exact H2_) | (have H2_ := (Option.bind_some _ _).symm.trans H; with_reducible exact H2_) | with_reducible exact H | (rw [hy1115]; exact H) | exact H
  have Ny1115 := Z0.mk hy1115
  clear hy1115
  simp only [Option.some.injEq, Prod.mk.injEq] at H
  obtain ⟨rfl, rfl⟩ := H
  go_enter Try.func67, Try.ntmps67
  try go_wp2_with (first | ((with_reducible refine gate_dst (N := 1) rfl ?_); refine bE ?hg (N := 1) ?hd (cs := #[.int .i64 a0_0, .slice A0_1 l0_1.length c0_1]) (t := 24) ?hr ?_; (case hd => rfl); (case hg => rfl); (case hr => first | (go_simp; done) | (go_simp; rfl)); intro gb1113 hg w3 hbox hb; have n0_ := Z0.mk (bT (by repeat (first | (with_reducible first | exact HB.out | apply below_alloc | apply bN | apply bD) | exact HB.out)) hb); have n1_ := Z0.mk (hbox); have n2_ := Z0.mk ((by rw [hg]; exact (bZ (by repeat (first | (with_reducible first | exact HB.out | apply below_alloc | apply bN | apply bD) | exact HB.out))) : w.heap.size ≤ gb1113)); have n3_ := Z0.mk ((by rw [hg]; exact (bZ (by repeat (first | (with_reducible first | exact HB.out | apply below_alloc | apply bN | apply bD) | exact HB.out))) : w.heap.size ≤ gb1113)); clear HB; have HB := n0_; have BK1113 := n1_; have GW1113 := n2_; have GE1113 := n3_; clear n0_ n1_ n2_ n3_; clear hb hbox hg) | ((with_reducible refine gate_dst (N := 2) rfl ?_); refine bE ?hg (N := 2) ?hd (cs := #[.int .i64 0, .slice none 0 0]) (t := 24) ?hr ?_; (case hd => rfl); (case hg => rfl); (case hr => first | (go_simp; done) | (go_simp; rfl)); intro gb1114 hg w4 hbox hb; have n0_ := Z0.mk (kB (g := gb1113) (o := .cells #[.int .i64 a0_0, .slice A0_1 l0_1.length c0_1] 24 (0, 0)) (by (with_reducible repeat (first | refine kN ?_ _ | refine kD ?_ | refine kA ?_ _)); exact BK1113.out) hb); have n1_ := Z0.mk (bT (by repeat (first | (with_reducible first | exact HB.out | apply below_alloc | apply bN | apply bD | refine bS ?_ GE1113.out) | exact HB.out)) hb); have n2_ := Z0.mk (hbox); have n3_ := Z0.mk ((by rw [hg]; exact (bZ (by repeat (first | (with_reducible first | exact HB.out | apply below_alloc | apply bN | apply bD | refine bS ?_ GE1113.out) | exact HB.out))) : w.heap.size ≤ gb1114)); have n4_ := Z0.mk ((by rw [hg]; exact (bZ (by repeat (first | (with_reducible first | exact HB.out | apply below_alloc | apply bN | apply bD | refine bS ?_ GE1113.out) | exact HB.out))) : w.heap.size ≤ gb1114)); have n5_ := Z0.mk ((by rw [hg]; exact Nat.ne_of_lt (blk_lt (g := gb1113) (o := .cells #[.int .i64 a0_0, .slice A0_1 l0_1.length c0_1] 24 (0, 0)) (by (with_reducible repeat (first | refine kN ?_ _ | refine kD ?_ | refine kA ?_ _)); exact BK1113.out)) : gb1113 ≠ gb1114)); have n6_ := Z0.mk ((by rw [hg]; exact Nat.ne_of_gt (blk_lt (g := gb1113) (o := .cells #[.int .i64 a0_0, .slice A0_1 l0_1.length c0_1] 24 (0, 0)) (by (with_reducible repeat (first | refine kN ?_ _ | refine kD ?_ | refine kA ?_ _)); exact BK1113.out)) : gb1114 ≠ gb1113)); clear BK1113; clear HB; have BK1113 := n0_; have HB := n1_; have BK1114 := n2_; have GW1114 := n3_; have GE1114 := n4_; have NB1113_1114 := n5_; have NB1114_1113 := n6_; clear n0_ n1_ n2_ n3_ n4_ n5_ n6_; clear hb hbox hg))
  have n0_ := Z0.mk (kD BK1113.out)
  have n1_ := Z0.mk (kD BK1114.out)
  have n2_ := Z0.mk (bD HB.out)
  clear BK1113; clear BK1114; clear HB
  have BK1113 := n0_
  have BK1114 := n1_
  have HB := n2_
  clear n0_ n1_ n2_
  refine start_ (n := 7) (S := fun w' => w'.cell? ⟨gb1113, 0, none⟩ = some (.int .i64 a0_0) ∧ w'.cell? ⟨gb1113, 1, none⟩ = some (.slice A0_1 l0_1.length c0_1)) (ds := []) #[false,false,false,false,false,false,false] (by kernel_rfl) rfl rfl ⟨(kC BK1113.out 0).trans rfl, (kC BK1113.out 1).trans rfl⟩ (fun hHeld => ?_)
  generalize w4.drew = w5 at BK1113 BK1114 HB hHeld ⊢
  refine pure_ (i := 0) (N := some 3) (v := ?_) (a' := ?_) #[true,false,false,false,false,false,false] rfl rfl (by kernel_rfl) (fun _ _ _ h => h) (Or.inl ⟨by rfl, ?_⟩) ?_ ?_
  rotate_left; (intro w'; go_simp; with_reducible rfl); rotate_left; (simp only [Act.put, List.setIfInBounds_toArray, List.set_cons_zero, List.set_cons_succ, i64_w, i32_w]; rfl)
  refine pure_ (i := 2) (N := some 5) (v := ?_) (a' := ?_) #[true,false,true,false,false,false,false] rfl rfl (by kernel_rfl) (fun _ _ _ h => h) (Or.inl ⟨by rfl, ?_⟩) ?_ ?_
  rotate_left; (intro w'; go_simp; with_reducible rfl); rotate_left; (simp only [Act.put, List.setIfInBounds_toArray, List.set_cons_zero, List.set_cons_succ, i64_w, i32_w]; rfl)
  refine take_ (i := 1) (N := some 4) (v := ?_) (a' := ?_) #[true,true,true,false,false,false,false] rfl rfl (by kernel_rfl) (fun _ _ _ h => h) (Or.inl ⟨by rfl, ?_⟩) hHeld ?_ ?_
  rotate_left; (rintro w' ⟨s0, s1⟩; go_simp; with_reducible rfl); rotate_left; (simp only [Act.put, List.setIfInBounds_toArray, List.set_cons_zero, List.set_cons_succ, i64_w, i32_w]; rfl)
  refine take_ (i := 3) (N := some 6) (v := ?_) (a' := ?_) #[true,true,true,true,false,false,false] rfl rfl (by kernel_rfl) (fun _ _ _ h => h) (Or.inl ⟨by rfl, ?_⟩) hHeld ?_ ?_
  rotate_left; (rintro w' ⟨s0, s1⟩; go_simp; with_reducible rfl); rotate_left; (simp only [Act.put, List.setIfInBounds_toArray, List.set_cons_zero, List.set_cons_succ, i64_w, i32_w]; rfl)
  refine one_ (i := 4) (N := some 7) #[true,true,true,true,true,false,false] rfl rfl (by kernel_rfl) (by decide) (fun K hK => ?_)
  refine Kd.R_append_rows_step k37 (w0 := w) w.heap.size (by rfl) (.const (.slice none 0 0)) (.tmp 6) 22 37 (.agg #[(.int .i64 0), (.int .i64 0), (.int .i64 0), (.int .i64 0)]) 32 rfl Try.underlying22 info37 rfl (by decide) (by omega) (.slice none 0 0) ([] : List (S37)) l0_1 _ _ _ (fun _ => True) (fun _ => False) rfl rfl ?aO ?aR (fun _ _ h => h) (fun _ h => h.elim) ?aF ?aB ?aS ?aL ?_
  (case aR => repeat (first | exact (Kd.C_below HR0_1.out HB.out) | (with_reducible refine Kd.C_alloc ?_ _) | (with_reducible refine Kd.C_drewN ?_ _) | (with_reducible refine Kd.C_drew ?_)))
  (case aB => exact (by repeat (first | (with_reducible first | exact HB.out | apply below_alloc | apply bN | apply bD | refine bS ?_ GE1113.out | refine bS ?_ GE1114.out) | exact HB.out)))
  (case aF => exact (fun _ _ => trivial))
  (case aO => exact ((Kd.R_nil _ _ _ _ (fun _ => True))))
  (case aS => exact (bZ (by repeat (first | (with_reducible first | exact HB.out | apply below_alloc | apply bN | apply bD | refine bS ?_ GE1113.out | refine bS ?_ GE1114.out) | exact HB.out))))
  (case aL => have := LMc2.out; omega)
  intro v1116 w6 ho hb hg hat
  rw [← Ny1115.out] at ho
  have n0_ := Z0.mk (blk_grown (g := gb1113) (o := .cells #[.int .i64 a0_0, .slice A0_1 l0_1.length c0_1] 24 (0, 0)) (by (with_reducible repeat (first | refine kN ?_ _ | refine kD ?_ | refine kA ?_ _)); exact BK1113.out) hg (by simp [Value.ownBlock]))
  have n1_ := Z0.mk (blk_grown (g := gb1114) (o := .cells #[.int .i64 0, .slice none 0 0] 24 (0, 0)) (by (with_reducible repeat (first | refine kN ?_ _ | refine kD ?_ | refine kA ?_ _)); exact BK1114.out) hg (by simp [Value.ownBlock]))
  have n2_ := Z0.mk (hb)
  have n3_ := Z0.mk (ho)
  clear BK1113; clear BK1114; clear HB
  have BK1113 := n0_
  have BK1114 := n1_
  have HB := n2_
  have HO1117 := n3_
  clear n0_ n1_ n2_ n3_; clear ho hb hg hat
  obtain ⟨Ao7, co7, eo7⟩ := Kd.R_slice HO1117.out
  (first | subst eo7 | (injection eo7 with f1_ f2_ f3_; have f4_ := f1_.symm; have f5_ := f3_.symm; clear f1_ f2_ f3_; subst f4_; subst f5_))
  refine hK.out _ _ ⟨(kC BK1113.out 0).trans rfl, (kC BK1113.out 1).trans rfl⟩ (fun hHeld => ?_)
  clear hK K
  refine norm_ (a' := ?_) ?_ ?_
  rotate_left
  ·show Act.put _ (some 7) _ = _
   simp only [Act.put, List.setIfInBounds_toArray, List.set_cons_zero, List.set_cons_succ, i64_w, i32_w]
   rfl
  refine pure_ (i := 5) (N := some 8) (v := ?_) (a' := ?_) #[true,true,true,true,true,true,false] rfl rfl (by kernel_rfl) (fun _ _ _ h => h) (Or.inl ⟨by rfl, ?_⟩) ?_ ?_
  rotate_left; (intro w'; go_simp; with_reducible rfl); rotate_left; (simp only [Act.put, List.setIfInBounds_toArray, List.set_cons_zero, List.set_cons_succ, i64_w, i32_w]; rfl)
  refine one_ (i := 6) (N := none) #[true,true,true,true,true,true,true] rfl rfl (by kernel_rfl) (by decide) (fun K hK => ?_)
  have hs8 : w6.cell? ⟨gb1114, 0, none⟩ = some (.int .i64 0) := (kC BK1114.out 0).trans rfl
  have hfs8 := kF BK1114.out 0
  have hns8_0 := NB1113_1114.out
  have hms8_0 := NB1114_1113.out
  have hs9 : w6.cell? ⟨gb1114, 1, none⟩ = some (.slice none 0 0) := (kC BK1114.out 1).trans rfl
  have hfs9 := kF BK1114.out 1
  have hns9_0 := NB1113_1114.out
  have hms9_0 := NB1114_1113.out
  refine skip_ (w1 := ?_) (by rfl) rfl ?_ ?_
  rotate_left
  ·go_simp
   rfl
  refine hK.out _ _ ⟨((cell_far (p := ⟨gb1114, _, none⟩) NB1113_1114.out _).trans (((cell_far (p := ⟨gb1114, _, none⟩) NB1113_1114.out _).trans (hHeld.1)))), ((cell_far (p := ⟨gb1114, _, none⟩) NB1113_1114.out _).trans (((cell_far (p := ⟨gb1114, _, none⟩) NB1113_1114.out _).trans (hHeld.2))))⟩ (fun hHeld => ?_)
  clear hK K
  refine done_ (by kernel_rfl) ?_
  try go_wp2
  refine bodyPost_ret (results_cell_row rfl _ _ gb1114 24 #[.int .i64 a0_0, .slice Ao7 y1115.length co7] (0, 0) _ rfl (by (with_reducible repeat (first | refine kN ?_ _ | refine kD ?_ | refine kA ?_ _)); refine kP (cs := #[.int .i64 a0_0, .slice none 0 0]) ?_ 1 _ rfl; (with_reducible repeat (first | refine kN ?_ _ | refine kD ?_ | refine kA ?_ _)); refine kP (cs := #[.int .i64 0, .slice none 0 0]) ?_ 0 _ rfl; (with_reducible repeat (first | refine kN ?_ _ | refine kD ?_ | refine kA ?_ _)); exact BK1114.out) Try.underlying24 rfl (by kernel_rfl)) rfl ?_
  exact ⟨_, by first | rfl | (simp [errW_none, errW_some] <;> rfl) | (simp [*, errW_none, errW_some] <;> rfl), by (with_reducible repeat (first | apply Kd.R_alloc | apply Kd.R_drewN | apply Kd.R_drew)); exact Kd.R_mono (Kd.R_far (p := ⟨gb1114, 1, none⟩) (Kd.R_far (p := ⟨gb1114, 0, none⟩) (Kd.R_types HO1117.out BK1114.out (by decide)) (fun _ hk => hk.2) (.int .i64 a0_0)) (fun _ hk => hk.2) (.slice Ao7 y1115.length co7)) (fun _ hk => trivial), by repeat (first | (with_reducible first | exact HB.out | apply below_alloc | apply bN | apply bD | refine bS ?_ GE1113.out | refine bS ?_ GE1114.out) | exact HB.out)⟩
 ·rw [if_neg c2] at H
  exact absurd H (by simp)
def ql14ints.f (l0 : List Int) : Option (List Int) := if ([] : List Int).length + l0.length < 17592186044416 then (some (([] : List Int) ++ l0)) else (none)
set_option maxHeartbeats 8000000 in
set_option maxRecDepth 100000 in
theorem ql14ints.calls (A0 : Option Addr) (c0 : Nat) (l0 : List Int) (r : List Int) (w : World) (hr0 : Kd.C (Kd.int .i64) w A0 l0.length l0) (hc0 : l0.length ≤ c0) (h : ql14ints.f l0 = some r) :
  Calls Try.prog 68 #[.slice A0 l0.length c0] w fun e w' => ∃ v0_ : Value, e = .returned (v0_) ∧ Kd.R (Kd.int .i64) 3 w' w.heap.size (fun _ => True) v0_ r ∧ Below w.heap.size w w' := by
 have HR0 := Z0.mk hr0
 have HC0 := Z0.mk hc0
 clear hr0 hc0
 have HB := Z0.mk (Below.refl w.heap.size w)
 have H : (if ([] : List Int).length + l0.length < 17592186044416 then (some (([] : List Int) ++ l0)) else (none)) = some r := h
 clear h
 by_cases c2 : ([] : List Int).length + l0.length < 17592186044416
 ·rw [if_pos c2] at H
  have LMc2 := Z0.mk c2
  clear c2
  obtain ⟨y1118, hy1118⟩ : ∃ y_ : List Int, y_ = (([] : List Int) ++ l0) := ⟨_, rfl⟩
  replace H : (some y1118) = some r := by first | (rw [hy1118]; with_reducible exact H) | (have H2_ := (Option.bind_some _ _).symm.trans H; rw [hy1118]; with_reducible exact H2_) | (have H2_ := (Option.bind_some _ _).symm.trans H; with_reducible exact H2_) | with_reducible exact H | (rw [hy1118]; exact H) | exact H
  have Ny1118 := Z0.mk hy1118
  clear hy1118
  obtain rfl := Option.some.inj H
  go_enter Try.func68, Try.ntmps68
  go_wp2_with (first | ((with_reducible refine gate_builtin (b := .append) (xs := #[.const (.slice none 0 0), .tmp 3]) rfl ?_); at_builtin; refine Kd.R_append_rows (Kd.int .i64) (w0 := w) w.heap.size rfl (.const (.slice none 0 0)) (.tmp 3) 25 3 (.int .i64 0) 8 rfl Try.underlying25 info3 rfl (by decide) (by omega) (.slice none 0 0) ([] : List Int) l0 _ _ _ (fun _ => True) (fun _ => False) rfl rfl ?aO ?aR (fun _ _ h => h) (fun _ h => h.elim) ?aF ?aB ?aS ?aL ?_; (case aR => repeat (first | exact HR0.out | (with_reducible refine Kd.C_alloc ?_ _) | (with_reducible refine Kd.C_drewN ?_ _) | (with_reducible refine Kd.C_drew ?_))); (case aB => exact (by repeat (first | (with_reducible first | exact HB.out | apply below_alloc | apply bN | apply bD) | exact HB.out))); (case aF => exact (fun _ _ => trivial)); (case aO => exact ((Kd.R_nil _ _ _ _ (fun _ => True)))); (case aS => exact (bZ (by repeat (first | (with_reducible first | exact HB.out | apply below_alloc | apply bN | apply bD) | exact HB.out)))); (case aL => have := LMc2.out; omega); intro v1119 w3 ho hb hg hat; rw [← Ny1118.out] at ho; have n0_ := Z0.mk (hb); have n1_ := Z0.mk (ho); clear HB; have HB := n0_; have HO1120 := n1_; clear n0_ n1_; clear ho hb hg hat))
  go_ret
  exact ⟨_, by first | rfl | (simp [errW_none, errW_some] <;> rfl) | (simp [*, errW_none, errW_some] <;> rfl), by (with_reducible repeat (first | apply Kd.R_alloc | apply Kd.R_drewN | apply Kd.R_drew)); exact HO1120.out, by repeat (first | (with_reducible first | exact HB.out | apply below_alloc | apply bN | apply bD) | exact HB.out)⟩
 ·rw [if_neg c2] at H
  exact absurd H (by simp)
mutual
def qr14Check.j0 : Nat → Bool → Int → List (S37) → Option (Int)
 | 0, _, _, _ => none
 | k + 1, x12, x233000, x233001 => if x12 = true then (some 1) else (if (x233001.length : Int) > 10 then (some 5) else (qr14Check.l0 k 0 x233000 x233001))
def qr14Check.l0 : Nat → Int → Int → List (S37) → Option (Int)
 | 0, _, _, _ => none
 | k + 1, x3, x233000, x233001 => if x3 < (x233001.length : Int) then (if 0 ≤ x3 then (if ((rd_T37 x233001 x3).f0) < 0 then (some 1) else (if ((rd_T37 x233001 x3).f0) ≥ x233000 then (some 1) else (if ((rd_T37 x233001 x3).f1) < 0 then (some 1) else (if ((rd_T37 x233001 x3).f1) ≥ x233000 then (some 1) else (if ((rd_T37 x233001 x3).f0) = ((rd_T37 x233001 x3).f1) then (some 1) else (if ((rd_T37 x233001 x3).f2) < 1 then (some 1) else (if ((rd_T37 x233001 x3).f2) > 1000 then (some 1) else (if ((rd_T37 x233001 x3).f3) < 0 then (some 1) else (if ((rd_T37 x233001 x3).f3) > 1000000 then (some 1) else (qr14Check.l0 k (wrap64 (x3 + 1)) x233000 x233001)))))))))) else (none)) else (some 0)
end
def qr14Check.f (k : Nat) (a0_0 : Int) (l0_1 : List (S37)) : Option (Int) := if a0_0 < 1 then (qr14Check.j0 k true a0_0 l0_1) else (qr14Check.j0 k (decide (a0_0 > 6)) a0_0 l0_1)
set_option maxHeartbeats 8000000 in
set_option maxRecDepth 100000 in
theorem qr14Check.calls (k : Nat) (a0_0 : Int) (A0_1 : Option Addr) (c0_1 : Nat) (l0_1 : List (S37)) (r : Int) (w : World) (hr0_1 : Kd.C k37 w A0_1 l0_1.length l0_1) (hc0_1 : l0_1.length ≤ c0_1) (h : qr14Check.f k a0_0 l0_1 = some r) :
  Calls Try.prog 70 #[.agg #[.int .i64 a0_0, .slice A0_1 l0_1.length c0_1]] w fun e w' => e = .returned (.int .i64 r) ∧ Below w.heap.size w w' := by
 have hu24 := Try.underlying24
 have hu37 := Try.underlying37
 have HR0_1 := Z0.mk hr0_1
 have HC0_1 := Z0.mk hc0_1
 clear hr0_1 hc0_1
 have HB := Z0.mk (Below.refl w.heap.size w)
 have H : (if a0_0 < 1 then (qr14Check.j0 k true a0_0 l0_1) else (qr14Check.j0 k (decide (a0_0 > 6)) a0_0 l0_1)) = some r := h
 clear h
 have HC2 := Z0.mk H
 clear H
 go_enter Try.func70, Try.ntmps70
 go_upto_region 1 with (first | ((with_reducible refine gate_dst (N := 1) rfl ?_); refine bE ?hg (N := 1) ?hd (cs := #[.int .i64 a0_0, .slice A0_1 l0_1.length c0_1]) (t := 24) ?hr ?_; (case hd => rfl); (case hg => rfl); (case hr => first | (go_simp; done) | (go_simp; rfl)); intro gb232 hg w3 hbox hb; have n0_ := Z0.mk (bT (by repeat (first | (with_reducible first | exact HB.out | apply below_alloc | apply bN | apply bD) | exact HB.out)) hb); have n1_ := Z0.mk (hbox); have n2_ := Z0.mk ((by rw [hg]; exact (bZ (by repeat (first | (with_reducible first | exact HB.out | apply below_alloc | apply bN | apply bD) | exact HB.out))) : w.heap.size ≤ gb232)); have n3_ := Z0.mk ((by rw [hg]; exact (bZ (by repeat (first | (with_reducible first | exact HB.out | apply below_alloc | apply bN | apply bD) | exact HB.out))) : w.heap.size ≤ gb232)); clear HB; have HB := n0_; have BK232 := n1_; have GW232 := n2_; have GE232 := n3_; clear n0_ n1_ n2_ n3_; clear hb hbox hg))
 (try simp only [Act.put, List.setIfInBounds_toArray, List.set_cons_zero, List.set_cons_succ])
 go_cut [12] (fun v12 wc => ∃ (kq : Nat) (x12_1 : Bool), v12 = .bool x12_1 ∧ Z0 (qr14Check.j0 kq x12_1 a0_0 l0_1 = some r) ∧ Z0 (kq ≤ k) ∧ Z0 (wc.heap[gb232]? = some (.cells #[.int .i64 a0_0, (.slice A0_1 l0_1.length c0_1)] 24 (0, 0))) ∧ Z0 (Below w.heap.size w wc))
 case first =>
  have H := HC2.out
  clear HC2
  by_cases c4 : a0_0 < 1
  ·rw [if_pos c4] at H
   have c4b0 : decide (a0_0 < 1) = true := decide_eq_true c4
   clear c4
   (first | rw [c4b0] | (simp only [i64_w, i32_w]; rw [c4b0]) | skip)
   have H' := Z0.mk H
   clear H
   have hcz5_0 : w3.cell? ⟨gb232, 0, none⟩ = some (.int .i64 a0_0) := (kC BK232.out 0).trans rfl
   have hcz5_1 : w3.cell? ⟨gb232, 1, none⟩ = some (.slice A0_1 l0_1.length c0_1) := (kC BK232.out 1).trans rfl
   have hfz5_0 := kF BK232.out 0
   have hfz5_1 := kF BK232.out 1
   go_wp2
   go_meet
   case rel => exact ⟨_, (true), (by first | rfl | (simp; done) | (simp [*]; done)), H', ⟨by first | omega | exact Nat.le_refl _⟩, ⟨by (with_reducible repeat (first | refine kN ?_ _ | refine kD ?_ | refine kA ?_ _)); exact BK232.out⟩, ⟨by repeat (first | (with_reducible first | exact HB.out | apply below_alloc | apply bN | apply bD | refine bS ?_ GE232.out) | exact HB.out)⟩⟩
  ·rw [if_neg c4] at H
   have c4b0 : decide (a0_0 < 1) = false := decide_eq_false c4
   clear c4
   (first | rw [c4b0] | (simp only [i64_w, i32_w]; rw [c4b0]) | skip)
   have H' := Z0.mk H
   clear H
   have hcz6_0 : w3.cell? ⟨gb232, 0, none⟩ = some (.int .i64 a0_0) := (kC BK232.out 0).trans rfl
   have hcz6_1 : w3.cell? ⟨gb232, 1, none⟩ = some (.slice A0_1 l0_1.length c0_1) := (kC BK232.out 1).trans rfl
   have hfz6_0 := kF BK232.out 0
   have hfz6_1 := kF BK232.out 1
   go_wp2
   go_meet
   case rel => exact ⟨_, (decide (a0_0 > 6)), (by first | rfl | (simp; done) | (simp [*]; done)), H', ⟨by first | omega | exact Nat.le_refl _⟩, ⟨by (with_reducible repeat (first | refine kN ?_ _ | refine kD ?_ | refine kA ?_ _)); exact BK232.out⟩, ⟨by repeat (first | (with_reducible first | exact HB.out | apply below_alloc | apply bN | apply bD | refine bS ?_ GE232.out) | exact HB.out)⟩⟩
 case rest =>
  clear HC2; (try clear p2); (try clear c4); (try clear c4b0); (try clear hcz5_0); (try clear hcz5_1); (try clear hcz6_0); (try clear hcz6_1); (try clear hfz5_0); (try clear hfz5_1); (try clear hfz6_0); (try clear hfz6_1)
  obtain ⟨kq, x12_1, rfl, HA, HJ1, BK232, HB⟩ := hcut
  cases kq with
  | zero => exact absurd HA.out (by simp [qr14Check.j0])
  | succ kj1 =>
   have H := HA.out
   clear HA
   simp only [qr14Check.j0] at H
   by_cases c7 : x12_1 = true
   ·subst c7
    have H1 : (some 1) = some r := by rw [if_pos rfl] at H; exact H
    clear H
    have H := H1
    clear H1
    obtain rfl := Option.some.inj H
    go_wp2
    go_ret
    exact ⟨by first | rfl | (simp [errW_none, errW_some] <;> rfl) | (simp [*, errW_none, errW_some] <;> rfl), by repeat (first | (with_reducible first | exact HB.out | apply below_alloc | apply bN | apply bD | refine bS ?_ GE232.out) | exact HB.out)⟩
   ·replace c7 := Bool.eq_false_iff.mpr c7
    subst c7
    have H1 : (if (l0_1.length : Int) > 10 then (some 5) else (qr14Check.l0 kj1 0 a0_0 l0_1)) = some r := by rw [if_neg (show ¬ (false = true) by decide)] at H; exact H
    clear H
    have H := H1
    clear H1
    by_cases c8 : (l0_1.length : Int) > 10
    ·rw [if_pos c8] at H
     have c8b0 : decide (10 < (l0_1.length : Int)) = true := decide_eq_true c8
     have c8b1 : decide (10 < l0_1.length) = true := decide_eq_true (by omega)
     clear c8
     obtain rfl := Option.some.inj H
     have hcz9_0 : wc.cell? ⟨gb232, 0, none⟩ = some (.int .i64 a0_0) := (kC BK232.out 0).trans rfl
     have hcz9_1 : wc.cell? ⟨gb232, 1, none⟩ = some (.slice A0_1 l0_1.length c0_1) := (kC BK232.out 1).trans rfl
     have hfz9_0 := kF BK232.out 0
     have hfz9_1 := kF BK232.out 1
     go_wp2
     go_ret
     exact ⟨by first | rfl | (simp [errW_none, errW_some] <;> rfl) | (simp [*, errW_none, errW_some] <;> rfl), by repeat (first | (with_reducible first | exact HB.out | apply below_alloc | apply bN | apply bD | refine bS ?_ GE232.out) | exact HB.out)⟩
    ·rw [if_neg c8] at H
     have c8b0 : decide (10 < (l0_1.length : Int)) = false := decide_eq_false c8
     have c8b1 : decide (10 < l0_1.length) = false := decide_eq_false (by omega)
     clear c8
     have H' := Z0.mk H
     clear H
     have hcz10_0 : wc.cell? ⟨gb232, 0, none⟩ = some (.int .i64 a0_0) := (kC BK232.out 0).trans rfl
     have hcz10_1 : wc.cell? ⟨gb232, 1, none⟩ = some (.slice A0_1 l0_1.length c0_1) := (kC BK232.out 1).trans rfl
     have hfz10_0 := kF BK232.out 0
     have hfz10_1 := kF BK232.out 1
     go_wp2
     go_loopg [3] kj1 (fun kq v3 w' => ∃ (x3_2 : Int), v3 = .int .i64 x3_2 ∧ Z0 (qr14Check.l0 kq x3_2 a0_0 l0_1 = some r) ∧ Z0 (kq ≤ kj1) ∧ Z0 (w'.heap[gb232]? = some (.cells #[.int .i64 a0_0, (.slice A0_1 l0_1.length c0_1)] 24 (0, 0))) ∧ Z0 (Below w.heap.size w w'))
     case atStart => exact ⟨(0), (by first | rfl | (simp; done) | (simp [*]; done)), H', ⟨Nat.le_refl _⟩, ⟨by (with_reducible repeat (first | refine kN ?_ _ | refine kD ?_ | refine kA ?_ _)); exact BK232.out⟩, ⟨by repeat (first | (with_reducible first | exact HB.out | apply below_alloc | apply bN | apply bD | refine bS ?_ GE232.out) | exact HB.out)⟩⟩
     case round =>
      clear H'; (try clear p2); (try clear c4); (try clear c4b0); (try clear c7); (try clear c8); (try clear c8b0); (try clear c8b1); (try clear hcz10_0); (try clear hcz10_1); (try clear hcz5_0); (try clear hcz5_1); (try clear hcz6_0); (try clear hcz6_1); (try clear hcz9_0); (try clear hcz9_1); (try clear hfz10_0); (try clear hfz10_1); (try clear hfz5_0); (try clear hfz5_1); (try clear hfz6_0); (try clear hfz6_1); (try clear hfz9_0); (try clear hfz9_1); (try clear p2)
      obtain ⟨x3_2, rfl, HA, HK2, BK232, HB⟩ := hrel
      cases gk with
      | zero => exact absurd HA.out (by simp [qr14Check.l0])
      | succ k2 =>
       have H := HA.out
       clear HA
       simp only [qr14Check.l0] at H
       by_cases c11 : x3_2 < (l0_1.length : Int)
       ·rw [if_pos c11] at H
        have c11b0 : decide (x3_2 < (l0_1.length : Int)) = true := decide_eq_true c11
        clear c11
        by_cases c12 : 0 ≤ x3_2
        ·rw [if_pos c12] at H
         have c12b0 : decide (0 ≤ x3_2) = true := decide_eq_true c12
         clear c12
         by_cases c13 : ((rd_T37 l0_1 x3_2).f0) < 0
         ·rw [if_pos c13] at H
          have c13b0 : decide (((rd_T37 l0_1 x3_2).f0) < 0) = true := decide_eq_true c13
          clear c13
          obtain rfl := Option.some.inj H
          have hcz14_0 : wr.cell? ⟨gb232, 0, none⟩ = some (.int .i64 a0_0) := (kC BK232.out 0).trans rfl
          have hcz14_1 : wr.cell? ⟨gb232, 1, none⟩ = some (.slice A0_1 l0_1.length c0_1) := (kC BK232.out 1).trans rfl
          have hfz14_0 := kF BK232.out 0
          have hfz14_1 := kF BK232.out 1
          have p233 : 0 ≤ (x3_2 : Int) := of_decide_eq_true (by first | (with_reducible assumption) | assumption)
          have q233 : x3_2 < (l0_1.length : Int) := of_decide_eq_true (by first | (with_reducible assumption) | assumption)
          obtain ⟨ad233, e233, hx233_0, hx233_1, hx233_2, hx233_3⟩ := at_T37 HR0_1.out x3_2 p233 q233
          cases e233
          replace hx233_0 := (HB.out.cell (World.block_lt_of_cell? w _ hx233_0)).trans hx233_0
          replace hx233_1 := (HB.out.cell (World.block_lt_of_cell? w _ hx233_1)).trans hx233_1
          replace hx233_2 := (HB.out.cell (World.block_lt_of_cell? w _ hx233_2)).trans hx233_2
          replace hx233_3 := (HB.out.cell (World.block_lt_of_cell? w _ hx233_3)).trans hx233_3
          replace p233 := eq_true p233
          replace q233 := eq_true q233
          go_wp2_with (first | ((with_reducible refine gate_dst (N := 4) rfl ?_); refine bE ?hg (N := 4) ?hd (cs := #[.int .i64 0, .int .i64 0, .int .i64 0, .int .i64 0]) (t := 37) ?hr ?_; (case hd => rfl); (case hg => rfl); (case hr => first | (go_simp; done) | (go_simp; rfl)); intro gb234 hg w15 hbox hb; have n0_ := Z0.mk (kB (g := gb232) (o := .cells #[.int .i64 a0_0, .slice (some ad233) l0_1.length c0_1] 24 (0, 0)) (by (with_reducible repeat (first | refine kN ?_ _ | refine kD ?_ | refine kA ?_ _)); exact BK232.out) hb); have n1_ := Z0.mk (bT (by repeat (first | (with_reducible first | exact HB.out | apply below_alloc | apply bN | apply bD | refine bS ?_ GE232.out) | exact HB.out)) hb); have n2_ := Z0.mk (hbox); have n3_ := Z0.mk ((by rw [hg]; exact (bZ (by repeat (first | (with_reducible first | exact HB.out | apply below_alloc | apply bN | apply bD | refine bS ?_ GE232.out) | exact HB.out))) : w.heap.size ≤ gb234)); have n4_ := Z0.mk ((by rw [hg]; exact (bZ (by repeat (first | (with_reducible first | exact HB.out | apply below_alloc | apply bN | apply bD | refine bS ?_ GE232.out) | exact HB.out))) : w.heap.size ≤ gb234)); have n5_ := Z0.mk ((by rw [hg]; exact Nat.ne_of_lt (blk_lt (g := gb232) (o := .cells #[.int .i64 a0_0, .slice (some ad233) l0_1.length c0_1] 24 (0, 0)) (by (with_reducible repeat (first | refine kN ?_ _ | refine kD ?_ | refine kA ?_ _)); exact BK232.out)) : gb232 ≠ gb234)); have n6_ := Z0.mk ((by rw [hg]; exact Nat.ne_of_gt (blk_lt (g := gb232) (o := .cells #[.int .i64 a0_0, .slice (some ad233) l0_1.length c0_1] 24 (0, 0)) (by (with_reducible repeat (first | refine kN ?_ _ | refine kD ?_ | refine kA ?_ _)); exact BK232.out)) : gb234 ≠ gb232)); clear BK232; clear HB; have BK232 := n0_; have HB := n1_; have BK234 := n2_; have GW234 := n3_; have GE234 := n4_; have NB232_234 := n5_; have NB234_232 := n6_; clear n0_ n1_ n2_ n3_ n4_ n5_ n6_; clear hb hbox hg; have hnb16 := NB234_232.out; have hnc16 := NB232_234.out; have hcz17_0 : w15.cell? ⟨gb234, 0, none⟩ = some (.int .i64 0) := (kC BK234.out 0).trans rfl; have hcz17_1 : w15.cell? ⟨gb234, 1, none⟩ = some (.int .i64 0) := (kC BK234.out 1).trans rfl; have hcz17_2 : w15.cell? ⟨gb234, 2, none⟩ = some (.int .i64 0) := (kC BK234.out 2).trans rfl; have hcz17_3 : w15.cell? ⟨gb234, 3, none⟩ = some (.int .i64 0) := (kC BK234.out 3).trans rfl; have hfz17_0 := kF BK234.out 0; have hfz17_1 := kF BK234.out 1; have hfz17_2 := kF BK234.out 2; have hfz17_3 := kF BK234.out 3))
          go_ret
          exact ⟨by first | rfl | (simp [errW_none, errW_some] <;> rfl) | (simp [*, errW_none, errW_some] <;> rfl), by repeat (first | (with_reducible first | exact HB.out | apply below_alloc | apply bN | apply bD | refine bS ?_ GE232.out | refine bS ?_ GE234.out) | exact HB.out)⟩
         ·rw [if_neg c13] at H
          have c13b0 : decide (((rd_T37 l0_1 x3_2).f0) < 0) = false := decide_eq_false c13
          clear c13
          by_cases c18 : ((rd_T37 l0_1 x3_2).f0) ≥ a0_0
          ·rw [if_pos c18] at H
           have c18b0 : decide (a0_0 ≤ ((rd_T37 l0_1 x3_2).f0)) = true := decide_eq_true c18
           clear c18
           obtain rfl := Option.some.inj H
           have hcz19_0 : wr.cell? ⟨gb232, 0, none⟩ = some (.int .i64 a0_0) := (kC BK232.out 0).trans rfl
           have hcz19_1 : wr.cell? ⟨gb232, 1, none⟩ = some (.slice A0_1 l0_1.length c0_1) := (kC BK232.out 1).trans rfl
           have hfz19_0 := kF BK232.out 0
           have hfz19_1 := kF BK232.out 1
           have p233 : 0 ≤ (x3_2 : Int) := of_decide_eq_true (by first | (with_reducible assumption) | assumption)
           have q233 : x3_2 < (l0_1.length : Int) := of_decide_eq_true (by first | (with_reducible assumption) | assumption)
           obtain ⟨ad233, e233, hx233_0, hx233_1, hx233_2, hx233_3⟩ := at_T37 HR0_1.out x3_2 p233 q233
           cases e233
           replace hx233_0 := (HB.out.cell (World.block_lt_of_cell? w _ hx233_0)).trans hx233_0
           replace hx233_1 := (HB.out.cell (World.block_lt_of_cell? w _ hx233_1)).trans hx233_1
           replace hx233_2 := (HB.out.cell (World.block_lt_of_cell? w _ hx233_2)).trans hx233_2
           replace hx233_3 := (HB.out.cell (World.block_lt_of_cell? w _ hx233_3)).trans hx233_3
           replace p233 := eq_true p233
           replace q233 := eq_true q233
           go_wp2_with (first | ((with_reducible refine gate_dst (N := 4) rfl ?_); refine bE ?hg (N := 4) ?hd (cs := #[.int .i64 0, .int .i64 0, .int .i64 0, .int .i64 0]) (t := 37) ?hr ?_; (case hd => rfl); (case hg => rfl); (case hr => first | (go_simp; done) | (go_simp; rfl)); intro gb234 hg w20 hbox hb; have n0_ := Z0.mk (kB (g := gb232) (o := .cells #[.int .i64 a0_0, .slice (some ad233) l0_1.length c0_1] 24 (0, 0)) (by (with_reducible repeat (first | refine kN ?_ _ | refine kD ?_ | refine kA ?_ _)); exact BK232.out) hb); have n1_ := Z0.mk (bT (by repeat (first | (with_reducible first | exact HB.out | apply below_alloc | apply bN | apply bD | refine bS ?_ GE232.out) | exact HB.out)) hb); have n2_ := Z0.mk (hbox); have n3_ := Z0.mk ((by rw [hg]; exact (bZ (by repeat (first | (with_reducible first | exact HB.out | apply below_alloc | apply bN | apply bD | refine bS ?_ GE232.out) | exact HB.out))) : w.heap.size ≤ gb234)); have n4_ := Z0.mk ((by rw [hg]; exact (bZ (by repeat (first | (with_reducible first | exact HB.out | apply below_alloc | apply bN | apply bD | refine bS ?_ GE232.out) | exact HB.out))) : w.heap.size ≤ gb234)); have n5_ := Z0.mk ((by rw [hg]; exact Nat.ne_of_lt (blk_lt (g := gb232) (o := .cells #[.int .i64 a0_0, .slice (some ad233) l0_1.length c0_1] 24 (0, 0)) (by (with_reducible repeat (first | refine kN ?_ _ | refine kD ?_ | refine kA ?_ _)); exact BK232.out)) : gb232 ≠ gb234)); have n6_ := Z0.mk ((by rw [hg]; exact Nat.ne_of_gt (blk_lt (g := gb232) (o := .cells #[.int .i64 a0_0, .slice (some ad233) l0_1.length c0_1] 24 (0, 0)) (by (with_reducible repeat (first | refine kN ?_ _ | refine kD ?_ | refine kA ?_ _)); exact BK232.out)) : gb234 ≠ gb232)); clear BK232; clear HB; have BK232 := n0_; have HB := n1_; have BK234 := n2_; have GW234 := n3_; have GE234 := n4_; have NB232_234 := n5_; have NB234_232 := n6_; clear n0_ n1_ n2_ n3_ n4_ n5_ n6_; clear hb hbox hg; have hnb21 := NB234_232.out; have hnc21 := NB232_234.out; have hcz22_0 : w20.cell? ⟨gb234, 0, none⟩ = some (.int .i64 0) := (kC BK234.out 0).trans rfl; have hcz22_1 : w20.cell? ⟨gb234, 1, none⟩ = some (.int .i64 0) := (kC BK234.out 1).trans rfl; have hcz22_2 : w20.cell? ⟨gb234, 2, none⟩ = some (.int .i64 0) := (kC BK234.out 2).trans rfl; have hcz22_3 : w20.cell? ⟨gb234, 3, none⟩ = some (.int .i64 0) := (kC BK234.out 3).trans rfl; have hfz22_0 := kF BK234.out 0; have hfz22_1 := kF BK234.out 1; have hfz22_2 := kF BK234.out 2; have hfz22_3 := kF BK234.out 3; have hcz23_0 : w20.cell? ⟨gb232, 0, none⟩ = some (.int .i64 a0_0) := (kC BK232.out 0).trans rfl; have hcz23_1 : w20.cell? ⟨gb232, 1, none⟩ = some (.slice (some ad233) l0_1.length c0_1) := (kC BK232.out 1).trans rfl; have hfz23_0 := kF BK232.out 0; have hfz23_1 := kF BK232.out 1))
           go_ret
           exact ⟨by first | rfl | (simp [errW_none, errW_some] <;> rfl) | (simp [*, errW_none, errW_some] <;> rfl), by repeat (first | (with_reducible first | exact HB.out | apply below_alloc | apply bN | apply bD | refine bS ?_ GE232.out | refine bS ?_ GE234.out) | exact HB.out)⟩
          ·rw [if_neg c18] at H
           have c18b0 : decide (a0_0 ≤ ((rd_T37 l0_1 x3_2).f0)) = false := decide_eq_false c18
           clear c18
           by_cases c24 : ((rd_T37 l0_1 x3_2).f1) < 0
           ·rw [if_pos c24] at H
            have c24b0 : decide (((rd_T37 l0_1 x3_2).f1) < 0) = true := decide_eq_true c24
            clear c24
            obtain rfl := Option.some.inj H
            have hcz25_0 : wr.cell? ⟨gb232, 0, none⟩ = some (.int .i64 a0_0) := (kC BK232.out 0).trans rfl
            have hcz25_1 : wr.cell? ⟨gb232, 1, none⟩ = some (.slice A0_1 l0_1.length c0_1) := (kC BK232.out 1).trans rfl
            have hfz25_0 := kF BK232.out 0
            have hfz25_1 := kF BK232.out 1
            have p233 : 0 ≤ (x3_2 : Int) := of_decide_eq_true (by first | (with_reducible assumption) | assumption)
            have q233 : x3_2 < (l0_1.length : Int) := of_decide_eq_true (by first | (with_reducible assumption) | assumption)
            obtain ⟨ad233, e233, hx233_0, hx233_1, hx233_2, hx233_3⟩ := at_T37 HR0_1.out x3_2 p233 q233
            cases e233
            replace hx233_0 := (HB.out.cell (World.block_lt_of_cell? w _ hx233_0)).trans hx233_0
            replace hx233_1 := (HB.out.cell (World.block_lt_of_cell? w _ hx233_1)).trans hx233_1
            replace hx233_2 := (HB.out.cell (World.block_lt_of_cell? w _ hx233_2)).trans hx233_2
            replace hx233_3 := (HB.out.cell (World.block_lt_of_cell? w _ hx233_3)).trans hx233_3
            replace p233 := eq_true p233
            replace q233 := eq_true q233
            go_wp2_with (first | ((with_reducible refine gate_dst (N := 4) rfl ?_); refine bE ?hg (N := 4) ?hd (cs := #[.int .i64 0, .int .i64 0, .int .i64 0, .int .i64 0]) (t := 37) ?hr ?_; (case hd => rfl); (case hg => rfl); (case hr => first | (go_simp; done) | (go_simp; rfl)); intro gb234 hg w26 hbox hb; have n0_ := Z0.mk (kB (g := gb232) (o := .cells #[.int .i64 a0_0, .slice (some ad233) l0_1.length c0_1] 24 (0, 0)) (by (with_reducible repeat (first | refine kN ?_ _ | refine kD ?_ | refine kA ?_ _)); exact BK232.out) hb); have n1_ := Z0.mk (bT (by repeat (first | (with_reducible first | exact HB.out | apply below_alloc | apply bN | apply bD | refine bS ?_ GE232.out) | exact HB.out)) hb); have n2_ := Z0.mk (hbox); have n3_ := Z0.mk ((by rw [hg]; exact (bZ (by repeat (first | (with_reducible first | exact HB.out | apply below_alloc | apply bN | apply bD | refine bS ?_ GE232.out) | exact HB.out))) : w.heap.size ≤ gb234)); have n4_ := Z0.mk ((by rw [hg]; exact (bZ (by repeat (first | (with_reducible first | exact HB.out | apply below_alloc | apply bN | apply bD | refine bS ?_ GE232.out) | exact HB.out))) : w.heap.size ≤ gb234)); have n5_ := Z0.mk ((by rw [hg]; exact Nat.ne_of_lt (blk_lt (g := gb232) (o := .cells #[.int .i64 a0_0, .slice (some ad233) l0_1.length c0_1] 24 (0, 0)) (by (with_reducible repeat (first | refine kN ?_ _ | refine kD ?_ | refine kA ?_ _)); exact BK232.out)) : gb232 ≠ gb234)); have n6_ := Z0.mk ((by rw [hg]; exact Nat.ne_of_gt (blk_lt (g := gb232) (o := .cells #[.int .i64 a0_0, .slice (some ad233) l0_1.length c0_1] 24 (0, 0)) (by (with_reducible repeat (first | refine kN ?_ _ | refine kD ?_ | refine kA ?_ _)); exact BK232.out)) : gb234 ≠ gb232)); clear BK232; clear HB; have BK232 := n0_; have HB := n1_; have BK234 := n2_; have GW234 := n3_; have GE234 := n4_; have NB232_234 := n5_; have NB234_232 := n6_; clear n0_ n1_ n2_ n3_ n4_ n5_ n6_; clear hb hbox hg; have hnb27 := NB234_232.out; have hnc27 := NB232_234.out; have hcz28_0 : w26.cell? ⟨gb234, 0, none⟩ = some (.int .i64 0) := (kC BK234.out 0).trans rfl; have hcz28_1 : w26.cell? ⟨gb234, 1, none⟩ = some (.int .i64 0) := (kC BK234.out 1).trans rfl; have hcz28_2 : w26.cell? ⟨gb234, 2, none⟩ = some (.int .i64 0) := (kC BK234.out 2).trans rfl; have hcz28_3 : w26.cell? ⟨gb234, 3, none⟩ = some (.int .i64 0) := (kC BK234.out 3).trans rfl; have hfz28_0 := kF BK234.out 0; have hfz28_1 := kF BK234.out 1; have hfz28_2 := kF BK234.out 2; have hfz28_3 := kF BK234.out 3; have hcz29_0 : w26.cell? ⟨gb232, 0, none⟩ = some (.int .i64 a0_0) := (kC BK232.out 0).trans rfl; have hcz29_1 : w26.cell? ⟨gb232, 1, none⟩ = some (.slice (some ad233) l0_1.length c0_1) := (kC BK232.out 1).trans rfl; have hfz29_0 := kF BK232.out 0; have hfz29_1 := kF BK232.out 1))
            go_ret
            exact ⟨by first | rfl | (simp [errW_none, errW_some] <;> rfl) | (simp [*, errW_none, errW_some] <;> rfl), by repeat (first | (with_reducible first | exact HB.out | apply below_alloc | apply bN | apply bD | refine bS ?_ GE232.out | refine bS ?_ GE234.out) | exact HB.out)⟩
           ·rw [if_neg c24] at H
            have c24b0 : decide (((rd_T37 l0_1 x3_2).f1) < 0) = false := decide_eq_false c24
            clear c24
            by_cases c30 : ((rd_T37 l0_1 x3_2).f1) ≥ a0_0
            ·rw [if_pos c30] at H
             have c30b0 : decide (a0_0 ≤ ((rd_T37 l0_1 x3_2).f1)) = true := decide_eq_true c30
             clear c30
             obtain rfl := Option.some.inj H
             have hcz31_0 : wr.cell? ⟨gb232, 0, none⟩ = some (.int .i64 a0_0) := (kC BK232.out 0).trans rfl
             have hcz31_1 : wr.cell? ⟨gb232, 1, none⟩ = some (.slice A0_1 l0_1.length c0_1) := (kC BK232.out 1).trans rfl
             have hfz31_0 := kF BK232.out 0
             have hfz31_1 := kF BK232.out 1
             have p233 : 0 ≤ (x3_2 : Int) := of_decide_eq_true (by first | (with_reducible assumption) | assumption)
             have q233 : x3_2 < (l0_1.length : Int) := of_decide_eq_true (by first | (with_reducible assumption) | assumption)
             obtain ⟨ad233, e233, hx233_0, hx233_1, hx233_2, hx233_3⟩ := at_T37 HR0_1.out x3_2 p233 q233
             cases e233
             replace hx233_0 := (HB.out.cell (World.block_lt_of_cell? w _ hx233_0)).trans hx233_0
             replace hx233_1 := (HB.out.cell (World.block_lt_of_cell? w _ hx233_1)).trans hx233_1
             replace hx233_2 := (HB.out.cell (World.block_lt_of_cell? w _ hx233_2)).trans hx233_2
             replace hx233_3 := (HB.out.cell (World.block_lt_of_cell? w _ hx233_3)).trans hx233_3
             replace p233 := eq_true p233
             replace q233 := eq_true q233
             go_wp2_with (first | ((with_reducible refine gate_dst (N := 4) rfl ?_); refine bE ?hg (N := 4) ?hd (cs := #[.int .i64 0, .int .i64 0, .int .i64 0, .int .i64 0]) (t := 37) ?hr ?_; (case hd => rfl); (case hg => rfl); (case hr => first | (go_simp; done) | (go_simp; rfl)); intro gb234 hg w32 hbox hb; have n0_ := Z0.mk (kB (g := gb232) (o := .cells #[.int .i64 a0_0, .slice (some ad233) l0_1.length c0_1] 24 (0, 0)) (by (with_reducible repeat (first | refine kN ?_ _ | refine kD ?_ | refine kA ?_ _)); exact BK232.out) hb); have n1_ := Z0.mk (bT (by repeat (first | (with_reducible first | exact HB.out | apply below_alloc | apply bN | apply bD | refine bS ?_ GE232.out) | exact HB.out)) hb); have n2_ := Z0.mk (hbox); have n3_ := Z0.mk ((by rw [hg]; exact (bZ (by repeat (first | (with_reducible first | exact HB.out | apply below_alloc | apply bN | apply bD | refine bS ?_ GE232.out) | exact HB.out))) : w.heap.size ≤ gb234)); have n4_ := Z0.mk ((by rw [hg]; exact (bZ (by repeat (first | (with_reducible first | exact HB.out | apply below_alloc | apply bN | apply bD | refine bS ?_ GE232.out) | exact HB.out))) : w.heap.size ≤ gb234)); have n5_ := Z0.mk ((by rw [hg]; exact Nat.ne_of_lt (blk_lt (g := gb232) (o := .cells #[.int .i64 a0_0, .slice (some ad233) l0_1.length c0_1] 24 (0, 0)) (by (with_reducible repeat (first | refine kN ?_ _ | refine kD ?_ | refine kA ?_ _)); exact BK232.out)) : gb232 ≠ gb234)); have n6_ := Z0.mk ((by rw [hg]; exact Nat.ne_of_gt (blk_lt (g := gb232) (o := .cells #[.int .i64 a0_0, .slice (some ad233) l0_1.length c0_1] 24 (0, 0)) (by (with_reducible repeat (first | refine kN ?_ _ | refine kD ?_ | refine kA ?_ _)); exact BK232.out)) : gb234 ≠ gb232)); clear BK232; clear HB; have BK232 := n0_; have HB := n1_; have BK234 := n2_; have GW234 := n3_; have GE234 := n4_; have NB232_234 := n5_; have NB234_232 := n6_; clear n0_ n1_ n2_ n3_ n4_ n5_ n6_; clear hb hbox hg; have hnb33 := NB234_232.out; have hnc33 := NB232_234.out; have hcz34_0 : w32.cell? ⟨gb234, 0, none⟩ = some (.int .i64 0) := (kC BK234.out 0).trans rfl; have hcz34_1 : w32.cell? ⟨gb234, 1, none⟩ = some (.int .i64 0) := (kC BK234.out 1).trans rfl; have hcz34_2 : w32.cell? ⟨gb234, 2, none⟩ = some (.int .i64 0) := (kC BK234.out 2).trans rfl; have hcz34_3 : w32.cell? ⟨gb234, 3, none⟩ = some (.int .i64 0) := (kC BK234.out 3).trans rfl; have hfz34_0 := kF BK234.out 0; have hfz34_1 := kF BK234.out 1; have hfz34_2 := kF BK234.out 2; have hfz34_3 := kF BK234.out 3; have hcz35_0 : w32.cell? ⟨gb232, 0, none⟩ = some (.int .i64 a0_0) := (kC BK232.out 0).trans rfl; have hcz35_1 : w32.cell? ⟨gb232, 1, none⟩ = some (.slice (some ad233) l0_1.length c0_1) := (kC BK232.out 1).trans rfl; have hfz35_0 := kF BK232.out 0; have hfz35_1 := kF BK232.out 1))
             go_ret
             exact ⟨by first | rfl | (simp [errW_none, errW_some] <;> rfl) | (simp [*, errW_none, errW_some] <;> rfl), by repeat (first | (with_reducible first | exact HB.out | apply below_alloc | apply bN | apply bD | refine bS ?_ GE232.out | refine bS ?_ GE234.out) | exact HB.out)⟩
            ·rw [if_neg c30] at H
             have c30b0 : decide (a0_0 ≤ ((rd_T37 l0_1 x3_2).f1)) = false := decide_eq_false c30
             clear c30
             by_cases c36 : ((rd_T37 l0_1 x3_2).f0) = ((rd_T37 l0_1 x3_2).f1)
             ·rw [if_pos c36] at H
              have c36b0 : (((rd_T37 l0_1 x3_2).f0) == ((rd_T37 l0_1 x3_2).f1)) = true := beq_iff_eq.mpr c36
              have c36b1 : (((rd_T37 l0_1 x3_2).f0) != ((rd_T37 l0_1 x3_2).f1)) = false := bne_eq_false_iff_eq.mpr c36
              clear c36
              obtain rfl := Option.some.inj H
              have hcz37_0 : wr.cell? ⟨gb232, 0, none⟩ = some (.int .i64 a0_0) := (kC BK232.out 0).trans rfl
              have hcz37_1 : wr.cell? ⟨gb232, 1, none⟩ = some (.slice A0_1 l0_1.length c0_1) := (kC BK232.out 1).trans rfl
              have hfz37_0 := kF BK232.out 0
              have hfz37_1 := kF BK232.out 1
              have p233 : 0 ≤ (x3_2 : Int) := of_decide_eq_true (by first | (with_reducible assumption) | assumption)
              have q233 : x3_2 < (l0_1.length : Int) := of_decide_eq_true (by first | (with_reducible assumption) | assumption)
              obtain ⟨ad233, e233, hx233_0, hx233_1, hx233_2, hx233_3⟩ := at_T37 HR0_1.out x3_2 p233 q233
              cases e233
              replace hx233_0 := (HB.out.cell (World.block_lt_of_cell? w _ hx233_0)).trans hx233_0
              replace hx233_1 := (HB.out.cell (World.block_lt_of_cell? w _ hx233_1)).trans hx233_1
              replace hx233_2 := (HB.out.cell (World.block_lt_of_cell? w _ hx233_2)).trans hx233_2
              replace hx233_3 := (HB.out.cell (World.block_lt_of_cell? w _ hx233_3)).trans hx233_3
              replace p233 := eq_true p233
              replace q233 := eq_true q233
              go_wp2_with (first | ((with_reducible refine gate_dst (N := 4) rfl ?_); refine bE ?hg (N := 4) ?hd (cs := #[.int .i64 0, .int .i64 0, .int .i64 0, .int .i64 0]) (t := 37) ?hr ?_; (case hd => rfl); (case hg => rfl); (case hr => first | (go_simp; done) | (go_simp; rfl)); intro gb234 hg w38 hbox hb; have n0_ := Z0.mk (kB (g := gb232) (o := .cells #[.int .i64 a0_0, .slice (some ad233) l0_1.length c0_1] 24 (0, 0)) (by (with_reducible repeat (first | refine kN ?_ _ | refine kD ?_ | refine kA ?_ _)); exact BK232.out) hb); have n1_ := Z0.mk (bT (by repeat (first | (with_reducible first | exact HB.out | apply below_alloc | apply bN | apply bD | refine bS ?_ GE232.out) | exact HB.out)) hb); have n2_ := Z0.mk (hbox); have n3_ := Z0.mk ((by rw [hg]; exact (bZ (by repeat (first | (with_reducible first | exact HB.out | apply below_alloc | apply bN | apply bD | refine bS ?_ GE232.out) | exact HB.out))) : w.heap.size ≤ gb234)); have n4_ := Z0.mk ((by rw [hg]; exact (bZ (by repeat (first | (with_reducible first | exact HB.out | apply below_alloc | apply bN | apply bD | refine bS ?_ GE232.out) | exact HB.out))) : w.heap.size ≤ gb234)); have n5_ := Z0.mk ((by rw [hg]; exact Nat.ne_of_lt (blk_lt (g := gb232) (o := .cells #[.int .i64 a0_0, .slice (some ad233) l0_1.length c0_1] 24 (0, 0)) (by (with_reducible repeat (first | refine kN ?_ _ | refine kD ?_ | refine kA ?_ _)); exact BK232.out)) : gb232 ≠ gb234)); have n6_ := Z0.mk ((by rw [hg]; exact Nat.ne_of_gt (blk_lt (g := gb232) (o := .cells #[.int .i64 a0_0, .slice (some ad233) l0_1.length c0_1] 24 (0, 0)) (by (with_reducible repeat (first | refine kN ?_ _ | refine kD ?_ | refine kA ?_ _)); exact BK232.out)) : gb234 ≠ gb232)); clear BK232; clear HB; have BK232 := n0_; have HB := n1_; have BK234 := n2_; have GW234 := n3_; have GE234 := n4_; have NB232_234 := n5_; have NB234_232 := n6_; clear n0_ n1_ n2_ n3_ n4_ n5_ n6_; clear hb hbox hg; have hnb39 := NB234_232.out; have hnc39 := NB232_234.out; have hcz40_0 : w38.cell? ⟨gb234, 0, none⟩ = some (.int .i64 0) := (kC BK234.out 0).trans rfl; have hcz40_1 : w38.cell? ⟨gb234, 1, none⟩ = some (.int .i64 0) := (kC BK234.out 1).trans rfl; have hcz40_2 : w38.cell? ⟨gb234, 2, none⟩ = some (.int .i64 0) := (kC BK234.out 2).trans rfl; have hcz40_3 : w38.cell? ⟨gb234, 3, none⟩ = some (.int .i64 0) := (kC BK234.out 3).trans rfl; have hfz40_0 := kF BK234.out 0; have hfz40_1 := kF BK234.out 1; have hfz40_2 := kF BK234.out 2; have hfz40_3 := kF BK234.out 3; have hcz41_0 : w38.cell? ⟨gb232, 0, none⟩ = some (.int .i64 a0_0) := (kC BK232.out 0).trans rfl; have hcz41_1 : w38.cell? ⟨gb232, 1, none⟩ = some (.slice (some ad233) l0_1.length c0_1) := (kC BK232.out 1).trans rfl; have hfz41_0 := kF BK232.out 0; have hfz41_1 := kF BK232.out 1))
              go_ret
              exact ⟨by first | rfl | (simp [errW_none, errW_some] <;> rfl) | (simp [*, errW_none, errW_some] <;> rfl), by repeat (first | (with_reducible first | exact HB.out | apply below_alloc | apply bN | apply bD | refine bS ?_ GE232.out | refine bS ?_ GE234.out) | exact HB.out)⟩
             ·rw [if_neg c36] at H
              have c36b0 : (((rd_T37 l0_1 x3_2).f0) == ((rd_T37 l0_1 x3_2).f1)) = false := beq_eq_false_iff_ne.mpr c36
              have c36b1 : (((rd_T37 l0_1 x3_2).f0) != ((rd_T37 l0_1 x3_2).f1)) = true := bne_iff_ne.mpr c36
              by_cases c42 : ((rd_T37 l0_1 x3_2).f2) < 1
              ·rw [if_pos c42] at H
               have c42b0 : decide (((rd_T37 l0_1 x3_2).f2) < 1) = true := decide_eq_true c42
               clear c42
               obtain rfl := Option.some.inj H
               have hcz43_0 : wr.cell? ⟨gb232, 0, none⟩ = some (.int .i64 a0_0) := (kC BK232.out 0).trans rfl
               have hcz43_1 : wr.cell? ⟨gb232, 1, none⟩ = some (.slice A0_1 l0_1.length c0_1) := (kC BK232.out 1).trans rfl
               have hfz43_0 := kF BK232.out 0
               have hfz43_1 := kF BK232.out 1
               have p233 : 0 ≤ (x3_2 : Int) := of_decide_eq_true (by first | (with_reducible assumption) | assumption)
               have q233 : x3_2 < (l0_1.length : Int) := of_decide_eq_true (by first | (with_reducible assumption) | assumption)
               obtain ⟨ad233, e233, hx233_0, hx233_1, hx233_2, hx233_3⟩ := at_T37 HR0_1.out x3_2 p233 q233
               cases e233
               replace hx233_0 := (HB.out.cell (World.block_lt_of_cell? w _ hx233_0)).trans hx233_0
               replace hx233_1 := (HB.out.cell (World.block_lt_of_cell? w _ hx233_1)).trans hx233_1
               replace hx233_2 := (HB.out.cell (World.block_lt_of_cell? w _ hx233_2)).trans hx233_2
               replace hx233_3 := (HB.out.cell (World.block_lt_of_cell? w _ hx233_3)).trans hx233_3
               replace p233 := eq_true p233
               replace q233 := eq_true q233
               go_wp2_with (first | ((with_reducible refine gate_dst (N := 4) rfl ?_); refine bE ?hg (N := 4) ?hd (cs := #[.int .i64 0, .int .i64 0, .int .i64 0, .int .i64 0]) (t := 37) ?hr ?_; (case hd => rfl); (case hg => rfl); (case hr => first | (go_simp; done) | (go_simp; rfl)); intro gb234 hg w44 hbox hb; have n0_ := Z0.mk (kB (g := gb232) (o := .cells #[.int .i64 a0_0, .slice (some ad233) l0_1.length c0_1] 24 (0, 0)) (by (with_reducible repeat (first | refine kN ?_ _ | refine kD ?_ | refine kA ?_ _)); exact BK232.out) hb); have n1_ := Z0.mk (bT (by repeat (first | (with_reducible first | exact HB.out | apply below_alloc | apply bN | apply bD | refine bS ?_ GE232.out) | exact HB.out)) hb); have n2_ := Z0.mk (hbox); have n3_ := Z0.mk ((by rw [hg]; exact (bZ (by repeat (first | (with_reducible first | exact HB.out | apply below_alloc | apply bN | apply bD | refine bS ?_ GE232.out) | exact HB.out))) : w.heap.size ≤ gb234)); have n4_ := Z0.mk ((by rw [hg]; exact (bZ (by repeat (first | (with_reducible first | exact HB.out | apply below_alloc | apply bN | apply bD | refine bS ?_ GE232.out) | exact HB.out))) : w.heap.size ≤ gb234)); have n5_ := Z0.mk ((by rw [hg]; exact Nat.ne_of_lt (blk_lt (g := gb232) (o := .cells #[.int .i64 a0_0, .slice (some ad233) l0_1.length c0_1] 24 (0, 0)) (by (with_reducible repeat (first | refine kN ?_ _ | refine kD ?_ | refine kA ?_ _)); exact BK232.out)) : gb232 ≠ gb234)); have n6_ := Z0.mk ((by rw [hg]; exact Nat.ne_of_gt (blk_lt (g := gb232) (o := .cells #[.int .i64 a0_0, .slice (some ad233) l0_1.length c0_1] 24 (0, 0)) (by (with_reducible repeat (first | refine kN ?_ _ | refine kD ?_ | refine kA ?_ _)); exact BK232.out)) : gb234 ≠ gb232)); clear BK232; clear HB; have BK232 := n0_; have HB := n1_; have BK234 := n2_; have GW234 := n3_; have GE234 := n4_; have NB232_234 := n5_; have NB234_232 := n6_; clear n0_ n1_ n2_ n3_ n4_ n5_ n6_; clear hb hbox hg; have hnb45 := NB234_232.out; have hnc45 := NB232_234.out; have hcz46_0 : w44.cell? ⟨gb234, 0, none⟩ = some (.int .i64 0) := (kC BK234.out 0).trans rfl; have hcz46_1 : w44.cell? ⟨gb234, 1, none⟩ = some (.int .i64 0) := (kC BK234.out 1).trans rfl; have hcz46_2 : w44.cell? ⟨gb234, 2, none⟩ = some (.int .i64 0) := (kC BK234.out 2).trans rfl; have hcz46_3 : w44.cell? ⟨gb234, 3, none⟩ = some (.int .i64 0) := (kC BK234.out 3).trans rfl; have hfz46_0 := kF BK234.out 0; have hfz46_1 := kF BK234.out 1; have hfz46_2 := kF BK234.out 2; have hfz46_3 := kF BK234.out 3; have hcz47_0 : w44.cell? ⟨gb232, 0, none⟩ = some (.int .i64 a0_0) := (kC BK232.out 0).trans rfl; have hcz47_1 : w44.cell? ⟨gb232, 1, none⟩ = some (.slice (some ad233) l0_1.length c0_1) := (kC BK232.out 1).trans rfl; have hfz47_0 := kF BK232.out 0; have hfz47_1 := kF BK232.out 1))
               go_ret
               exact ⟨by first | rfl | (simp [errW_none, errW_some] <;> rfl) | (simp [*, errW_none, errW_some] <;> rfl), by repeat (first | (with_reducible first | exact HB.out | apply below_alloc | apply bN | apply bD | refine bS ?_ GE232.out | refine bS ?_ GE234.out) | exact HB.out)⟩
              ·rw [if_neg c42] at H
               have c42b0 : decide (((rd_T37 l0_1 x3_2).f2) < 1) = false := decide_eq_false c42
               clear c42
               by_cases c48 : ((rd_T37 l0_1 x3_2).f2) > 1000
               ·rw [if_pos c48] at H
                have c48b0 : decide (1000 < ((rd_T37 l0_1 x3_2).f2)) = true := decide_eq_true c48
                clear c48
                obtain rfl := Option.some.inj H
                have hcz49_0 : wr.cell? ⟨gb232, 0, none⟩ = some (.int .i64 a0_0) := (kC BK232.out 0).trans rfl
                have hcz49_1 : wr.cell? ⟨gb232, 1, none⟩ = some (.slice A0_1 l0_1.length c0_1) := (kC BK232.out 1).trans rfl
                have hfz49_0 := kF BK232.out 0
                have hfz49_1 := kF BK232.out 1
                have p233 : 0 ≤ (x3_2 : Int) := of_decide_eq_true (by first | (with_reducible assumption) | assumption)
                have q233 : x3_2 < (l0_1.length : Int) := of_decide_eq_true (by first | (with_reducible assumption) | assumption)
                obtain ⟨ad233, e233, hx233_0, hx233_1, hx233_2, hx233_3⟩ := at_T37 HR0_1.out x3_2 p233 q233
                cases e233
                replace hx233_0 := (HB.out.cell (World.block_lt_of_cell? w _ hx233_0)).trans hx233_0
                replace hx233_1 := (HB.out.cell (World.block_lt_of_cell? w _ hx233_1)).trans hx233_1
                replace hx233_2 := (HB.out.cell (World.block_lt_of_cell? w _ hx233_2)).trans hx233_2
                replace hx233_3 := (HB.out.cell (World.block_lt_of_cell? w _ hx233_3)).trans hx233_3
                replace p233 := eq_true p233
                replace q233 := eq_true q233
                go_wp2_with (first | ((with_reducible refine gate_dst (N := 4) rfl ?_); refine bE ?hg (N := 4) ?hd (cs := #[.int .i64 0, .int .i64 0, .int .i64 0, .int .i64 0]) (t := 37) ?hr ?_; (case hd => rfl); (case hg => rfl); (case hr => first | (go_simp; done) | (go_simp; rfl)); intro gb234 hg w50 hbox hb; have n0_ := Z0.mk (kB (g := gb232) (o := .cells #[.int .i64 a0_0, .slice (some ad233) l0_1.length c0_1] 24 (0, 0)) (by (with_reducible repeat (first | refine kN ?_ _ | refine kD ?_ | refine kA ?_ _)); exact BK232.out) hb); have n1_ := Z0.mk (bT (by repeat (first | (with_reducible first | exact HB.out | apply below_alloc | apply bN | apply bD | refine bS ?_ GE232.out) | exact HB.out)) hb); have n2_ := Z0.mk (hbox); have n3_ := Z0.mk ((by rw [hg]; exact (bZ (by repeat (first | (with_reducible first | exact HB.out | apply below_alloc | apply bN | apply bD | refine bS ?_ GE232.out) | exact HB.out))) : w.heap.size ≤ gb234)); have n4_ := Z0.mk ((by rw [hg]; exact (bZ (by repeat (first | (with_reducible first | exact HB.out | apply below_alloc | apply bN | apply bD | refine bS ?_ GE232.out) | exact HB.out))) : w.heap.size ≤ gb234)); have n5_ := Z0.mk ((by rw [hg]; exact Nat.ne_of_lt (blk_lt (g := gb232) (o := .cells #[.int .i64 a0_0, .slice (some ad233) l0_1.length c0_1] 24 (0, 0)) (by (with_reducible repeat (first | refine kN ?_ _ | refine kD ?_ | refine kA ?_ _)); exact BK232.out)) : gb232 ≠ gb234)); have n6_ := Z0.mk ((by rw [hg]; exact Nat.ne_of_gt (blk_lt (g := gb232) (o := .cells #[.int .i64 a0_0, .slice (some ad233) l0_1.length c0_1] 24 (0, 0)) (by (with_reducible repeat (first | refine kN ?_ _ | refine kD ?_ | refine kA ?_ _)); exact BK232.out)) : gb234 ≠ gb232)); clear BK232; clear HB; have BK232 := n0_; have HB := n1_; have BK234 := n2_; have GW234 := n3_; have GE234 := n4_; have NB232_234 := n5_; have NB234_232 := n6_; clear n0_ n1_ n2_ n3_ n4_ n5_ n6_; clear hb hbox hg; have hnb51 := NB234_232.out; have hnc51 := NB232_234.out; have hcz52_0 : w50.cell? ⟨gb234, 0, none⟩ = some (.int .i64 0) := (kC BK234.out 0).trans rfl; have hcz52_1 : w50.cell? ⟨gb234, 1, none⟩ = some (.int .i64 0) := (kC BK234.out 1).trans rfl; have hcz52_2 : w50.cell? ⟨gb234, 2, none⟩ = some (.int .i64 0) := (kC BK234.out 2).trans rfl; have hcz52_3 : w50.cell? ⟨gb234, 3, none⟩ = some (.int .i64 0) := (kC BK234.out 3).trans rfl; have hfz52_0 := kF BK234.out 0; have hfz52_1 := kF BK234.out 1; have hfz52_2 := kF BK234.out 2; have hfz52_3 := kF BK234.out 3; have hcz53_0 : w50.cell? ⟨gb232, 0, none⟩ = some (.int .i64 a0_0) := (kC BK232.out 0).trans rfl; have hcz53_1 : w50.cell? ⟨gb232, 1, none⟩ = some (.slice (some ad233) l0_1.length c0_1) := (kC BK232.out 1).trans rfl; have hfz53_0 := kF BK232.out 0; have hfz53_1 := kF BK232.out 1))
                go_ret
                exact ⟨by first | rfl | (simp [errW_none, errW_some] <;> rfl) | (simp [*, errW_none, errW_some] <;> rfl), by repeat (first | (with_reducible first | exact HB.out | apply below_alloc | apply bN | apply bD | refine bS ?_ GE232.out | refine bS ?_ GE234.out) | exact HB.out)⟩
               ·rw [if_neg c48] at H
                have c48b0 : decide (1000 < ((rd_T37 l0_1 x3_2).f2)) = false := decide_eq_false c48
                clear c48
                by_cases c54 : ((rd_T37 l0_1 x3_2).f3) < 0
                ·rw [if_pos c54] at H
                 have c54b0 : decide (((rd_T37 l0_1 x3_2).f3) < 0) = true := decide_eq_true c54
                 clear c54
                 obtain rfl := Option.some.inj H
                 have hcz55_0 : wr.cell? ⟨gb232, 0, none⟩ = some (.int .i64 a0_0) := (kC BK232.out 0).trans rfl
                 have hcz55_1 : wr.cell? ⟨gb232, 1, none⟩ = some (.slice A0_1 l0_1.length c0_1) := (kC BK232.out 1).trans rfl
                 have hfz55_0 := kF BK232.out 0
                 have hfz55_1 := kF BK232.out 1
                 have p233 : 0 ≤ (x3_2 : Int) := of_decide_eq_true (by first | (with_reducible assumption) | assumption)
                 have q233 : x3_2 < (l0_1.length : Int) := of_decide_eq_true (by first | (with_reducible assumption) | assumption)
                 obtain ⟨ad233, e233, hx233_0, hx233_1, hx233_2, hx233_3⟩ := at_T37 HR0_1.out x3_2 p233 q233
                 cases e233
                 replace hx233_0 := (HB.out.cell (World.block_lt_of_cell? w _ hx233_0)).trans hx233_0
                 replace hx233_1 := (HB.out.cell (World.block_lt_of_cell? w _ hx233_1)).trans hx233_1
                 replace hx233_2 := (HB.out.cell (World.block_lt_of_cell? w _ hx233_2)).trans hx233_2
                 replace hx233_3 := (HB.out.cell (World.block_lt_of_cell? w _ hx233_3)).trans hx233_3
                 replace p233 := eq_true p233
                 replace q233 := eq_true q233
                 go_wp2_with (first | ((with_reducible refine gate_dst (N := 4) rfl ?_); refine bE ?hg (N := 4) ?hd (cs := #[.int .i64 0, .int .i64 0, .int .i64 0, .int .i64 0]) (t := 37) ?hr ?_; (case hd => rfl); (case hg => rfl); (case hr => first | (go_simp; done) | (go_simp; rfl)); intro gb234 hg w56 hbox hb; have n0_ := Z0.mk (kB (g := gb232) (o := .cells #[.int .i64 a0_0, .slice (some ad233) l0_1.length c0_1] 24 (0, 0)) (by (with_reducible repeat (first | refine kN ?_ _ | refine kD ?_ | refine kA ?_ _)); exact BK232.out) hb); have n1_ := Z0.mk (bT (by repeat (first | (with_reducible first | exact HB.out | apply below_alloc | apply bN | apply bD | refine bS ?_ GE232.out) | exact HB.out)) hb); have n2_ := Z0.mk (hbox); have n3_ := Z0.mk ((by rw [hg]; exact (bZ (by repeat (first | (with_reducible first | exact HB.out | apply below_alloc | apply bN | apply bD | refine bS ?_ GE232.out) | exact HB.out))) : w.heap.size ≤ gb234)); have n4_ := Z0.mk ((by rw [hg]; exact (bZ (by repeat (first | (with_reducible first | exact HB.out | apply below_alloc | apply bN | apply bD | refine bS ?_ GE232.out) | exact HB.out))) : w.heap.size ≤ gb234)); have n5_ := Z0.mk ((by rw [hg]; exact Nat.ne_of_lt (blk_lt (g := gb232) (o := .cells #[.int .i64 a0_0, .slice (some ad233) l0_1.length c0_1] 24 (0, 0)) (by (with_reducible repeat (first | refine kN ?_ _ | refine kD ?_ | refine kA ?_ _)); exact BK232.out)) : gb232 ≠ gb234)); have n6_ := Z0.mk ((by rw [hg]; exact Nat.ne_of_gt (blk_lt (g := gb232) (o := .cells #[.int .i64 a0_0, .slice (some ad233) l0_1.length c0_1] 24 (0, 0)) (by (with_reducible repeat (first | refine kN ?_ _ | refine kD ?_ | refine kA ?_ _)); exact BK232.out)) : gb234 ≠ gb232)); clear BK232; clear HB; have BK232 := n0_; have HB := n1_; have BK234 := n2_; have GW234 := n3_; have GE234 := n4_; have NB232_234 := n5_; have NB234_232 := n6_; clear n0_ n1_ n2_ n3_ n4_ n5_ n6_; clear hb hbox hg; have hnb57 := NB234_232.out; have hnc57 := NB232_234.out; have hcz58_0 : w56.cell? ⟨gb234, 0, none⟩ = some (.int .i64 0) := (kC BK234.out 0).trans rfl; have hcz58_1 : w56.cell? ⟨gb234, 1, none⟩ = some (.int .i64 0) := (kC BK234.out 1).trans rfl; have hcz58_2 : w56.cell? ⟨gb234, 2, none⟩ = some (.int .i64 0) := (kC BK234.out 2).trans rfl; have hcz58_3 : w56.cell? ⟨gb234, 3, none⟩ = some (.int .i64 0) := (kC BK234.out 3).trans rfl; have hfz58_0 := kF BK234.out 0; have hfz58_1 := kF BK234.out 1; have hfz58_2 := kF BK234.out 2; have hfz58_3 := kF BK234.out 3; have hcz59_0 : w56.cell? ⟨gb232, 0, none⟩ = some (.int .i64 a0_0) := (kC BK232.out 0).trans rfl; have hcz59_1 : w56.cell? ⟨gb232, 1, none⟩ = some (.slice (some ad233) l0_1.length c0_1) := (kC BK232.out 1).trans rfl; have hfz59_0 := kF BK232.out 0; have hfz59_1 := kF BK232.out 1))
                 go_ret
                 exact ⟨by first | rfl | (simp [errW_none, errW_some] <;> rfl) | (simp [*, errW_none, errW_some] <;> rfl), by repeat (first | (with_reducible first | exact HB.out | apply below_alloc | apply bN | apply bD | refine bS ?_ GE232.out | refine bS ?_ GE234.out) | exact HB.out)⟩
                ·rw [if_neg c54] at H
                 have c54b0 : decide (((rd_T37 l0_1 x3_2).f3) < 0) = false := decide_eq_false c54
                 clear c54
                 by_cases c60 : ((rd_T37 l0_1 x3_2).f3) > 1000000
                 ·rw [if_pos c60] at H
                  have c60b0 : decide (1000000 < ((rd_T37 l0_1 x3_2).f3)) = true := decide_eq_true c60
                  clear c60
                  obtain rfl := Option.some.inj H
                  have hcz61_0 : wr.cell? ⟨gb232, 0, none⟩ = some (.int .i64 a0_0) := (kC BK232.out 0).trans rfl
                  have hcz61_1 : wr.cell? ⟨gb232, 1, none⟩ = some (.slice A0_1 l0_1.length c0_1) := (kC BK232.out 1).trans rfl
                  have hfz61_0 := kF BK232.out 0
                  have hfz61_1 := kF BK232.out 1
                  have p233 : 0 ≤ (x3_2 : Int) := of_decide_eq_true (by first | (with_reducible assumption) | assumption)
                  have q233 : x3_2 < (l0_1.length : Int) := of_decide_eq_true (by first | (with_reducible assumption) | assumption)
                  obtain ⟨ad233, e233, hx233_0, hx233_1, hx233_2, hx233_3⟩ := at_T37 HR0_1.out x3_2 p233 q233
                  cases e233
                  replace hx233_0 := (HB.out.cell (World.block_lt_of_cell? w _ hx233_0)).trans hx233_0
                  replace hx233_1 := (HB.out.cell (World.block_lt_of_cell? w _ hx233_1)).trans hx233_1
                  replace hx233_2 := (HB.out.cell (World.block_lt_of_cell? w _ hx233_2)).trans hx233_2
                  replace hx233_3 := (HB.out.cell (World.block_lt_of_cell? w _ hx233_3)).trans hx233_3
                  replace p233 := eq_true p233
                  replace q233 := eq_true q233
                  go_wp2_with (first | ((with_reducible refine gate_dst (N := 4) rfl ?_); refine bE ?hg (N := 4) ?hd (cs := #[.int .i64 0, .int .i64 0, .int .i64 0, .int .i64 0]) (t := 37) ?hr ?_; (case hd => rfl); (case hg => rfl); (case hr => first | (go_simp; done) | (go_simp; rfl)); intro gb234 hg w62 hbox hb; have n0_ := Z0.mk (kB (g := gb232) (o := .cells #[.int .i64 a0_0, .slice (some ad233) l0_1.length c0_1] 24 (0, 0)) (by (with_reducible repeat (first | refine kN ?_ _ | refine kD ?_ | refine kA ?_ _)); exact BK232.out) hb); have n1_ := Z0.mk (bT (by repeat (first | (with_reducible first | exact HB.out | apply below_alloc | apply bN | apply bD | refine bS ?_ GE232.out) | exact HB.out)) hb); have n2_ := Z0.mk (hbox); have n3_ := Z0.mk ((by rw [hg]; exact (bZ (by repeat (first | (with_reducible first | exact HB.out | apply below_alloc | apply bN | apply bD | refine bS ?_ GE232.out) | exact HB.out))) : w.heap.size ≤ gb234)); have n4_ := Z0.mk ((by rw [hg]; exact (bZ (by repeat (first | (with_reducible first | exact HB.out | apply below_alloc | apply bN | apply bD | refine bS ?_ GE232.out) | exact HB.out))) : w.heap.size ≤ gb234)); have n5_ := Z0.mk ((by rw [hg]; exact Nat.ne_of_lt (blk_lt (g := gb232) (o := .cells #[.int .i64 a0_0, .slice (some ad233) l0_1.length c0_1] 24 (0, 0)) (by (with_reducible repeat (first | refine kN ?_ _ | refine kD ?_ | refine kA ?_ _)); exact BK232.out)) : gb232 ≠ gb234)); have n6_ := Z0.mk ((by rw [hg]; exact Nat.ne_of_gt (blk_lt (g := gb232) (o := .cells #[.int .i64 a0_0, .slice (some ad233) l0_1.length c0_1] 24 (0, 0)) (by (with_reducible repeat (first | refine kN ?_ _ | refine kD ?_ | refine kA ?_ _)); exact BK232.out)) : gb234 ≠ gb232)); clear BK232; clear HB; have BK232 := n0_; have HB := n1_; have BK234 := n2_; have GW234 := n3_; have GE234 := n4_; have NB232_234 := n5_; have NB234_232 := n6_; clear n0_ n1_ n2_ n3_ n4_ n5_ n6_; clear hb hbox hg; have hnb63 := NB234_232.out; have hnc63 := NB232_234.out; have hcz64_0 : w62.cell? ⟨gb234, 0, none⟩ = some (.int .i64 0) := (kC BK234.out 0).trans rfl; have hcz64_1 : w62.cell? ⟨gb234, 1, none⟩ = some (.int .i64 0) := (kC BK234.out 1).trans rfl; have hcz64_2 : w62.cell? ⟨gb234, 2, none⟩ = some (.int .i64 0) := (kC BK234.out 2).trans rfl; have hcz64_3 : w62.cell? ⟨gb234, 3, none⟩ = some (.int .i64 0) := (kC BK234.out 3).trans rfl; have hfz64_0 := kF BK234.out 0; have hfz64_1 := kF BK234.out 1; have hfz64_2 := kF BK234.out 2; have hfz64_3 := kF BK234.out 3; have hcz65_0 : w62.cell? ⟨gb232, 0, none⟩ = some (.int .i64 a0_0) := (kC BK232.out 0).trans rfl; have hcz65_1 : w62.cell? ⟨gb232, 1, none⟩ = some (.slice (some ad233) l0_1.length c0_1) := (kC BK232.out 1).trans rfl; have hfz65_0 := kF BK232.out 0; have hfz65_1 := kF BK232.out 1))
                  go_ret
                  exact ⟨by first | rfl | (simp [errW_none, errW_some] <;> rfl) | (simp [*, errW_none, errW_some] <;> rfl), by repeat (first | (with_reducible first | exact HB.out | apply below_alloc | apply bN | apply bD | refine bS ?_ GE232.out | refine bS ?_ GE234.out) | exact HB.out)⟩
                 ·rw [if_neg c60] at H
                  have c60b0 : decide (1000000 < ((rd_T37 l0_1 x3_2).f3)) = false := decide_eq_false c60
                  clear c60
                  have H' := Z0.mk H
                  clear H
                  have hcz66_0 : wr.cell? ⟨gb232, 0, none⟩ = some (.int .i64 a0_0) := (kC BK232.out 0).trans rfl
                  have hcz66_1 : wr.cell? ⟨gb232, 1, none⟩ = some (.slice A0_1 l0_1.length c0_1) := (kC BK232.out 1).trans rfl
                  have hfz66_0 := kF BK232.out 0
                  have hfz66_1 := kF BK232.out 1
                  have p233 : 0 ≤ (x3_2 : Int) := of_decide_eq_true (by first | (with_reducible assumption) | assumption)
                  have q233 : x3_2 < (l0_1.length : Int) := of_decide_eq_true (by first | (with_reducible assumption) | assumption)
                  obtain ⟨ad233, e233, hx233_0, hx233_1, hx233_2, hx233_3⟩ := at_T37 HR0_1.out x3_2 p233 q233
                  cases e233
                  replace hx233_0 := (HB.out.cell (World.block_lt_of_cell? w _ hx233_0)).trans hx233_0
                  replace hx233_1 := (HB.out.cell (World.block_lt_of_cell? w _ hx233_1)).trans hx233_1
                  replace hx233_2 := (HB.out.cell (World.block_lt_of_cell? w _ hx233_2)).trans hx233_2
                  replace hx233_3 := (HB.out.cell (World.block_lt_of_cell? w _ hx233_3)).trans hx233_3
                  replace p233 := eq_true p233
                  replace q233 := eq_true q233
                  go_wp2_with (first | ((with_reducible refine gate_dst (N := 4) rfl ?_); refine bE ?hg (N := 4) ?hd (cs := #[.int .i64 0, .int .i64 0, .int .i64 0, .int .i64 0]) (t := 37) ?hr ?_; (case hd => rfl); (case hg => rfl); (case hr => first | (go_simp; done) | (go_simp; rfl)); intro gb234 hg w67 hbox hb; have n0_ := Z0.mk (kB (g := gb232) (o := .cells #[.int .i64 a0_0, .slice (some ad233) l0_1.length c0_1] 24 (0, 0)) (by (with_reducible repeat (first | refine kN ?_ _ | refine kD ?_ | refine kA ?_ _)); exact BK232.out) hb); have n1_ := Z0.mk (bT (by repeat (first | (with_reducible first | exact HB.out | apply below_alloc | apply bN | apply bD | refine bS ?_ GE232.out) | exact HB.out)) hb); have n2_ := Z0.mk (hbox); have n3_ := Z0.mk ((by rw [hg]; exact (bZ (by repeat (first | (with_reducible first | exact HB.out | apply below_alloc | apply bN | apply bD | refine bS ?_ GE232.out) | exact HB.out))) : w.heap.size ≤ gb234)); have n4_ := Z0.mk ((by rw [hg]; exact (bZ (by repeat (first | (with_reducible first | exact HB.out | apply below_alloc | apply bN | apply bD | refine bS ?_ GE232.out) | exact HB.out))) : w.heap.size ≤ gb234)); have n5_ := Z0.mk ((by rw [hg]; exact Nat.ne_of_lt (blk_lt (g := gb232) (o := .cells #[.int .i64 a0_0, .slice (some ad233) l0_1.length c0_1] 24 (0, 0)) (by (with_reducible repeat (first | refine kN ?_ _ | refine kD ?_ | refine kA ?_ _)); exact BK232.out)) : gb232 ≠ gb234)); have n6_ := Z0.mk ((by rw [hg]; exact Nat.ne_of_gt (blk_lt (g := gb232) (o := .cells #[.int .i64 a0_0, .slice (some ad233) l0_1.length c0_1] 24 (0, 0)) (by (with_reducible repeat (first | refine kN ?_ _ | refine kD ?_ | refine kA ?_ _)); exact BK232.out)) : gb234 ≠ gb232)); clear BK232; clear HB; have BK232 := n0_; have HB := n1_; have BK234 := n2_; have GW234 := n3_; have GE234 := n4_; have NB232_234 := n5_; have NB234_232 := n6_; clear n0_ n1_ n2_ n3_ n4_ n5_ n6_; clear hb hbox hg; have hnb68 := NB234_232.out; have hnc68 := NB232_234.out; have hcz69_0 : w67.cell? ⟨gb234, 0, none⟩ = some (.int .i64 0) := (kC BK234.out 0).trans rfl; have hcz69_1 : w67.cell? ⟨gb234, 1, none⟩ = some (.int .i64 0) := (kC BK234.out 1).trans rfl; have hcz69_2 : w67.cell? ⟨gb234, 2, none⟩ = some (.int .i64 0) := (kC BK234.out 2).trans rfl; have hcz69_3 : w67.cell? ⟨gb234, 3, none⟩ = some (.int .i64 0) := (kC BK234.out 3).trans rfl; have hfz69_0 := kF BK234.out 0; have hfz69_1 := kF BK234.out 1; have hfz69_2 := kF BK234.out 2; have hfz69_3 := kF BK234.out 3; have hcz70_0 : w67.cell? ⟨gb232, 0, none⟩ = some (.int .i64 a0_0) := (kC BK232.out 0).trans rfl; have hcz70_1 : w67.cell? ⟨gb232, 1, none⟩ = some (.slice (some ad233) l0_1.length c0_1) := (kC BK232.out 1).trans rfl; have hfz70_0 := kF BK232.out 0; have hfz70_1 := kF BK232.out 1))
                  go_roundg k2
                  case measure => have := HJ1.out; have := HK2.out; omega
                  case rel => exact ⟨(wrap64 (x3_2 + 1)), (by first | rfl | (simp; done) | (simp [*]; done)), H', ⟨by have := HJ1.out; have := HK2.out; omega⟩, ⟨by (with_reducible repeat (first | refine kN ?_ _ | refine kD ?_ | refine kA ?_ _)); refine kR ?_ NB232_234.out _; (with_reducible repeat (first | refine kN ?_ _ | refine kD ?_ | refine kA ?_ _)); refine kR ?_ NB232_234.out _; (with_reducible repeat (first | refine kN ?_ _ | refine kD ?_ | refine kA ?_ _)); refine kR ?_ NB232_234.out _; (with_reducible repeat (first | refine kN ?_ _ | refine kD ?_ | refine kA ?_ _)); refine kR ?_ NB232_234.out _; (with_reducible repeat (first | refine kN ?_ _ | refine kD ?_ | refine kA ?_ _)); exact BK232.out⟩, ⟨by repeat (first | (with_reducible first | exact HB.out | apply below_alloc | apply bN | apply bD | refine bS ?_ GE232.out | refine bS ?_ GE234.out) | exact HB.out)⟩⟩
        ·rw [if_neg c12] at H
         exact absurd H (by simp)
       ·rw [if_neg c11] at H
        have c11b0 : decide (x3_2 < (l0_1.length : Int)) = false := decide_eq_false c11
        clear c11
        obtain rfl := Option.some.inj H
        have hcz71_0 : wr.cell? ⟨gb232, 0, none⟩ = some (.int .i64 a0_0) := (kC BK232.out 0).trans rfl
        have hcz71_1 : wr.cell? ⟨gb232, 1, none⟩ = some (.slice A0_1 l0_1.length c0_1) := (kC BK232.out 1).trans rfl
        have hfz71_0 := kF BK232.out 0
        have hfz71_1 := kF BK232.out 1
        go_wp2
        go_ret
        exact ⟨by first | rfl | (simp [errW_none, errW_some] <;> rfl) | (simp [*, errW_none, errW_some] <;> rfl), by repeat (first | (with_reducible first | exact HB.out | apply below_alloc | apply bN | apply bD | refine bS ?_ GE232.out) | exact HB.out)⟩
def qr14Outs.l0 : Nat → List Int → Int → Int → List (S37) → Option (Int)
 | 0, _, _, _, _ => none
 | k + 1, x1, x6, x236000, x236001 => if x6 < (x1.length : Int) then (if 0 ≤ x6 then (if (rd x1 x6) < 0 then (some 1) else (if (rd x1 x6) ≥ (x236001.length : Int) then (some 1) else (if x6 > 0 then (if 0 ≤ (wrap64 (x6 - 1)) then (if (wrap64 (x6 - 1)) < (x1.length : Int) then (if (rd x1 x6) ≤ (rd x1 (wrap64 (x6 - 1))) then (some 1) else (qr14Outs.l0 k x1 (wrap64 (x6 + 1)) x236000 x236001)) else (none)) else (none)) else (qr14Outs.l0 k x1 (wrap64 (x6 + 1)) x236000 x236001)))) else (none)) else (some 0)
def qr14Outs.f (k : Nat) (a0_0 : Int) (l0_1 : List (S37)) (l1 : List Int) : Option (Int) := (qr14Check.f k a0_0 l0_1).bind fun t236 => (if t236 = 0 then (qr14Outs.l0 k l1 0 a0_0 l0_1) else (some t236))
set_option maxHeartbeats 8000000 in
set_option maxRecDepth 100000 in
theorem qr14Outs.calls (k : Nat) (a0_0 : Int) (A0_1 : Option Addr) (c0_1 : Nat) (l0_1 : List (S37)) (A1 : Option Addr) (c1 : Nat) (l1 : List Int) (r : Int) (w : World) (hr0_1 : Kd.C k37 w A0_1 l0_1.length l0_1) (hc0_1 : l0_1.length ≤ c0_1) (hr1 : Kd.C (Kd.int .i64) w A1 l1.length l1) (hc1 : l1.length ≤ c1) (h : qr14Outs.f k a0_0 l0_1 l1 = some r) :
  Calls Try.prog 69 #[.agg #[.int .i64 a0_0, .slice A0_1 l0_1.length c0_1], .slice A1 l1.length c1] w fun e w' => e = .returned (.int .i64 r) ∧ Below w.heap.size w w' := by
 have hu24 := Try.underlying24
 have HR0_1 := Z0.mk hr0_1
 have HC0_1 := Z0.mk hc0_1
 clear hr0_1 hc0_1
 have HR1 := Z0.mk hr1
 have HC1 := Z0.mk hc1
 clear hr1 hc1
 have HB := Z0.mk (Below.refl w.heap.size w)
 have H : ((qr14Check.f k a0_0 l0_1).bind fun t236 => (if t236 = 0 then (qr14Outs.l0 k l1 0 a0_0 l0_1) else (some t236))) = some r := h
 clear h
 replace H := Option.bind_eq_some_iff.mp H
 obtain ⟨t236, A30, H⟩ := H
 replace H : (if t236 = 0 then (qr14Outs.l0 k l1 0 a0_0 l0_1) else (some t236)) = some r := H
 have A3 := Z0.mk A30
 clear A30
 by_cases c4 : t236 = 0
 ·rw [if_pos c4] at H
  have c4b0 : (t236 == 0) = true := beq_iff_eq.mpr c4
  have c4b1 : (t236 != 0) = false := bne_eq_false_iff_eq.mpr c4
  clear c4
  have H' := Z0.mk H
  clear H
  go_enter Try.func69, Try.ntmps69
  go_wp2_with (first | ((with_reducible refine gate_dst (N := 2) rfl ?_); (try (refine gG (by rfl) ?_; dsimp only)); refine bE ?hg (N := 2) ?hd (cs := #[.int .i64 a0_0, .slice A0_1 l0_1.length c0_1]) (t := 24) ?hr ?_; (case hd => rfl); (case hg => rfl); (case hr => first | (go_simp; done) | (go_simp; rfl)); intro gb235 hg w5 hbox hb; have n0_ := Z0.mk (bT (by repeat (first | (with_reducible first | exact HB.out | apply below_alloc | apply bN | apply bD) | exact HB.out)) hb); have n1_ := Z0.mk (hbox); have n2_ := Z0.mk ((by rw [hg]; exact (bZ (by repeat (first | (with_reducible first | exact HB.out | apply below_alloc | apply bN | apply bD) | exact HB.out))) : w.heap.size ≤ gb235)); have n3_ := Z0.mk ((by rw [hg]; exact (bZ (by repeat (first | (with_reducible first | exact HB.out | apply below_alloc | apply bN | apply bD) | exact HB.out))) : w.heap.size ≤ gb235)); clear HB; have HB := n0_; have BK235 := n1_; have GW235 := n2_; have GE235 := n3_; clear n0_ n1_ n2_ n3_; clear hb hbox hg; have hcz6_0 : w5.cell? ⟨gb235, 0, none⟩ = some (.int .i64 a0_0) := (kC BK235.out 0).trans rfl; have hcz6_1 : w5.cell? ⟨gb235, 1, none⟩ = some (.slice A0_1 l0_1.length c0_1) := (kC BK235.out 1).trans rfl; have hfz6_0 := kF BK235.out 0; have hfz6_1 := kF BK235.out 1) | (go_at_call 70; (with_reducible refine (qr14Check.calls k a0_0 _ _ l0_1 t236 _ ?side1 ?side2 A3.out).mono ?_); (case side1 => repeat (first | exact (Kd.C_below HR0_1.out HB.out) | (with_reducible refine Kd.C_alloc ?_ _) | (with_reducible refine Kd.C_drewN ?_ _) | (with_reducible refine Kd.C_drew ?_))); (case side2 => exact HC0_1.out); rintro e w7 ⟨rfl, hb⟩; have n0_ := Z0.mk (kB (g := gb235) (o := .cells #[.int .i64 a0_0, .slice A0_1 l0_1.length c0_1] 24 (0, 0)) (by (with_reducible repeat (first | refine kN ?_ _ | refine kD ?_ | refine kA ?_ _)); exact BK235.out) hb); have n1_ := Z0.mk (bT (by repeat (first | (with_reducible first | exact HB.out | apply below_alloc | apply bN | apply bD | refine bS ?_ GE235.out) | exact HB.out)) hb); clear BK235; clear HB; have BK235 := n0_; have HB := n1_; clear n0_ n1_; (try clear hb); (try clear hb2); (try clear hk); (try clear hi)))
  repeat (go_quiet (first | ((with_reducible refine gate_dst (N := 2) rfl ?_); (try (refine gG (by rfl) ?_; dsimp only)); refine bE ?hg (N := 2) ?hd (cs := #[.int .i64 a0_0, .slice A0_1 l0_1.length c0_1]) (t := 24) ?hr ?_; (case hd => rfl); (case hg => rfl); (case hr => first | (go_simp; done) | (go_simp; rfl)); intro gb235 hg w5 hbox hb; have n0_ := Z0.mk (bT (by repeat (first | (with_reducible first | exact HB.out | apply below_alloc | apply bN | apply bD) | exact HB.out)) hb); have n1_ := Z0.mk (hbox); have n2_ := Z0.mk ((by rw [hg]; exact (bZ (by repeat (first | (with_reducible first | exact HB.out | apply below_alloc | apply bN | apply bD) | exact HB.out))) : w.heap.size ≤ gb235)); have n3_ := Z0.mk ((by rw [hg]; exact (bZ (by repeat (first | (with_reducible first | exact HB.out | apply below_alloc | apply bN | apply bD) | exact HB.out))) : w.heap.size ≤ gb235)); clear HB; have HB := n0_; have BK235 := n1_; have GW235 := n2_; have GE235 := n3_; clear n0_ n1_ n2_ n3_; clear hb hbox hg; have hcz6_0 : w5.cell? ⟨gb235, 0, none⟩ = some (.int .i64 a0_0) := (kC BK235.out 0).trans rfl; have hcz6_1 : w5.cell? ⟨gb235, 1, none⟩ = some (.slice A0_1 l0_1.length c0_1) := (kC BK235.out 1).trans rfl; have hfz6_0 := kF BK235.out 0; have hfz6_1 := kF BK235.out 1) | (go_at_call 70; (with_reducible refine (qr14Check.calls k a0_0 _ _ l0_1 t236 _ ?side1 ?side2 A3.out).mono ?_); (case side1 => repeat (first | exact (Kd.C_below HR0_1.out HB.out) | (with_reducible refine Kd.C_alloc ?_ _) | (with_reducible refine Kd.C_drewN ?_ _) | (with_reducible refine Kd.C_drew ?_))); (case side2 => exact HC0_1.out); rintro e w7 ⟨rfl, hb⟩; have n0_ := Z0.mk (kB (g := gb235) (o := .cells #[.int .i64 a0_0, .slice A0_1 l0_1.length c0_1] 24 (0, 0)) (by (with_reducible repeat (first | refine kN ?_ _ | refine kD ?_ | refine kA ?_ _)); exact BK235.out) hb); have n1_ := Z0.mk (bT (by repeat (first | (with_reducible first | exact HB.out | apply below_alloc | apply bN | apply bD | refine bS ?_ GE235.out) | exact HB.out)) hb); clear BK235; clear HB; have BK235 := n0_; have HB := n1_; clear n0_ n1_; (try clear hb); (try clear hb2); (try clear hk); (try clear hi))); try go_wp2_with (first | ((with_reducible refine gate_dst (N := 2) rfl ?_); (try (refine gG (by rfl) ?_; dsimp only)); refine bE ?hg (N := 2) ?hd (cs := #[.int .i64 a0_0, .slice A0_1 l0_1.length c0_1]) (t := 24) ?hr ?_; (case hd => rfl); (case hg => rfl); (case hr => first | (go_simp; done) | (go_simp; rfl)); intro gb235 hg w5 hbox hb; have n0_ := Z0.mk (bT (by repeat (first | (with_reducible first | exact HB.out | apply below_alloc | apply bN | apply bD) | exact HB.out)) hb); have n1_ := Z0.mk (hbox); have n2_ := Z0.mk ((by rw [hg]; exact (bZ (by repeat (first | (with_reducible first | exact HB.out | apply below_alloc | apply bN | apply bD) | exact HB.out))) : w.heap.size ≤ gb235)); have n3_ := Z0.mk ((by rw [hg]; exact (bZ (by repeat (first | (with_reducible first | exact HB.out | apply below_alloc | apply bN | apply bD) | exact HB.out))) : w.heap.size ≤ gb235)); clear HB; have HB := n0_; have BK235 := n1_; have GW235 := n2_; have GE235 := n3_; clear n0_ n1_ n2_ n3_; clear hb hbox hg; have hcz6_0 : w5.cell? ⟨gb235, 0, none⟩ = some (.int .i64 a0_0) := (kC BK235.out 0).trans rfl; have hcz6_1 : w5.cell? ⟨gb235, 1, none⟩ = some (.slice A0_1 l0_1.length c0_1) := (kC BK235.out 1).trans rfl; have hfz6_0 := kF BK235.out 0; have hfz6_1 := kF BK235.out 1) | (go_at_call 70; (with_reducible refine (qr14Check.calls k a0_0 _ _ l0_1 t236 _ ?side1 ?side2 A3.out).mono ?_); (case side1 => repeat (first | exact (Kd.C_below HR0_1.out HB.out) | (with_reducible refine Kd.C_alloc ?_ _) | (with_reducible refine Kd.C_drewN ?_ _) | (with_reducible refine Kd.C_drew ?_))); (case side2 => exact HC0_1.out); rintro e w7 ⟨rfl, hb⟩; have n0_ := Z0.mk (kB (g := gb235) (o := .cells #[.int .i64 a0_0, .slice A0_1 l0_1.length c0_1] 24 (0, 0)) (by (with_reducible repeat (first | refine kN ?_ _ | refine kD ?_ | refine kA ?_ _)); exact BK235.out) hb); have n1_ := Z0.mk (bT (by repeat (first | (with_reducible first | exact HB.out | apply below_alloc | apply bN | apply bD | refine bS ?_ GE235.out) | exact HB.out)) hb); clear BK235; clear HB; have BK235 := n0_; have HB := n1_; clear n0_ n1_; (try clear hb); (try clear hb2); (try clear hk); (try clear hi))))
  go_loopg [6] k (fun kq v6 w' => ∃ (x6_1 : Int), v6 = .int .i64 x6_1 ∧ Z0 (qr14Outs.l0 kq l1 x6_1 a0_0 l0_1 = some r) ∧ Z0 (kq ≤ k) ∧ Z0 (w'.heap[gb235]? = some (.cells #[.int .i64 a0_0, (.slice A0_1 l0_1.length c0_1)] 24 (0, 0))) ∧ Z0 (Below w.heap.size w w'))
  case atStart => exact ⟨(0), (by first | rfl | (simp; done) | (simp [*]; done)), H', ⟨Nat.le_refl _⟩, ⟨by (with_reducible repeat (first | refine kN ?_ _ | refine kD ?_ | refine kA ?_ _)); exact BK235.out⟩, ⟨by repeat (first | (with_reducible first | exact HB.out | apply below_alloc | apply bN | apply bD | refine bS ?_ GE235.out) | exact HB.out)⟩⟩
  case round =>
   clear H'; (try clear c1); (try clear p2); (try clear c4); (try clear c4b0); (try clear c4b1); (try clear c6); (try clear hcz6_0); (try clear hcz6_1); (try clear hfz6_0); (try clear hfz6_1)
   obtain ⟨x6_1, rfl, HA, HK1, BK235, HB⟩ := hrel
   cases gk with
   | zero => exact absurd HA.out (by simp [qr14Outs.l0])
   | succ k1 =>
    have H := HA.out
    clear HA
    simp only [qr14Outs.l0] at H
    by_cases c8 : x6_1 < (l1.length : Int)
    ·rw [if_pos c8] at H
     have c8b0 : decide (x6_1 < (l1.length : Int)) = true := decide_eq_true c8
     clear c8
     by_cases c9 : 0 ≤ x6_1
     ·rw [if_pos c9] at H
      have c9b0 : decide (0 ≤ x6_1) = true := decide_eq_true c9
      clear c9
      by_cases c10 : (rd l1 x6_1) < 0
      ·rw [if_pos c10] at H
       have c10b0 : decide ((rd l1 x6_1) < 0) = true := decide_eq_true c10
       clear c10
       obtain rfl := Option.some.inj H
       have p237 : 0 ≤ (x6_1 : Int) := of_decide_eq_true (by first | (with_reducible assumption) | assumption)
       have q237 : x6_1 < (l1.length : Int) := of_decide_eq_true (by first | (with_reducible assumption) | assumption)
       obtain ⟨ad237, e237, hx237_0⟩ := Kd.at_int HR1.out x6_1 p237 q237
       cases e237
       replace hx237_0 := (HB.out.cell (World.block_lt_of_cell? w _ hx237_0)).trans hx237_0
       replace p237 := eq_true p237
       replace q237 := eq_true q237
       go_wp2
       repeat (go_quiet (fail); try go_wp2)
       go_ret
       exact ⟨by first | rfl | (simp [errW_none, errW_some] <;> rfl) | (simp [*, errW_none, errW_some] <;> rfl), by repeat (first | (with_reducible first | exact HB.out | apply below_alloc | apply bN | apply bD | refine bS ?_ GE235.out) | exact HB.out)⟩
      ·rw [if_neg c10] at H
       have c10b0 : decide ((rd l1 x6_1) < 0) = false := decide_eq_false c10
       clear c10
       by_cases c11 : (rd l1 x6_1) ≥ (l0_1.length : Int)
       ·rw [if_pos c11] at H
        have c11b0 : decide ((l0_1.length : Int) ≤ (rd l1 x6_1)) = true := decide_eq_true c11
        clear c11
        obtain rfl := Option.some.inj H
        have p237 : 0 ≤ (x6_1 : Int) := of_decide_eq_true (by first | (with_reducible assumption) | assumption)
        have q237 : x6_1 < (l1.length : Int) := of_decide_eq_true (by first | (with_reducible assumption) | assumption)
        obtain ⟨ad237, e237, hx237_0⟩ := Kd.at_int HR1.out x6_1 p237 q237
        cases e237
        replace hx237_0 := (HB.out.cell (World.block_lt_of_cell? w _ hx237_0)).trans hx237_0
        replace p237 := eq_true p237
        replace q237 := eq_true q237
        have p238 : 0 ≤ (x6_1 : Int) := of_decide_eq_true (by first | (with_reducible assumption) | assumption)
        have q238 : x6_1 < (l1.length : Int) := of_decide_eq_true (by first | (with_reducible assumption) | assumption)
        obtain ⟨ad238, e238, hx238_0⟩ := Kd.at_int HR1.out x6_1 p238 q238
        obtain rfl : ad237 = ad238 := (by injection e238)
        replace hx238_0 := (HB.out.cell (World.block_lt_of_cell? w _ hx238_0)).trans hx238_0
        replace p238 := eq_true p238
        replace q238 := eq_true q238
        have hcz12_0 : wr.cell? ⟨gb235, 0, none⟩ = some (.int .i64 a0_0) := (kC BK235.out 0).trans rfl
        have hcz12_1 : wr.cell? ⟨gb235, 1, none⟩ = some (.slice A0_1 l0_1.length c0_1) := (kC BK235.out 1).trans rfl
        have hfz12_0 := kF BK235.out 0
        have hfz12_1 := kF BK235.out 1
        go_wp2
        repeat (go_quiet (fail); try go_wp2)
        go_ret
        exact ⟨by first | rfl | (simp [errW_none, errW_some] <;> rfl) | (simp [*, errW_none, errW_some] <;> rfl), by repeat (first | (with_reducible first | exact HB.out | apply below_alloc | apply bN | apply bD | refine bS ?_ GE235.out) | exact HB.out)⟩
       ·rw [if_neg c11] at H
        have c11b0 : decide ((l0_1.length : Int) ≤ (rd l1 x6_1)) = false := decide_eq_false c11
        clear c11
        by_cases c13 : x6_1 > 0
        ·rw [if_pos c13] at H
         have c13b0 : decide (0 < x6_1) = true := decide_eq_true c13
         clear c13
         obtain ⟨ji14, hji14⟩ : ∃ j_ : Int, (wrap64 (x6_1 - 1)) = j_ := ⟨_, rfl⟩
         replace H : (if 0 ≤ (ji14) then (if (ji14) < (l1.length : Int) then (if (rd l1 x6_1) ≤ (rd l1 (ji14)) then (some 1) else (qr14Outs.l0 k1 l1 (wrap64 (x6_1 + 1)) a0_0 l0_1)) else (none)) else (none)) = some r := by first | (rw [hji14] at H; exact H) | (simp only [hji14] at H ⊢; exact H)
         have hji14w : (IntKind.i64.wrap (x6_1 - 1)) = ji14 := (i64_w _).trans hji14
         by_cases c15 : 0 ≤ (ji14)
         ·rw [if_pos c15] at H
          have c15b0 : decide (0 ≤ (ji14)) = true := decide_eq_true c15
          clear c15
          by_cases c16 : (ji14) < (l1.length : Int)
          ·rw [if_pos c16] at H
           have c16b0 : decide ((ji14) < (l1.length : Int)) = true := decide_eq_true c16
           clear c16
           by_cases c17 : (rd l1 x6_1) ≤ (rd l1 (ji14))
           ·rw [if_pos c17] at H
            have c17b0 : decide ((rd l1 x6_1) ≤ (rd l1 (ji14))) = true := decide_eq_true c17
            clear c17
            obtain rfl := Option.some.inj H
            have p237 : 0 ≤ (x6_1 : Int) := of_decide_eq_true (by first | (with_reducible assumption) | assumption)
            have q237 : x6_1 < (l1.length : Int) := of_decide_eq_true (by first | (with_reducible assumption) | assumption)
            obtain ⟨ad237, e237, hx237_0⟩ := Kd.at_int HR1.out x6_1 p237 q237
            cases e237
            replace hx237_0 := (HB.out.cell (World.block_lt_of_cell? w _ hx237_0)).trans hx237_0
            replace p237 := eq_true p237
            replace q237 := eq_true q237
            have p238 : 0 ≤ (x6_1 : Int) := of_decide_eq_true (by first | (with_reducible assumption) | assumption)
            have q238 : x6_1 < (l1.length : Int) := of_decide_eq_true (by first | (with_reducible assumption) | assumption)
            obtain ⟨ad238, e238, hx238_0⟩ := Kd.at_int HR1.out x6_1 p238 q238
            obtain rfl : ad237 = ad238 := (by injection e238)
            replace hx238_0 := (HB.out.cell (World.block_lt_of_cell? w _ hx238_0)).trans hx238_0
            replace p238 := eq_true p238
            replace q238 := eq_true q238
            have hcz18_0 : wr.cell? ⟨gb235, 0, none⟩ = some (.int .i64 a0_0) := (kC BK235.out 0).trans rfl
            have hcz18_1 : wr.cell? ⟨gb235, 1, none⟩ = some (.slice A0_1 l0_1.length c0_1) := (kC BK235.out 1).trans rfl
            have hfz18_0 := kF BK235.out 0
            have hfz18_1 := kF BK235.out 1
            have p239 : 0 ≤ (x6_1 : Int) := of_decide_eq_true (by first | (with_reducible assumption) | assumption)
            have q239 : x6_1 < (l1.length : Int) := of_decide_eq_true (by first | (with_reducible assumption) | assumption)
            obtain ⟨ad239, e239, hx239_0⟩ := Kd.at_int HR1.out x6_1 p239 q239
            obtain rfl : ad237 = ad239 := (by injection e239)
            replace hx239_0 := (HB.out.cell (World.block_lt_of_cell? w _ hx239_0)).trans hx239_0
            replace p239 := eq_true p239
            replace q239 := eq_true q239
            have p240 : 0 ≤ ((ji14) : Int) := of_decide_eq_true (by first | (with_reducible assumption) | assumption)
            have q240 : (ji14) < (l1.length : Int) := of_decide_eq_true (by first | (with_reducible assumption) | assumption)
            obtain ⟨ad240, e240, hx240_0⟩ := Kd.at_int HR1.out (ji14) p240 q240
            obtain rfl : ad237 = ad240 := (by injection e240)
            replace hx240_0 := (HB.out.cell (World.block_lt_of_cell? w _ hx240_0)).trans hx240_0
            replace p240 := eq_true p240
            replace q240 := eq_true q240
            go_wp2
            repeat (go_quiet (fail); try go_wp2)
            go_ret
            exact ⟨by first | rfl | (simp [errW_none, errW_some] <;> rfl) | (simp only [← hji14]; first | rfl | (simp [errW_none, errW_some] <;> rfl)) | (simp [*, errW_none, errW_some] <;> rfl), by repeat (first | (with_reducible first | exact HB.out | apply below_alloc | apply bN | apply bD | refine bS ?_ GE235.out) | exact HB.out)⟩
           ·rw [if_neg c17] at H
            have c17b0 : decide ((rd l1 x6_1) ≤ (rd l1 (ji14))) = false := decide_eq_false c17
            clear c17
            have H' := Z0.mk H
            clear H
            have p237 : 0 ≤ (x6_1 : Int) := of_decide_eq_true (by first | (with_reducible assumption) | assumption)
            have q237 : x6_1 < (l1.length : Int) := of_decide_eq_true (by first | (with_reducible assumption) | assumption)
            obtain ⟨ad237, e237, hx237_0⟩ := Kd.at_int HR1.out x6_1 p237 q237
            cases e237
            replace hx237_0 := (HB.out.cell (World.block_lt_of_cell? w _ hx237_0)).trans hx237_0
            replace p237 := eq_true p237
            replace q237 := eq_true q237
            have p238 : 0 ≤ (x6_1 : Int) := of_decide_eq_true (by first | (with_reducible assumption) | assumption)
            have q238 : x6_1 < (l1.length : Int) := of_decide_eq_true (by first | (with_reducible assumption) | assumption)
            obtain ⟨ad238, e238, hx238_0⟩ := Kd.at_int HR1.out x6_1 p238 q238
            obtain rfl : ad237 = ad238 := (by injection e238)
            replace hx238_0 := (HB.out.cell (World.block_lt_of_cell? w _ hx238_0)).trans hx238_0
            replace p238 := eq_true p238
            replace q238 := eq_true q238
            have hcz19_0 : wr.cell? ⟨gb235, 0, none⟩ = some (.int .i64 a0_0) := (kC BK235.out 0).trans rfl
            have hcz19_1 : wr.cell? ⟨gb235, 1, none⟩ = some (.slice A0_1 l0_1.length c0_1) := (kC BK235.out 1).trans rfl
            have hfz19_0 := kF BK235.out 0
            have hfz19_1 := kF BK235.out 1
            have p239 : 0 ≤ (x6_1 : Int) := of_decide_eq_true (by first | (with_reducible assumption) | assumption)
            have q239 : x6_1 < (l1.length : Int) := of_decide_eq_true (by first | (with_reducible assumption) | assumption)
            obtain ⟨ad239, e239, hx239_0⟩ := Kd.at_int HR1.out x6_1 p239 q239
            obtain rfl : ad237 = ad239 := (by injection e239)
            replace hx239_0 := (HB.out.cell (World.block_lt_of_cell? w _ hx239_0)).trans hx239_0
            replace p239 := eq_true p239
            replace q239 := eq_true q239
            have p240 : 0 ≤ ((ji14) : Int) := of_decide_eq_true (by first | (with_reducible assumption) | assumption)
            have q240 : (ji14) < (l1.length : Int) := of_decide_eq_true (by first | (with_reducible assumption) | assumption)
            obtain ⟨ad240, e240, hx240_0⟩ := Kd.at_int HR1.out (ji14) p240 q240
            obtain rfl : ad237 = ad240 := (by injection e240)
            replace hx240_0 := (HB.out.cell (World.block_lt_of_cell? w _ hx240_0)).trans hx240_0
            replace p240 := eq_true p240
            replace q240 := eq_true q240
            go_wp2
            repeat (go_quiet (fail); try go_wp2)
            go_roundg k1
            case measure => have := HK1.out; omega
            case rel => exact ⟨(wrap64 (x6_1 + 1)), (by first | rfl | (simp; done) | (simp [*]; done)), H', ⟨by have := HK1.out; omega⟩, ⟨by (with_reducible repeat (first | refine kN ?_ _ | refine kD ?_ | refine kA ?_ _)); exact BK235.out⟩, ⟨by repeat (first | (with_reducible first | exact HB.out | apply below_alloc | apply bN | apply bD | refine bS ?_ GE235.out) | exact HB.out)⟩⟩
          ·rw [if_neg c16] at H
           exact absurd H (by simp)
         ·rw [if_neg c15] at H
          exact absurd H (by simp)
        ·rw [if_neg c13] at H
         have c13b0 : decide (0 < x6_1) = false := decide_eq_false c13
         clear c13
         have H' := Z0.mk H
         clear H
         have p237 : 0 ≤ (x6_1 : Int) := of_decide_eq_true (by first | (with_reducible assumption) | assumption)
         have q237 : x6_1 < (l1.length : Int) := of_decide_eq_true (by first | (with_reducible assumption) | assumption)
         obtain ⟨ad237, e237, hx237_0⟩ := Kd.at_int HR1.out x6_1 p237 q237
         cases e237
         replace hx237_0 := (HB.out.cell (World.block_lt_of_cell? w _ hx237_0)).trans hx237_0
         replace p237 := eq_true p237
         replace q237 := eq_true q237
         have p238 : 0 ≤ (x6_1 : Int) := of_decide_eq_true (by first | (with_reducible assumption) | assumption)
         have q238 : x6_1 < (l1.length : Int) := of_decide_eq_true (by first | (with_reducible assumption) | assumption)
         obtain ⟨ad238, e238, hx238_0⟩ := Kd.at_int HR1.out x6_1 p238 q238
         obtain rfl : ad237 = ad238 := (by injection e238)
         replace hx238_0 := (HB.out.cell (World.block_lt_of_cell? w _ hx238_0)).trans hx238_0
         replace p238 := eq_true p238
         replace q238 := eq_true q238
         have hcz20_0 : wr.cell? ⟨gb235, 0, none⟩ = some (.int .i64 a0_0) := (kC BK235.out 0).trans rfl
         have hcz20_1 : wr.cell? ⟨gb235, 1, none⟩ = some (.slice A0_1 l0_1.length c0_1) := (kC BK235.out 1).trans rfl
         have hfz20_0 := kF BK235.out 0
         have hfz20_1 := kF BK235.out 1
         go_wp2
         repeat (go_quiet (fail); try go_wp2)
         go_roundg k1
         case measure => have := HK1.out; omega
         case rel => exact ⟨(wrap64 (x6_1 + 1)), (by first | rfl | (simp; done) | (simp [*]; done)), H', ⟨by have := HK1.out; omega⟩, ⟨by (with_reducible repeat (first | refine kN ?_ _ | refine kD ?_ | refine kA ?_ _)); exact BK235.out⟩, ⟨by repeat (first | (with_reducible first | exact HB.out | apply below_alloc | apply bN | apply bD | refine bS ?_ GE235.out) | exact HB.out)⟩⟩
     ·rw [if_neg c9] at H
      exact absurd H (by simp)
    ·rw [if_neg c8] at H
     have c8b0 : decide (x6_1 < (l1.length : Int)) = false := decide_eq_false c8
     clear c8
     obtain rfl := Option.some.inj H
     go_wp2
     repeat (go_quiet (fail); try go_wp2)
     go_ret
     exact ⟨by first | rfl | (simp [errW_none, errW_some] <;> rfl) | (simp [*, errW_none, errW_some] <;> rfl), by repeat (first | (with_reducible first | exact HB.out | apply below_alloc | apply bN | apply bD | refine bS ?_ GE235.out) | exact HB.out)⟩
 ·rw [if_neg c4] at H
  have c4b0 : (t236 == 0) = false := beq_eq_false_iff_ne.mpr c4
  have c4b1 : (t236 != 0) = true := bne_iff_ne.mpr c4
  obtain rfl := Option.some.inj H
  go_enter Try.func69, Try.ntmps69
  go_wp2_with (first | ((with_reducible refine gate_dst (N := 2) rfl ?_); (try (refine gG (by rfl) ?_; dsimp only)); refine bE ?hg (N := 2) ?hd (cs := #[.int .i64 a0_0, .slice A0_1 l0_1.length c0_1]) (t := 24) ?hr ?_; (case hd => rfl); (case hg => rfl); (case hr => first | (go_simp; done) | (go_simp; rfl)); intro gb235 hg w21 hbox hb; have n0_ := Z0.mk (bT (by repeat (first | (with_reducible first | exact HB.out | apply below_alloc | apply bN | apply bD) | exact HB.out)) hb); have n1_ := Z0.mk (hbox); have n2_ := Z0.mk ((by rw [hg]; exact (bZ (by repeat (first | (with_reducible first | exact HB.out | apply below_alloc | apply bN | apply bD) | exact HB.out))) : w.heap.size ≤ gb235)); have n3_ := Z0.mk ((by rw [hg]; exact (bZ (by repeat (first | (with_reducible first | exact HB.out | apply below_alloc | apply bN | apply bD) | exact HB.out))) : w.heap.size ≤ gb235)); clear HB; have HB := n0_; have BK235 := n1_; have GW235 := n2_; have GE235 := n3_; clear n0_ n1_ n2_ n3_; clear hb hbox hg; have hcz22_0 : w21.cell? ⟨gb235, 0, none⟩ = some (.int .i64 a0_0) := (kC BK235.out 0).trans rfl; have hcz22_1 : w21.cell? ⟨gb235, 1, none⟩ = some (.slice A0_1 l0_1.length c0_1) := (kC BK235.out 1).trans rfl; have hfz22_0 := kF BK235.out 0; have hfz22_1 := kF BK235.out 1) | (go_at_call 70; (with_reducible refine (qr14Check.calls k a0_0 _ _ l0_1 t236 _ ?side1 ?side2 A3.out).mono ?_); (case side1 => repeat (first | exact (Kd.C_below HR0_1.out HB.out) | (with_reducible refine Kd.C_alloc ?_ _) | (with_reducible refine Kd.C_drewN ?_ _) | (with_reducible refine Kd.C_drew ?_))); (case side2 => exact HC0_1.out); rintro e w23 ⟨rfl, hb⟩; have n0_ := Z0.mk (kB (g := gb235) (o := .cells #[.int .i64 a0_0, .slice A0_1 l0_1.length c0_1] 24 (0, 0)) (by (with_reducible repeat (first | refine kN ?_ _ | refine kD ?_ | refine kA ?_ _)); exact BK235.out) hb); have n1_ := Z0.mk (bT (by repeat (first | (with_reducible first | exact HB.out | apply below_alloc | apply bN | apply bD | refine bS ?_ GE235.out) | exact HB.out)) hb); clear BK235; clear HB; have BK235 := n0_; have HB := n1_; clear n0_ n1_; (try clear hb); (try clear hb2); (try clear hk); (try clear hi)))
  repeat (go_quiet (first | ((with_reducible refine gate_dst (N := 2) rfl ?_); (try (refine gG (by rfl) ?_; dsimp only)); refine bE ?hg (N := 2) ?hd (cs := #[.int .i64 a0_0, .slice A0_1 l0_1.length c0_1]) (t := 24) ?hr ?_; (case hd => rfl); (case hg => rfl); (case hr => first | (go_simp; done) | (go_simp; rfl)); intro gb235 hg w21 hbox hb; have n0_ := Z0.mk (bT (by repeat (first | (with_reducible first | exact HB.out | apply below_alloc | apply bN | apply bD) | exact HB.out)) hb); have n1_ := Z0.mk (hbox); have n2_ := Z0.mk ((by rw [hg]; exact (bZ (by repeat (first | (with_reducible first | exact HB.out | apply below_alloc | apply bN | apply bD) | exact HB.out))) : w.heap.size ≤ gb235)); have n3_ := Z0.mk ((by rw [hg]; exact (bZ (by repeat (first | (with_reducible first | exact HB.out | apply below_alloc | apply bN | apply bD) | exact HB.out))) : w.heap.size ≤ gb235)); clear HB; have HB := n0_; have BK235 := n1_; have GW235 := n2_; have GE235 := n3_; clear n0_ n1_ n2_ n3_; clear hb hbox hg; have hcz22_0 : w21.cell? ⟨gb235, 0, none⟩ = some (.int .i64 a0_0) := (kC BK235.out 0).trans rfl; have hcz22_1 : w21.cell? ⟨gb235, 1, none⟩ = some (.slice A0_1 l0_1.length c0_1) := (kC BK235.out 1).trans rfl; have hfz22_0 := kF BK235.out 0; have hfz22_1 := kF BK235.out 1) | (go_at_call 70; (with_reducible refine (qr14Check.calls k a0_0 _ _ l0_1 t236 _ ?side1 ?side2 A3.out).mono ?_); (case side1 => repeat (first | exact (Kd.C_below HR0_1.out HB.out) | (with_reducible refine Kd.C_alloc ?_ _) | (with_reducible refine Kd.C_drewN ?_ _) | (with_reducible refine Kd.C_drew ?_))); (case side2 => exact HC0_1.out); rintro e w23 ⟨rfl, hb⟩; have n0_ := Z0.mk (kB (g := gb235) (o := .cells #[.int .i64 a0_0, .slice A0_1 l0_1.length c0_1] 24 (0, 0)) (by (with_reducible repeat (first | refine kN ?_ _ | refine kD ?_ | refine kA ?_ _)); exact BK235.out) hb); have n1_ := Z0.mk (bT (by repeat (first | (with_reducible first | exact HB.out | apply below_alloc | apply bN | apply bD | refine bS ?_ GE235.out) | exact HB.out)) hb); clear BK235; clear HB; have BK235 := n0_; have HB := n1_; clear n0_ n1_; (try clear hb); (try clear hb2); (try clear hk); (try clear hi))); try go_wp2_with (first | ((with_reducible refine gate_dst (N := 2) rfl ?_); (try (refine gG (by rfl) ?_; dsimp only)); refine bE ?hg (N := 2) ?hd (cs := #[.int .i64 a0_0, .slice A0_1 l0_1.length c0_1]) (t := 24) ?hr ?_; (case hd => rfl); (case hg => rfl); (case hr => first | (go_simp; done) | (go_simp; rfl)); intro gb235 hg w21 hbox hb; have n0_ := Z0.mk (bT (by repeat (first | (with_reducible first | exact HB.out | apply below_alloc | apply bN | apply bD) | exact HB.out)) hb); have n1_ := Z0.mk (hbox); have n2_ := Z0.mk ((by rw [hg]; exact (bZ (by repeat (first | (with_reducible first | exact HB.out | apply below_alloc | apply bN | apply bD) | exact HB.out))) : w.heap.size ≤ gb235)); have n3_ := Z0.mk ((by rw [hg]; exact (bZ (by repeat (first | (with_reducible first | exact HB.out | apply below_alloc | apply bN | apply bD) | exact HB.out))) : w.heap.size ≤ gb235)); clear HB; have HB := n0_; have BK235 := n1_; have GW235 := n2_; have GE235 := n3_; clear n0_ n1_ n2_ n3_; clear hb hbox hg; have hcz22_0 : w21.cell? ⟨gb235, 0, none⟩ = some (.int .i64 a0_0) := (kC BK235.out 0).trans rfl; have hcz22_1 : w21.cell? ⟨gb235, 1, none⟩ = some (.slice A0_1 l0_1.length c0_1) := (kC BK235.out 1).trans rfl; have hfz22_0 := kF BK235.out 0; have hfz22_1 := kF BK235.out 1) | (go_at_call 70; (with_reducible refine (qr14Check.calls k a0_0 _ _ l0_1 t236 _ ?side1 ?side2 A3.out).mono ?_); (case side1 => repeat (first | exact (Kd.C_below HR0_1.out HB.out) | (with_reducible refine Kd.C_alloc ?_ _) | (with_reducible refine Kd.C_drewN ?_ _) | (with_reducible refine Kd.C_drew ?_))); (case side2 => exact HC0_1.out); rintro e w23 ⟨rfl, hb⟩; have n0_ := Z0.mk (kB (g := gb235) (o := .cells #[.int .i64 a0_0, .slice A0_1 l0_1.length c0_1] 24 (0, 0)) (by (with_reducible repeat (first | refine kN ?_ _ | refine kD ?_ | refine kA ?_ _)); exact BK235.out) hb); have n1_ := Z0.mk (bT (by repeat (first | (with_reducible first | exact HB.out | apply below_alloc | apply bN | apply bD | refine bS ?_ GE235.out) | exact HB.out)) hb); clear BK235; clear HB; have BK235 := n0_; have HB := n1_; clear n0_ n1_; (try clear hb); (try clear hb2); (try clear hk); (try clear hi))))
  go_ret
  exact ⟨by first | rfl | (simp [errW_none, errW_some] <;> rfl) | (simp [*, errW_none, errW_some] <;> rfl), by repeat (first | (with_reducible first | exact HB.out | apply below_alloc | apply bN | apply bD | refine bS ?_ GE235.out) | exact HB.out)⟩
section
attribute [local go_sem high] eqA37
def api_Line.l0 : Nat → List (S37) → List (S37) → Int → Int → Option (Bool)
 | 0, _, _, _, _ => none
 | k + 1, x0, x1, x12, x13 => if x13 < x12 then (if 0 ≤ x13 then (if x13 < (x0.length : Int) then (if x13 < (x1.length : Int) then (if (!(((rd_T37 x0 x13).f0) == ((rd_T37 x1 x13).f0)) || (!(((rd_T37 x0 x13).f1) == ((rd_T37 x1 x13).f1)) || (!(((rd_T37 x0 x13).f2) == ((rd_T37 x1 x13).f2)) || (!(((rd_T37 x0 x13).f3) == ((rd_T37 x1 x13).f3)))))) = true then (some false) else (api_Line.l0 k x0 x1 x12 (wrap64 (x13 + 1)))) else (none)) else (none)) else (none)) else (some true)
def api_Line.f (k : Nat) (l0 : List (S37)) (l1 : List (S37)) : Option (Bool) := if (l0.length : Int) = (l1.length : Int) then (api_Line.l0 k l0 l1 (l0.length : Int) 0) else (some false)
set_option maxHeartbeats 8000000 in
set_option maxRecDepth 100000 in
theorem api_Line.calls (k : Nat) (A0 : Option Addr) (c0 : Nat) (l0 : List (S37)) (A1 : Option Addr) (c1 : Nat) (l1 : List (S37)) (r : Bool) (w : World) (hr0 : Kd.C k37 w A0 l0.length l0) (hc0 : l0.length ≤ c0) (hr1 : Kd.C k37 w A1 l1.length l1) (hc1 : l1.length ≤ c1) (h : api_Line.f k l0 l1 = some r) :
  Calls Try.prog 104 #[.slice A0 l0.length c0, .slice A1 l1.length c1] w fun e w' => e = .returned (.bool r) ∧ Drawn0 w w' := by
 have hu37 := Try.underlying37
 have HR0 := Z0.mk hr0
 have HC0 := Z0.mk hc0
 clear hr0 hc0
 have HR1 := Z0.mk hr1
 have HC1 := Z0.mk hc1
 clear hr1 hc1
 have H : (if (l0.length : Int) = (l1.length : Int) then (api_Line.l0 k l0 l1 (l0.length : Int) 0) else (some false)) = some r := h
 clear h
 by_cases c3 : (l0.length : Int) = (l1.length : Int)
 ·rw [if_pos c3] at H
  have c3b0 : ((l0.length : Int) == (l1.length : Int)) = true := beq_iff_eq.mpr c3
  have c3b1 : ((l0.length : Int) != (l1.length : Int)) = false := bne_eq_false_iff_eq.mpr c3
  have c3b2 : (l0.length == l1.length) = true := by first | simpa using c3 | (simp at c3 ⊢; omega)
  clear c3
  have H' := Z0.mk H
  clear H
  go_enter Try.func104, Try.ntmps104
  go_wp2
  repeat (go_quiet (fail); try go_wp2)
  go_loopg [13] k (fun kq v13 w' => ∃ (x13_1 : Int), v13 = .int .i64 x13_1 ∧ Z0 (api_Line.l0 kq l0 l1 (l0.length : Int) x13_1 = some r) ∧ Z0 (kq ≤ k) ∧ Drawn0 w w')
  case atStart => exact ⟨(0), (by first | rfl | (simp; done) | (simp [*]; done)), H', ⟨Nat.le_refl _⟩, by repeat (first | exact Drawn0.refl _ | apply Drawn0.step)⟩
  case round =>
   clear H'; (try clear c1); (try clear p2); (try clear c3); (try clear c3b0); (try clear c3b1); (try clear c3b2)
   obtain ⟨x13_1, rfl, HA, HK1, ⟨m1, rfl⟩⟩ := hrel
   cases gk with
   | zero => exact absurd HA.out (by simp [api_Line.l0])
   | succ k1 =>
    have H := HA.out
    clear HA
    simp only [api_Line.l0] at H
    by_cases c4 : x13_1 < (l0.length : Int)
    ·rw [if_pos c4] at H
     have c4b0 : decide (x13_1 < (l0.length : Int)) = true := decide_eq_true c4
     clear c4
     by_cases c5 : 0 ≤ x13_1
     ·rw [if_pos c5] at H
      have c5b0 : decide (0 ≤ x13_1) = true := decide_eq_true c5
      clear c5
      by_cases c6 : x13_1 < (l0.length : Int)
      ·rw [if_pos c6] at H
       have c6b0 : decide (x13_1 < (l0.length : Int)) = true := decide_eq_true c6
       clear c6
       by_cases c7 : x13_1 < (l1.length : Int)
       ·rw [if_pos c7] at H
        have c7b0 : decide (x13_1 < (l1.length : Int)) = true := decide_eq_true c7
        clear c7
        by_cases c8 : (!(((rd_T37 l0 x13_1).f0) == ((rd_T37 l1 x13_1).f0)) || (!(((rd_T37 l0 x13_1).f1) == ((rd_T37 l1 x13_1).f1)) || (!(((rd_T37 l0 x13_1).f2) == ((rd_T37 l1 x13_1).f2)) || (!(((rd_T37 l0 x13_1).f3) == ((rd_T37 l1 x13_1).f3)))))) = true
        ·rw [if_pos c8] at H
         have c8b0 : (!(((rd_T37 l0 x13_1).f0) == ((rd_T37 l1 x13_1).f0)) || (!(((rd_T37 l0 x13_1).f1) == ((rd_T37 l1 x13_1).f1)) || (!(((rd_T37 l0 x13_1).f2) == ((rd_T37 l1 x13_1).f2)) || (!(((rd_T37 l0 x13_1).f3) == ((rd_T37 l1 x13_1).f3)))))) = true := c8
         clear c8
         obtain rfl := Option.some.inj H
         have p1502 : 0 ≤ (x13_1 : Int) := of_decide_eq_true (by first | (with_reducible assumption) | assumption)
         have q1502 : x13_1 < (l0.length : Int) := of_decide_eq_true (by first | (with_reducible assumption) | assumption)
         obtain ⟨ad1502, e1502, hx1502_0, hx1502_1, hx1502_2, hx1502_3⟩ := at_T37 HR0.out x13_1 p1502 q1502
         cases e1502
         replace p1502 := eq_true p1502
         replace q1502 := eq_true q1502
         have p1503 : 0 ≤ (x13_1 : Int) := of_decide_eq_true (by first | (with_reducible assumption) | assumption)
         have q1503 : x13_1 < (l1.length : Int) := of_decide_eq_true (by first | (with_reducible assumption) | assumption)
         obtain ⟨ad1503, e1503, hx1503_0, hx1503_1, hx1503_2, hx1503_3⟩ := at_T37 HR1.out x13_1 p1503 q1503
         cases e1503
         replace p1503 := eq_true p1503
         replace q1503 := eq_true q1503
         go_wp2
         repeat (go_quiet (fail); try go_wp2)
         go_ret
         exact ⟨by first | rfl | (simp; done) | (simp [*]; done), by repeat (first | exact Drawn0.refl _ | apply Drawn0.step)⟩
        ·rw [if_neg c8] at H
         have c8b0 : (!(((rd_T37 l0 x13_1).f0) == ((rd_T37 l1 x13_1).f0)) || (!(((rd_T37 l0 x13_1).f1) == ((rd_T37 l1 x13_1).f1)) || (!(((rd_T37 l0 x13_1).f2) == ((rd_T37 l1 x13_1).f2)) || (!(((rd_T37 l0 x13_1).f3) == ((rd_T37 l1 x13_1).f3)))))) = false := by simpa using c8
         clear c8
         have H' := Z0.mk H
         clear H
         have p1502 : 0 ≤ (x13_1 : Int) := of_decide_eq_true (by first | (with_reducible assumption) | assumption)
         have q1502 : x13_1 < (l0.length : Int) := of_decide_eq_true (by first | (with_reducible assumption) | assumption)
         obtain ⟨ad1502, e1502, hx1502_0, hx1502_1, hx1502_2, hx1502_3⟩ := at_T37 HR0.out x13_1 p1502 q1502
         cases e1502
         replace p1502 := eq_true p1502
         replace q1502 := eq_true q1502
         have p1503 : 0 ≤ (x13_1 : Int) := of_decide_eq_true (by first | (with_reducible assumption) | assumption)
         have q1503 : x13_1 < (l1.length : Int) := of_decide_eq_true (by first | (with_reducible assumption) | assumption)
         obtain ⟨ad1503, e1503, hx1503_0, hx1503_1, hx1503_2, hx1503_3⟩ := at_T37 HR1.out x13_1 p1503 q1503
         cases e1503
         replace p1503 := eq_true p1503
         replace q1503 := eq_true q1503
         go_wp2
         repeat (go_quiet (fail); try go_wp2)
         go_roundg k1
         case measure => have := HK1.out; omega
         case rel => exact ⟨(wrap64 (x13_1 + 1)), (by first | rfl | (simp; done) | (simp [*]; done)), H', ⟨by have := HK1.out; omega⟩, by repeat (first | exact Drawn0.refl _ | apply Drawn0.step)⟩
       ·rw [if_neg c7] at H
        exact absurd H (by simp)
      ·rw [if_neg c6] at H
       exact absurd H (by simp)
     ·rw [if_neg c5] at H
      exact absurd H (by simp)
    ·rw [if_neg c4] at H
     have c4b0 : decide (x13_1 < (l0.length : Int)) = false := decide_eq_false c4
     clear c4
     obtain rfl := Option.some.inj H
     go_wp2
     repeat (go_quiet (fail); try go_wp2)
     go_ret
     exact ⟨by first | rfl | (simp; done) | (simp [*]; done), by repeat (first | exact Drawn0.refl _ | apply Drawn0.step)⟩
 ·rw [if_neg c3] at H
  have c3b0 : ((l0.length : Int) == (l1.length : Int)) = false := beq_eq_false_iff_ne.mpr c3
  have c3b1 : ((l0.length : Int) != (l1.length : Int)) = true := bne_iff_ne.mpr c3
  have c3b2 : (l0.length == l1.length) = false := by first | simpa using c3 | (simp at c3 ⊢; omega)
  obtain rfl := Option.some.inj H
  go_enter Try.func104, Try.ntmps104
  go_wp2
  repeat (go_quiet (fail); try go_wp2)
  go_ret
  exact ⟨by first | rfl | (simp; done) | (simp [*]; done), by repeat (first | exact Drawn0.refl _ | apply Drawn0.step)⟩
end
def net_Equal.f (k : Nat) (a0_0 : Int) (l0_1 : List (S37)) (a1_0 : Int) (l1_1 : List (S37)) : Option (Bool) := if a0_0 = a1_0 then ((api_Line.f k l0_1 l1_1).bind fun t1506 => (some t1506)) else (some false)
set_option maxHeartbeats 8000000 in
set_option maxRecDepth 100000 in
theorem net_Equal.calls (k : Nat) (a0_0 : Int) (A0_1 : Option Addr) (c0_1 : Nat) (l0_1 : List (S37)) (a1_0 : Int) (A1_1 : Option Addr) (c1_1 : Nat) (l1_1 : List (S37)) (r : Bool) (w : World) (hr0_1 : Kd.C k37 w A0_1 l0_1.length l0_1) (hc0_1 : l0_1.length ≤ c0_1) (hr1_1 : Kd.C k37 w A1_1 l1_1.length l1_1) (hc1_1 : l1_1.length ≤ c1_1) (h : net_Equal.f k a0_0 l0_1 a1_0 l1_1 = some r) :
  Calls Try.prog 78 #[.agg #[.int .i64 a0_0, .slice A0_1 l0_1.length c0_1], .agg #[.int .i64 a1_0, .slice A1_1 l1_1.length c1_1]] w fun e w' => e = .returned (.bool r) ∧ Below w.heap.size w w' := by
 have hu24 := Try.underlying24
 have HR0_1 := Z0.mk hr0_1
 have HC0_1 := Z0.mk hc0_1
 clear hr0_1 hc0_1
 have HR1_1 := Z0.mk hr1_1
 have HC1_1 := Z0.mk hc1_1
 clear hr1_1 hc1_1
 have HB := Z0.mk (Below.refl w.heap.size w)
 have H : (if a0_0 = a1_0 then ((api_Line.f k l0_1 l1_1).bind fun t1506 => (some t1506)) else (some false)) = some r := h
 clear h
 by_cases c3 : a0_0 = a1_0
 ·rw [if_pos c3] at H
  have c3b0 : (a0_0 == a1_0) = true := beq_iff_eq.mpr c3
  have c3b1 : (a0_0 != a1_0) = false := bne_eq_false_iff_eq.mpr c3
  clear c3
  replace H := Option.bind_eq_some_iff.mp H
  obtain ⟨t1506, A40, H⟩ := H
  replace H : (some t1506) = some r := H
  have A4 := Z0.mk A40
  clear A40
  obtain rfl := Option.some.inj H
  go_enter Try.func78, Try.ntmps78
  go_wp2_with (first | ((with_reducible refine gate_dst (N := 2) rfl ?_); refine bE ?hg (N := 2) ?hd (cs := #[.int .i64 a0_0, .slice A0_1 l0_1.length c0_1]) (t := 24) ?hr ?_; (case hd => rfl); (case hg => rfl); (case hr => first | (go_simp; done) | (go_simp; rfl)); intro gb1504 hg w5 hbox hb; have n0_ := Z0.mk (bT (by repeat (first | (with_reducible first | exact HB.out | apply below_alloc | apply bN | apply bD) | exact HB.out)) hb); have n1_ := Z0.mk (hbox); have n2_ := Z0.mk ((by rw [hg]; exact (bZ (by repeat (first | (with_reducible first | exact HB.out | apply below_alloc | apply bN | apply bD) | exact HB.out))) : w.heap.size ≤ gb1504)); have n3_ := Z0.mk ((by rw [hg]; exact (bZ (by repeat (first | (with_reducible first | exact HB.out | apply below_alloc | apply bN | apply bD) | exact HB.out))) : w.heap.size ≤ gb1504)); clear HB; have HB := n0_; have BK1504 := n1_; have GW1504 := n2_; have GE1504 := n3_; clear n0_ n1_ n2_ n3_; clear hb hbox hg) | ((with_reducible refine gate_dst (N := 3) rfl ?_); refine bE ?hg (N := 3) ?hd (cs := #[.int .i64 a1_0, .slice A1_1 l1_1.length c1_1]) (t := 24) ?hr ?_; (case hd => rfl); (case hg => rfl); (case hr => first | (go_simp; done) | (go_simp; rfl)); intro gb1505 hg w6 hbox hb; have n0_ := Z0.mk (kB (g := gb1504) (o := .cells #[.int .i64 a0_0, .slice A0_1 l0_1.length c0_1] 24 (0, 0)) (by (with_reducible repeat (first | refine kN ?_ _ | refine kD ?_ | refine kA ?_ _)); exact BK1504.out) hb); have n1_ := Z0.mk (bT (by repeat (first | (with_reducible first | exact HB.out | apply below_alloc | apply bN | apply bD | refine bS ?_ GE1504.out) | exact HB.out)) hb); have n2_ := Z0.mk (hbox); have n3_ := Z0.mk ((by rw [hg]; exact (bZ (by repeat (first | (with_reducible first | exact HB.out | apply below_alloc | apply bN | apply bD | refine bS ?_ GE1504.out) | exact HB.out))) : w.heap.size ≤ gb1505)); have n4_ := Z0.mk ((by rw [hg]; exact (bZ (by repeat (first | (with_reducible first | exact HB.out | apply below_alloc | apply bN | apply bD | refine bS ?_ GE1504.out) | exact HB.out))) : w.heap.size ≤ gb1505)); have n5_ := Z0.mk ((by rw [hg]; exact Nat.ne_of_lt (blk_lt (g := gb1504) (o := .cells #[.int .i64 a0_0, .slice A0_1 l0_1.length c0_1] 24 (0, 0)) (by (with_reducible repeat (first | refine kN ?_ _ | refine kD ?_ | refine kA ?_ _)); exact BK1504.out)) : gb1504 ≠ gb1505)); have n6_ := Z0.mk ((by rw [hg]; exact Nat.ne_of_gt (blk_lt (g := gb1504) (o := .cells #[.int .i64 a0_0, .slice A0_1 l0_1.length c0_1] 24 (0, 0)) (by (with_reducible repeat (first | refine kN ?_ _ | refine kD ?_ | refine kA ?_ _)); exact BK1504.out)) : gb1505 ≠ gb1504)); clear BK1504; clear HB; have BK1504 := n0_; have HB := n1_; have BK1505 := n2_; have GW1505 := n3_; have GE1505 := n4_; have NB1504_1505 := n5_; have NB1505_1504 := n6_; clear n0_ n1_ n2_ n3_ n4_ n5_ n6_; clear hb hbox hg; have hnb7 := NB1504_1505.out; have hnc7 := NB1505_1504.out; have hcz8_0 : w6.cell? ⟨gb1504, 0, none⟩ = some (.int .i64 a0_0) := (kC BK1504.out 0).trans rfl; have hcz8_1 : w6.cell? ⟨gb1504, 1, none⟩ = some (.slice A0_1 l0_1.length c0_1) := (kC BK1504.out 1).trans rfl; have hfz8_0 := kF BK1504.out 0; have hfz8_1 := kF BK1504.out 1; have hcz9_0 : w6.cell? ⟨gb1505, 0, none⟩ = some (.int .i64 a1_0) := (kC BK1505.out 0).trans rfl; have hcz9_1 : w6.cell? ⟨gb1505, 1, none⟩ = some (.slice A1_1 l1_1.length c1_1) := (kC BK1505.out 1).trans rfl; have hfz9_0 := kF BK1505.out 0; have hfz9_1 := kF BK1505.out 1) | (go_at_call 104; (with_reducible refine (api_Line.calls k _ _ l0_1 _ _ l1_1 t1506 _ ?side1 ?side2 ?side3 ?side4 A4.out).mono ?_); (case side1 => repeat (first | exact (Kd.C_below HR0_1.out HB.out) | (with_reducible refine Kd.C_alloc ?_ _) | (with_reducible refine Kd.C_drewN ?_ _) | (with_reducible refine Kd.C_drew ?_))); (case side2 => exact HC0_1.out); (case side3 => repeat (first | exact (Kd.C_below HR1_1.out HB.out) | (with_reducible refine Kd.C_alloc ?_ _) | (with_reducible refine Kd.C_drewN ?_ _) | (with_reducible refine Kd.C_drew ?_))); (case side4 => exact HC1_1.out); rintro e w' ⟨rfl, ⟨nd, rfl⟩⟩))
  go_ret
  exact ⟨by first | rfl | (simp [errW_none, errW_some] <;> rfl) | (simp [*, errW_none, errW_some] <;> rfl), by repeat (first | (with_reducible first | exact HB.out | apply below_alloc | apply bN | apply bD | refine bS ?_ GE1504.out | refine bS ?_ GE1505.out) | exact HB.out)⟩
 ·rw [if_neg c3] at H
  have c3b0 : (a0_0 == a1_0) = false := beq_eq_false_iff_ne.mpr c3
  have c3b1 : (a0_0 != a1_0) = true := bne_iff_ne.mpr c3
  obtain rfl := Option.some.inj H
  go_enter Try.func78, Try.ntmps78
  go_wp2_with (first | ((with_reducible refine gate_dst (N := 2) rfl ?_); refine bE ?hg (N := 2) ?hd (cs := #[.int .i64 a0_0, .slice A0_1 l0_1.length c0_1]) (t := 24) ?hr ?_; (case hd => rfl); (case hg => rfl); (case hr => first | (go_simp; done) | (go_simp; rfl)); intro gb1504 hg w10 hbox hb; have n0_ := Z0.mk (bT (by repeat (first | (with_reducible first | exact HB.out | apply below_alloc | apply bN | apply bD) | exact HB.out)) hb); have n1_ := Z0.mk (hbox); have n2_ := Z0.mk ((by rw [hg]; exact (bZ (by repeat (first | (with_reducible first | exact HB.out | apply below_alloc | apply bN | apply bD) | exact HB.out))) : w.heap.size ≤ gb1504)); have n3_ := Z0.mk ((by rw [hg]; exact (bZ (by repeat (first | (with_reducible first | exact HB.out | apply below_alloc | apply bN | apply bD) | exact HB.out))) : w.heap.size ≤ gb1504)); clear HB; have HB := n0_; have BK1504 := n1_; have GW1504 := n2_; have GE1504 := n3_; clear n0_ n1_ n2_ n3_; clear hb hbox hg) | ((with_reducible refine gate_dst (N := 3) rfl ?_); refine bE ?hg (N := 3) ?hd (cs := #[.int .i64 a1_0, .slice A1_1 l1_1.length c1_1]) (t := 24) ?hr ?_; (case hd => rfl); (case hg => rfl); (case hr => first | (go_simp; done) | (go_simp; rfl)); intro gb1505 hg w11 hbox hb; have n0_ := Z0.mk (kB (g := gb1504) (o := .cells #[.int .i64 a0_0, .slice A0_1 l0_1.length c0_1] 24 (0, 0)) (by (with_reducible repeat (first | refine kN ?_ _ | refine kD ?_ | refine kA ?_ _)); exact BK1504.out) hb); have n1_ := Z0.mk (bT (by repeat (first | (with_reducible first | exact HB.out | apply below_alloc | apply bN | apply bD | refine bS ?_ GE1504.out) | exact HB.out)) hb); have n2_ := Z0.mk (hbox); have n3_ := Z0.mk ((by rw [hg]; exact (bZ (by repeat (first | (with_reducible first | exact HB.out | apply below_alloc | apply bN | apply bD | refine bS ?_ GE1504.out) | exact HB.out))) : w.heap.size ≤ gb1505)); have n4_ := Z0.mk ((by rw [hg]; exact (bZ (by repeat (first | (with_reducible first | exact HB.out | apply below_alloc | apply bN | apply bD | refine bS ?_ GE1504.out) | exact HB.out))) : w.heap.size ≤ gb1505)); have n5_ := Z0.mk ((by rw [hg]; exact Nat.ne_of_lt (blk_lt (g := gb1504) (o := .cells #[.int .i64 a0_0, .slice A0_1 l0_1.length c0_1] 24 (0, 0)) (by (with_reducible repeat (first | refine kN ?_ _ | refine kD ?_ | refine kA ?_ _)); exact BK1504.out)) : gb1504 ≠ gb1505)); have n6_ := Z0.mk ((by rw [hg]; exact Nat.ne_of_gt (blk_lt (g := gb1504) (o := .cells #[.int .i64 a0_0, .slice A0_1 l0_1.length c0_1] 24 (0, 0)) (by (with_reducible repeat (first | refine kN ?_ _ | refine kD ?_ | refine kA ?_ _)); exact BK1504.out)) : gb1505 ≠ gb1504)); clear BK1504; clear HB; have BK1504 := n0_; have HB := n1_; have BK1505 := n2_; have GW1505 := n3_; have GE1505 := n4_; have NB1504_1505 := n5_; have NB1505_1504 := n6_; clear n0_ n1_ n2_ n3_ n4_ n5_ n6_; clear hb hbox hg; have hnb12 := NB1504_1505.out; have hnc12 := NB1505_1504.out; have hcz13_0 : w11.cell? ⟨gb1504, 0, none⟩ = some (.int .i64 a0_0) := (kC BK1504.out 0).trans rfl; have hcz13_1 : w11.cell? ⟨gb1504, 1, none⟩ = some (.slice A0_1 l0_1.length c0_1) := (kC BK1504.out 1).trans rfl; have hfz13_0 := kF BK1504.out 0; have hfz13_1 := kF BK1504.out 1; have hcz14_0 : w11.cell? ⟨gb1505, 0, none⟩ = some (.int .i64 a1_0) := (kC BK1505.out 0).trans rfl; have hcz14_1 : w11.cell? ⟨gb1505, 1, none⟩ = some (.slice A1_1 l1_1.length c1_1) := (kC BK1505.out 1).trans rfl; have hfz14_0 := kF BK1505.out 0; have hfz14_1 := kF BK1505.out 1))
  go_ret
  exact ⟨by first | rfl | (simp [errW_none, errW_some] <;> rfl) | (simp [*, errW_none, errW_some] <;> rfl), by repeat (first | (with_reducible first | exact HB.out | apply below_alloc | apply bN | apply bD | refine bS ?_ GE1504.out | refine bS ?_ GE1505.out) | exact HB.out)⟩
def qr14In.l0 : Nat → List Int → List Int → Int → Int → List (S37) → Option (List Int)
 | 0, _, _, _, _, _ => none
 | k + 1, x1, x5, x6, x243000, x243001 => if x6 < (x243001.length : Int) then ((qr14Has.f k x1 x6).bind fun t243 => (if t243 = true then (qr14In.l0 k x1 x5 (wrap64 (x6 + 1)) x243000 x243001) else (if x5.length < 17592186044416 then (qr14In.l0 k x1 (x5 ++ [x6]) (wrap64 (x6 + 1)) x243000 x243001) else (none)))) else (some x5)
def qr14In.f (k : Nat) (a0_0 : Int) (l0_1 : List (S37)) (l1 : List Int) : Option (List Int) := qr14In.l0 k l1 ([] : List Int) 0 a0_0 l0_1
set_option maxHeartbeats 8000000 in
set_option maxRecDepth 100000 in
theorem qr14In.calls (k : Nat) (a0_0 : Int) (A0_1 : Option Addr) (c0_1 : Nat) (l0_1 : List (S37)) (A1 : Option Addr) (c1 : Nat) (l1 : List Int) (r : List Int) (w : World) (hr0_1 : Kd.C k37 w A0_1 l0_1.length l0_1) (hc0_1 : l0_1.length ≤ c0_1) (hr1 : Kd.C (Kd.int .i64) w A1 l1.length l1) (hc1 : l1.length ≤ c1) (h : qr14In.f k a0_0 l0_1 l1 = some r) :
  Calls Try.prog 72 #[.agg #[.int .i64 a0_0, .slice A0_1 l0_1.length c0_1], .slice A1 l1.length c1] w fun e w' => ∃ v0_ : Value, e = .returned (v0_) ∧ Kd.R (Kd.int .i64) 3 w' w.heap.size (fun _ => True) v0_ r ∧ Below w.heap.size w w' := by
 have hu24 := Try.underlying24
 have HR0_1 := Z0.mk hr0_1
 have HC0_1 := Z0.mk hc0_1
 clear hr0_1 hc0_1
 have HR1 := Z0.mk hr1
 have HC1 := Z0.mk hc1
 clear hr1 hc1
 have HB := Z0.mk (Below.refl w.heap.size w)
 have H : (qr14In.l0 k l1 ([] : List Int) 0 a0_0 l0_1) = some r := h
 clear h
 have H' := Z0.mk H
 clear H
 go_enter Try.func72, Try.ntmps72
 go_wp2_with (first | ((with_reducible refine gate_dst (N := 2) rfl ?_); refine bE ?hg (N := 2) ?hd (cs := #[.int .i64 a0_0, .slice A0_1 l0_1.length c0_1]) (t := 24) ?hr ?_; (case hd => rfl); (case hg => rfl); (case hr => first | (go_simp; done) | (go_simp; rfl)); intro gb242 hg w3 hbox hb; have n0_ := Z0.mk (bT (by repeat (first | (with_reducible first | exact HB.out | apply below_alloc | apply bN | apply bD) | exact HB.out)) hb); have n1_ := Z0.mk (hbox); have n2_ := Z0.mk ((by rw [hg]; exact (bZ (by repeat (first | (with_reducible first | exact HB.out | apply below_alloc | apply bN | apply bD) | exact HB.out))) : w.heap.size ≤ gb242)); have n3_ := Z0.mk ((by rw [hg]; exact (bZ (by repeat (first | (with_reducible first | exact HB.out | apply below_alloc | apply bN | apply bD) | exact HB.out))) : w.heap.size ≤ gb242)); clear HB; have HB := n0_; have BK242 := n1_; have GW242 := n2_; have GE242 := n3_; clear n0_ n1_ n2_ n3_; clear hb hbox hg))
 go_loopg [5, 6] k (fun kq v5 v6 w' => ∃ (x5_1 : List Int) (x6_1 : Int), v6 = .int .i64 x6_1 ∧ Z0 (qr14In.l0 kq l1 x5_1 x6_1 a0_0 l0_1 = some r) ∧ Z0 (kq ≤ k) ∧ Z0 (Kd.R (Kd.int .i64) 3 w' w.heap.size (fun _ => True) v5 x5_1) ∧ Z0 (w'.heap[gb242]? = some (.cells #[.int .i64 a0_0, (.slice A0_1 l0_1.length c0_1)] 24 (0, 0))) ∧ Z0 (Below w.heap.size w w'))
 case atStart => exact ⟨(([] : List Int)), (0), (by first | rfl | (simp; done) | (simp [*]; done)), H', ⟨Nat.le_refl _⟩, ⟨by first | exact Kd.R_nil _ _ _ _ _ | exact Kd.N_nil _ _ _ _ _ | exact Kd.V_nil _ _ _ _ _ | exact Kd.Q_nil _ _ _ _ _ | exact Kd.S_nil _ _ _ _ _⟩, ⟨by (with_reducible repeat (first | refine kN ?_ _ | refine kD ?_ | refine kA ?_ _)); exact BK242.out⟩, ⟨by repeat (first | (with_reducible first | exact HB.out | apply below_alloc | apply bN | apply bD | refine bS ?_ GE242.out) | exact HB.out)⟩⟩
 case round =>
  clear H'; (try clear c1); (try clear p2)
  obtain ⟨x5_1, x6_1, rfl, HA, HK1, HO_5, BK242, HB⟩ := hrel
  cases gk with
  | zero => exact absurd HA.out (by simp [qr14In.l0])
  | succ k1 =>
   have H := HA.out
   clear HA
   simp only [qr14In.l0] at H
   by_cases c4 : x6_1 < (l0_1.length : Int)
   ·rw [if_pos c4] at H
    have c4b0 : decide (x6_1 < (l0_1.length : Int)) = true := decide_eq_true c4
    clear c4
    replace H := Option.bind_eq_some_iff.mp H
    obtain ⟨t243, A50, H⟩ := H
    replace H : (if t243 = true then (qr14In.l0 k1 l1 x5_1 (wrap64 (x6_1 + 1)) a0_0 l0_1) else (if x5_1.length < 17592186044416 then (qr14In.l0 k1 l1 (x5_1 ++ [x6_1]) (wrap64 (x6_1 + 1)) a0_0 l0_1) else (none))) = some r := H
    have A5 := Z0.mk A50
    clear A50
    by_cases c6 : t243 = true
    ·subst c6
     have H1 : (qr14In.l0 k1 l1 x5_1 (wrap64 (x6_1 + 1)) a0_0 l0_1) = some r := by rw [if_pos rfl] at H; exact H
     clear H
     have H := H1
     clear H1
     have H' := Z0.mk H
     clear H
     have hcz7_0 : wr.cell? ⟨gb242, 0, none⟩ = some (.int .i64 a0_0) := (kC BK242.out 0).trans rfl
     have hcz7_1 : wr.cell? ⟨gb242, 1, none⟩ = some (.slice A0_1 l0_1.length c0_1) := (kC BK242.out 1).trans rfl
     have hfz7_0 := kF BK242.out 0
     have hfz7_1 := kF BK242.out 1
     go_wp2_with (first | ((with_reducible refine gC (f := 97) rfl ?_); refine gL (some 16) rfl rfl Try.func97 (by kernel_rfl) rfl #[.slice A1 l1.length c1, .int .i64 x6_1] rfl (by (try simp only [List.map_toArray, List.map_cons, List.map_nil]); first | done | rfl | (simp only [List.length_drop, List.length_take]; rfl)) ?_; (with_reducible refine (qr14Has.calls k1 _ _ l1 x6_1 true _ ?side1 ?side2 A5.out).mono ?_); (case side1 => repeat (first | exact (Kd.C_below HR1.out HB.out) | (with_reducible refine Kd.C_alloc ?_ _) | (with_reducible refine Kd.C_drewN ?_ _) | (with_reducible refine Kd.C_drew ?_))); (case side2 => exact HC1.out); rintro e w' ⟨rfl, ⟨nd, rfl⟩⟩; refine ⟨_, rfl, ?_⟩))
     go_roundg k1
     case measure => have := HK1.out; omega
     case rel => exact ⟨(x5_1), (wrap64 (x6_1 + 1)), (by first | rfl | (simp; done) | (simp [*]; done)), H', ⟨by have := HK1.out; omega⟩, ⟨by (with_reducible repeat (first | apply Kd.R_alloc | apply Kd.R_drewN | apply Kd.R_drew)); exact HO_5.out⟩, ⟨by (with_reducible repeat (first | refine kN ?_ _ | refine kD ?_ | refine kA ?_ _)); exact BK242.out⟩, ⟨by repeat (first | (with_reducible first | exact HB.out | apply below_alloc | apply bN | apply bD | refine bS ?_ GE242.out) | exact HB.out)⟩⟩
    ·replace c6 := Bool.eq_false_iff.mpr c6
     subst c6
     have H1 : (if x5_1.length < 17592186044416 then (qr14In.l0 k1 l1 (x5_1 ++ [x6_1]) (wrap64 (x6_1 + 1)) a0_0 l0_1) else (none)) = some r := by rw [if_neg (show ¬ (false = true) by decide)] at H; exact H
     clear H
     have H := H1
     clear H1
     by_cases c8 : x5_1.length < 17592186044416
     ·rw [if_pos c8] at H
      have LMc8 := Z0.mk c8
      clear c8
      obtain ⟨y244, hy244⟩ : ∃ y_ : List Int, y_ = (x5_1 ++ [x6_1]) := ⟨_, rfl⟩
      replace H : (qr14In.l0 k1 l1 y244 (wrap64 (x6_1 + 1)) a0_0 l0_1) = some r := by first | (rw [hy244]; with_reducible exact H) | (have H2_ := (Option.bind_some _ _).symm.trans H; rw [hy244]; with_reducible exact H2_) | (have H2_ := (Option.bind_some _ _).symm.trans H; with_reducible exact H2_) | with_reducible exact H | (rw [hy244]; exact H) | exact H
      have Ny244 := Z0.mk hy244
      clear hy244
      have H' := Z0.mk H
      clear H
      have hcz9_0 : wr.cell? ⟨gb242, 0, none⟩ = some (.int .i64 a0_0) := (kC BK242.out 0).trans rfl
      have hcz9_1 : wr.cell? ⟨gb242, 1, none⟩ = some (.slice A0_1 l0_1.length c0_1) := (kC BK242.out 1).trans rfl
      have hfz9_0 := kF BK242.out 0
      have hfz9_1 := kF BK242.out 1
      go_wp2_with (first | ((with_reducible refine gC (f := 97) rfl ?_); refine gL (some 16) rfl rfl Try.func97 (by kernel_rfl) rfl #[.slice A1 l1.length c1, .int .i64 x6_1] rfl (by (try simp only [List.map_toArray, List.map_cons, List.map_nil]); first | done | rfl | (simp only [List.length_drop, List.length_take]; rfl)) ?_; (with_reducible refine (qr14Has.calls k1 _ _ l1 x6_1 false _ ?side1 ?side2 A5.out).mono ?_); (case side1 => repeat (first | exact (Kd.C_below HR1.out HB.out) | (with_reducible refine Kd.C_alloc ?_ _) | (with_reducible refine Kd.C_drewN ?_ _) | (with_reducible refine Kd.C_drew ?_))); (case side2 => exact HC1.out); rintro e w' ⟨rfl, ⟨nd, rfl⟩⟩; refine ⟨_, rfl, ?_⟩) | ((with_reducible refine gate_builtin (b := .append) (xs := #[.tmp 18, .tmp 20]) rfl ?_); at_builtin; refine Kd.R_append (Kd.int .i64) (w0 := w) w.heap.size rfl (.tmp 18) (.tmp 20) 25 3 (.int .i64 0) 8 rfl Try.underlying25 info3 rfl (by decide) (by omega) u5 x5_1 x6_1 [.int .i64 x6_1] (fun _ => True) (fun _ => False) rfl rfl ?aP (fun _ hk => hk.elim) ?aF ?aO ?aB ?aS ?aL ?_; (case aP => exact rfl); (case aB => exact (by repeat (first | (with_reducible first | exact HB.out | apply below_alloc | apply bN | apply bD | refine bS ?_ GE242.out) | exact HB.out))); (case aF => exact (fun _ _ => trivial)); (case aO => exact (by (with_reducible repeat (first | apply Kd.R_alloc | apply Kd.R_drewN | apply Kd.R_drew)); exact HO_5.out)); (case aS => exact (bZ (by repeat (first | (with_reducible first | exact HB.out | apply below_alloc | apply bN | apply bD | refine bS ?_ GE242.out) | exact HB.out)))); (case aL => have := LMc8.out; omega); intro v245 w10 ho hb hg hat; rw [← Ny244.out] at ho; have n0_ := Z0.mk (blk_grown (g := gb242) (o := .cells #[.int .i64 a0_0, .slice A0_1 l0_1.length c0_1] 24 (0, 0)) (by (with_reducible repeat (first | refine kN ?_ _ | refine kD ?_ | refine kA ?_ _)); exact BK242.out) hg (Kd.R_ne HO_5.out BK242.out (by decide))); have n1_ := Z0.mk (hb); have n2_ := Z0.mk (ho); clear BK242; clear HB; clear HO_5; have BK242 := n0_; have HB := n1_; have HO246 := n2_; clear n0_ n1_ n2_; clear ho hb hg hat))
      go_roundg k1
      case measure => have := HK1.out; omega
      case rel => exact ⟨(y244), (wrap64 (x6_1 + 1)), (by first | rfl | (simp; done) | (simp [*]; done)), H', ⟨by have := HK1.out; omega⟩, ⟨by (with_reducible repeat (first | apply Kd.R_alloc | apply Kd.R_drewN | apply Kd.R_drew)); exact HO246.out⟩, ⟨by (with_reducible repeat (first | refine kN ?_ _ | refine kD ?_ | refine kA ?_ _)); exact BK242.out⟩, ⟨by repeat (first | (with_reducible first | exact HB.out | apply below_alloc | apply bN | apply bD | refine bS ?_ GE242.out) | exact HB.out)⟩⟩
     ·rw [if_neg c8] at H
      exact absurd H (by simp)
   ·rw [if_neg c4] at H
    have c4b0 : decide (x6_1 < (l0_1.length : Int)) = false := decide_eq_false c4
    clear c4
    obtain rfl := Option.some.inj H
    have hcz11_0 : wr.cell? ⟨gb242, 0, none⟩ = some (.int .i64 a0_0) := (kC BK242.out 0).trans rfl
    have hcz11_1 : wr.cell? ⟨gb242, 1, none⟩ = some (.slice A0_1 l0_1.length c0_1) := (kC BK242.out 1).trans rfl
    have hfz11_0 := kF BK242.out 0
    have hfz11_1 := kF BK242.out 1
    go_wp2
    go_ret
    exact ⟨_, by first | rfl | (simp [errW_none, errW_some] <;> rfl) | (simp [*, errW_none, errW_some] <;> rfl), by (with_reducible repeat (first | apply Kd.R_alloc | apply Kd.R_drewN | apply Kd.R_drew)); exact HO_5.out, by repeat (first | (with_reducible first | exact HB.out | apply below_alloc | apply bN | apply bD | refine bS ?_ GE242.out) | exact HB.out)⟩
def qr14Strip.l0 : Nat → List Int → Int → Int → List (S37) → Int → List (S37) → Option (Int × (List (S37)) × List Int)
 | 0, _, _, _, _, _, _ => none
 | k + 1, x6, x8, x1571000, x1571001, x1576000, x1576001 => if x8 < (x6.length : Int) then (if 0 ≤ x8 then (if 0 ≤ (rd x6 x8) then (if (rd x6 x8) < (x1571001.length : Int) then (if x1576001.length < 4398046511104 then (qr14Strip.l0 k x6 (wrap64 (x8 + 1)) x1571000 x1571001 x1576000 (x1576001 ++ [(⟨(rd_T37 x1571001 (rd x6 x8)).f0, (rd_T37 x1571001 (rd x6 x8)).f1, (rd_T37 x1571001 (rd x6 x8)).f2, (rd_T37 x1571001 (rd x6 x8)).f3⟩ : S37)])) else (none)) else (none)) else (none)) else (none)) else (some (x1576000, x1576001, x6))
def qr14Strip.f (k : Nat) (a0_0 : Int) (l0_1 : List (S37)) (l1 : List Int) : Option (Int × (List (S37)) × List Int) := (qr14In.f k a0_0 l0_1 l1).bind fun t1572 => (qr14Strip.l0 k t1572 0 a0_0 l0_1 a0_0 ([] : List (S37)))
def qr14Strip.T6 : Bool × List (List Nat × List Nat) := (true, [([], []), ([0], [0]), ([], []), ([2], [2]), ([], []), ([], []), ([4, 5], [4, 5]), ([6], [6]), ([3, 7], [3, 7]), ([8], [8]), ([9], [9]), ([1, 10], [1, 10]), ([0, 1, 2, 3, 4, 5, 6, 7, 8, 9, 10, 11], []), ([12, 11, 11, 0, 1, 2, 3, 4, 5, 6, 7, 8, 9, 10, 11], [11, 12])])
def qr14Strip.B6 : List Nat := [0, 1, 0, 4, 0, 0, 48, 112, 252, 508, 1020, 2047, 4095, 8191]
theorem qr14Strip.tab6 : rtab .any (opsOf Try.f79 6) = qr14Strip.T6 := by kernel_rfl
theorem qr14Strip.bits6 : waitsOk qr14Strip.T6.2 qr14Strip.B6 = true := by kernel_rfl
set_option maxHeartbeats 8000000 in
set_option maxRecDepth 100000 in
theorem qr14Strip.calls (k : Nat) (a0_0 : Int) (A0_1 : Option Addr) (c0_1 : Nat) (l0_1 : List (S37)) (A1 : Option Addr) (c1 : Nat) (l1 : List Int) (r1 : Int) (r2 : List (S37)) (r3 : List Int) (w : World) (hr0_1 : Kd.C k37 w A0_1 l0_1.length l0_1) (hc0_1 : l0_1.length ≤ c0_1) (hr1 : Kd.C (Kd.int .i64) w A1 l1.length l1) (hc1 : l1.length ≤ c1) (h : qr14Strip.f k a0_0 l0_1 l1 = some (r1, r2, r3)) :
  Calls Try.prog 79 #[.agg #[.int .i64 a0_0, .slice A0_1 l0_1.length c0_1], .slice A1 l1.length c1] w fun e w' => ∃ v1_ v2_ : Value, e = .returned (.tuple #[.agg #[.int .i64 r1, v1_], v2_]) ∧ Kd.R k37 37 w' w.heap.size (fun _ => True) v1_ r2 ∧ Kd.R (Kd.int .i64) 3 w' w.heap.size (fun _ => True) v2_ r3 ∧ Below w.heap.size w w' := by
 have hu24 := Try.underlying24
 have hu37 := Try.underlying37
 have HR0_1 := Z0.mk hr0_1
 have HC0_1 := Z0.mk hc0_1
 clear hr0_1 hc0_1
 have HR1 := Z0.mk hr1
 have HC1 := Z0.mk hc1
 clear hr1 hc1
 have HB := Z0.mk (Below.refl w.heap.size w)
 have H : ((qr14In.f k a0_0 l0_1 l1).bind fun t1572 => (qr14Strip.l0 k t1572 0 a0_0 l0_1 a0_0 ([] : List (S37)))) = some (r1, r2, r3) := h
 clear h
 replace H := Option.bind_eq_some_iff.mp H
 obtain ⟨t1572, A30, H⟩ := H
 replace H : (qr14Strip.l0 k t1572 0 a0_0 l0_1 a0_0 ([] : List (S37))) = some (r1, r2, r3) := H
 have A3 := Z0.mk A30
 clear A30
 have H' := Z0.mk H
 clear H
 go_enter Try.func79, Try.ntmps79
 go_wp2_with (first | ((with_reducible refine gate_dst (N := 2) rfl ?_); refine bE ?hg (N := 2) ?hd (cs := #[.int .i64 a0_0, .slice A0_1 l0_1.length c0_1]) (t := 24) ?hr ?_; (case hd => rfl); (case hg => rfl); (case hr => first | (go_simp; done) | (go_simp; rfl)); intro gb1570 hg w4 hbox hb; have n0_ := Z0.mk (bT (by repeat (first | (with_reducible first | exact HB.out | apply below_alloc | apply bN | apply bD) | exact HB.out)) hb); have n1_ := Z0.mk (hbox); have n2_ := Z0.mk ((by rw [hg]; exact (bZ (by repeat (first | (with_reducible first | exact HB.out | apply below_alloc | apply bN | apply bD) | exact HB.out))) : w.heap.size ≤ gb1570)); have n3_ := Z0.mk ((by rw [hg]; exact (bZ (by repeat (first | (with_reducible first | exact HB.out | apply below_alloc | apply bN | apply bD) | exact HB.out))) : w.heap.size ≤ gb1570)); clear HB; have HB := n0_; have BK1570 := n1_; have GW1570 := n2_; have GE1570 := n3_; clear n0_ n1_ n2_ n3_; clear hb hbox hg) | ((with_reducible refine gate_dst (N := 4) rfl ?_); refine bE ?hg (N := 4) ?hd (cs := #[.int .i64 0, .slice none 0 0]) (t := 24) ?hr ?_; (case hd => rfl); (case hg => rfl); (case hr => first | (go_simp; done) | (go_simp; rfl)); intro gb1571 hg w5 hbox hb; have n0_ := Z0.mk (kB (g := gb1570) (o := .cells #[.int .i64 a0_0, .slice A0_1 l0_1.length c0_1] 24 (0, 0)) (by (with_reducible repeat (first | refine kN ?_ _ | refine kD ?_ | refine kA ?_ _)); exact BK1570.out) hb); have n1_ := Z0.mk (bT (by repeat (first | (with_reducible first | exact HB.out | apply below_alloc | apply bN | apply bD | refine bS ?_ GE1570.out) | exact HB.out)) hb); have n2_ := Z0.mk (hbox); have n3_ := Z0.mk ((by rw [hg]; exact (bZ (by repeat (first | (with_reducible first | exact HB.out | apply below_alloc | apply bN | apply bD | refine bS ?_ GE1570.out) | exact HB.out))) : w.heap.size ≤ gb1571)); have n4_ := Z0.mk ((by rw [hg]; exact (bZ (by repeat (first | (with_reducible first | exact HB.out | apply below_alloc | apply bN | apply bD | refine bS ?_ GE1570.out) | exact HB.out))) : w.heap.size ≤ gb1571)); have n5_ := Z0.mk ((by rw [hg]; exact Nat.ne_of_lt (blk_lt (g := gb1570) (o := .cells #[.int .i64 a0_0, .slice A0_1 l0_1.length c0_1] 24 (0, 0)) (by (with_reducible repeat (first | refine kN ?_ _ | refine kD ?_ | refine kA ?_ _)); exact BK1570.out)) : gb1570 ≠ gb1571)); have n6_ := Z0.mk ((by rw [hg]; exact Nat.ne_of_gt (blk_lt (g := gb1570) (o := .cells #[.int .i64 a0_0, .slice A0_1 l0_1.length c0_1] 24 (0, 0)) (by (with_reducible repeat (first | refine kN ?_ _ | refine kD ?_ | refine kA ?_ _)); exact BK1570.out)) : gb1571 ≠ gb1570)); clear BK1570; clear HB; have BK1570 := n0_; have HB := n1_; have BK1571 := n2_; have GW1571 := n3_; have GE1571 := n4_; have NB1570_1571 := n5_; have NB1571_1570 := n6_; clear n0_ n1_ n2_ n3_ n4_ n5_ n6_; clear hb hbox hg; have hnb6 := NB1570_1571.out; have hnc6 := NB1571_1570.out; have hcz7_0 : w5.cell? ⟨gb1570, 0, none⟩ = some (.int .i64 a0_0) := (kC BK1570.out 0).trans rfl; have hcz7_1 : w5.cell? ⟨gb1570, 1, none⟩ = some (.slice A0_1 l0_1.length c0_1) := (kC BK1570.out 1).trans rfl; have hfz7_0 := kF BK1570.out 0; have hfz7_1 := kF BK1570.out 1) | ((with_reducible refine gC (f := 72) rfl ?_); refine gL (some 11) rfl rfl Try.func72 (by kernel_rfl) rfl #[.agg #[.int .i64 a0_0, .slice A0_1 l0_1.length c0_1], .slice A1 l1.length c1] rfl (by (try simp only [List.map_toArray, List.map_cons, List.map_nil]); first | done | rfl | (simp only [List.length_drop, List.length_take]; rfl)) ?_; (with_reducible refine (qr14In.calls k a0_0 _ _ l0_1 _ _ l1 t1572 _ ?side1 ?side2 ?side3 ?side4 A3.out).mono ?_); (case side1 => repeat (first | exact (Kd.C_below HR0_1.out HB.out) | (with_reducible refine Kd.C_alloc ?_ _) | (with_reducible refine Kd.C_drewN ?_ _) | (with_reducible refine Kd.C_drew ?_))); (case side2 => exact HC0_1.out); (case side3 => repeat (first | exact (Kd.C_below HR1.out HB.out) | (with_reducible refine Kd.C_alloc ?_ _) | (with_reducible refine Kd.C_drewN ?_ _) | (with_reducible refine Kd.C_drew ?_))); (case side4 => exact HC1.out); rintro e w8 ⟨v1573, rfl, ho0, hb⟩; refine ⟨_, rfl, ?_⟩; have n0_ := Z0.mk (Kd.R_lower ho0 (bZ (by repeat (first | (with_reducible first | exact HB.out | apply below_alloc | apply bN | apply bD | refine bS ?_ GE1570.out | refine bS ?_ GE1571.out) | exact HB.out)))); have n1_ := Z0.mk (kB (g := gb1570) (o := .cells #[.int .i64 a0_0, .slice A0_1 l0_1.length c0_1] 24 (0, 0)) (by (with_reducible repeat (first | refine kN ?_ _ | refine kD ?_ | refine kA ?_ _)); exact BK1570.out) hb); have n2_ := Z0.mk (kB (g := gb1571) (o := .cells #[.int .i64 0, .slice none 0 0] 24 (0, 0)) (by (with_reducible repeat (first | refine kN ?_ _ | refine kD ?_ | refine kA ?_ _)); exact BK1571.out) hb); have n3_ := Z0.mk (bT (by repeat (first | (with_reducible first | exact HB.out | apply below_alloc | apply bN | apply bD | refine bS ?_ GE1570.out | refine bS ?_ GE1571.out) | exact HB.out)) hb); clear BK1570; clear BK1571; clear HB; have HO1574 := n0_; have BK1570 := n1_; have BK1571 := n2_; have HB := n3_; clear n0_ n1_ n2_ n3_; (try clear hb); (try clear hb2); (try clear hk); (try clear hi); (try clear ho0); have hcz9_0 : w8.cell? ⟨gb1570, 0, none⟩ = some (.int .i64 a0_0) := (kC BK1570.out 0).trans rfl; have hcz9_1 : w8.cell? ⟨gb1570, 1, none⟩ = some (.slice A0_1 l0_1.length c0_1) := (kC BK1570.out 1).trans rfl; have hfz9_0 := kF BK1570.out 0; have hfz9_1 := kF BK1570.out 1) | ((with_reducible refine gate_dst (N := 7) rfl ?_); refine bE ?hg (N := 7) ?hd (cs := #[.int .i64 0, .slice none 0 0]) (t := 24) ?hr ?_; (case hd => rfl); (case hg => rfl); (case hr => first | (go_simp; done) | (go_simp; rfl)); intro gb1575 hg w10 hbox hb; have n0_ := Z0.mk (Kd.R_below (by (with_reducible repeat (first | apply Kd.R_alloc | apply Kd.R_drewN | apply Kd.R_drew)); exact HO1574.out) hb); have n1_ := Z0.mk (kB (g := gb1570) (o := .cells #[.int .i64 a0_0, .slice A0_1 l0_1.length c0_1] 24 (0, 0)) (by (with_reducible repeat (first | refine kN ?_ _ | refine kD ?_ | refine kA ?_ _)); exact BK1570.out) hb); have n2_ := Z0.mk (kB (g := gb1571) (o := .cells #[.int .i64 0, .slice none 0 0] 24 (0, 0)) (by (with_reducible repeat (first | refine kN ?_ _ | refine kD ?_ | refine kA ?_ _)); exact BK1571.out) hb); have n3_ := Z0.mk (bT (by repeat (first | (with_reducible first | exact HB.out | apply below_alloc | apply bN | apply bD | refine bS ?_ GE1570.out | refine bS ?_ GE1571.out) | exact HB.out)) hb); have n4_ := Z0.mk (hbox); have n5_ := Z0.mk ((by rw [hg]; exact (bZ (by repeat (first | (with_reducible first | exact HB.out | apply below_alloc | apply bN | apply bD | refine bS ?_ GE1570.out | refine bS ?_ GE1571.out) | exact HB.out))) : w.heap.size ≤ gb1575)); have n6_ := Z0.mk ((by rw [hg]; exact (bZ (by repeat (first | (with_reducible first | exact HB.out | apply below_alloc | apply bN | apply bD | refine bS ?_ GE1570.out | refine bS ?_ GE1571.out) | exact HB.out))) : w.heap.size ≤ gb1575)); have n7_ := Z0.mk ((by rw [hg]; exact Nat.ne_of_lt (blk_lt (g := gb1570) (o := .cells #[.int .i64 a0_0, .slice A0_1 l0_1.length c0_1] 24 (0, 0)) (by (with_reducible repeat (first | refine kN ?_ _ | refine kD ?_ | refine kA ?_ _)); exact BK1570.out)) : gb1570 ≠ gb1575)); have n8_ := Z0.mk ((by rw [hg]; exact Nat.ne_of_gt (blk_lt (g := gb1570) (o := .cells #[.int .i64 a0_0, .slice A0_1 l0_1.length c0_1] 24 (0, 0)) (by (with_reducible repeat (first | refine kN ?_ _ | refine kD ?_ | refine kA ?_ _)); exact BK1570.out)) : gb1575 ≠ gb1570)); have n9_ := Z0.mk ((by rw [hg]; exact Nat.ne_of_lt (blk_lt (g := gb1571) (o := .cells #[.int .i64 0, .slice none 0 0] 24 (0, 0)) (by (with_reducible repeat (first | refine kN ?_ _ | refine kD ?_ | refine kA ?_ _)); exact BK1571.out)) : gb1571 ≠ gb1575)); have n10_ := Z0.mk ((by rw [hg]; exact Nat.ne_of_gt (blk_lt (g := gb1571) (o := .cells #[.int .i64 0, .slice none 0 0] 24 (0, 0)) (by (with_reducible repeat (first | refine kN ?_ _ | refine kD ?_ | refine kA ?_ _)); exact BK1571.out)) : gb1575 ≠ gb1571)); clear HO1574; clear BK1570; clear BK1571; clear HB; have HO1574 := n0_; have BK1570 := n1_; have BK1571 := n2_; have HB := n3_; have BK1575 := n4_; have GW1575 := n5_; have GE1575 := n6_; have NB1570_1575 := n7_; have NB1575_1570 := n8_; have NB1571_1575 := n9_; have NB1575_1571 := n10_; clear n0_ n1_ n2_ n3_ n4_ n5_ n6_ n7_ n8_ n9_ n10_; clear hb hbox hg; have hnb11 := NB1575_1570.out; have hnc11 := NB1570_1575.out; have hnb12 := NB1575_1571.out; have hnc12 := NB1571_1575.out; have hcz13_0 : w10.cell? ⟨gb1575, 0, none⟩ = some (.int .i64 0) := (kC BK1575.out 0).trans rfl; have hcz13_1 : w10.cell? ⟨gb1575, 1, none⟩ = some (.slice none 0 0) := (kC BK1575.out 1).trans rfl; have hfz13_0 := kF BK1575.out 0; have hfz13_1 := kF BK1575.out 1))
 go_loopg [8] k (fun kq v8 w' => ∃ (x8_1 : Int) (x1576001_1 : List (S37)) (u1576001 : Value), v8 = .int .i64 x8_1 ∧ Z0 (qr14Strip.l0 kq t1572 x8_1 a0_0 l0_1 a0_0 x1576001_1 = some (r1, r2, r3)) ∧ Z0 (kq ≤ k) ∧ Z0 (Kd.R (Kd.int .i64) 3 w' w.heap.size (fun _ => True) v1573 t1572) ∧ Z0 (Kd.R k37 37 w' w.heap.size (fun _ => True) u1576001 x1576001_1) ∧ Z0 (w'.heap[gb1570]? = some (.cells #[.int .i64 a0_0, (.slice A0_1 l0_1.length c0_1)] 24 (0, 0))) ∧ Z0 (w'.heap[gb1571]? = some (.cells #[.int .i64 0, (.slice none 0 0)] 24 (0, 0))) ∧ Z0 (w'.heap[gb1575]? = some (.cells #[.int .i64 a0_0, u1576001] 24 (0, 0))) ∧ Z0 (Below w.heap.size w w'))
 case atStart => exact ⟨(0), (([] : List (S37))), (.slice none 0 0), (by first | rfl | (simp; done) | (simp [*]; done)), H', ⟨Nat.le_refl _⟩, ⟨by (with_reducible repeat (first | apply Kd.R_alloc | apply Kd.R_drewN | apply Kd.R_drew)); exact Kd.R_mono (Kd.R_far (p := ⟨gb1575, 1, none⟩) (Kd.R_far (p := ⟨gb1575, 0, none⟩) (Kd.R_types HO1574.out BK1575.out (by decide)) (fun _ hk => hk.2) (.int .i64 a0_0)) (fun _ hk => hk.2) (.slice none 0 0)) (fun _ hk => trivial)⟩, ⟨by first | exact Kd.R_nil _ _ _ _ _ | exact Kd.N_nil _ _ _ _ _ | exact Kd.V_nil _ _ _ _ _ | exact Kd.Q_nil _ _ _ _ _ | exact Kd.S_nil _ _ _ _ _⟩, ⟨by (with_reducible repeat (first | refine kN ?_ _ | refine kD ?_ | refine kA ?_ _)); refine kR ?_ NB1570_1575.out _; (with_reducible repeat (first | refine kN ?_ _ | refine kD ?_ | refine kA ?_ _)); refine kR ?_ NB1570_1575.out _; (with_reducible repeat (first | refine kN ?_ _ | refine kD ?_ | refine kA ?_ _)); exact BK1570.out⟩, ⟨by (with_reducible repeat (first | refine kN ?_ _ | refine kD ?_ | refine kA ?_ _)); refine kR ?_ NB1571_1575.out _; (with_reducible repeat (first | refine kN ?_ _ | refine kD ?_ | refine kA ?_ _)); refine kR ?_ NB1571_1575.out _; (with_reducible repeat (first | refine kN ?_ _ | refine kD ?_ | refine kA ?_ _)); exact BK1571.out⟩, ⟨by (with_reducible repeat (first | refine kN ?_ _ | refine kD ?_ | refine kA ?_ _)); refine kP (cs := #[.int .i64 a0_0, .slice none 0 0]) ?_ 1 _ rfl; (with_reducible repeat (first | refine kN ?_ _ | refine kD ?_ | refine kA ?_ _)); refine kP (cs := #[.int .i64 0, .slice none 0 0]) ?_ 0 _ rfl; (with_reducible repeat (first | refine kN ?_ _ | refine kD ?_ | refine kA ?_ _)); exact BK1575.out⟩, ⟨by repeat (first | (with_reducible first | exact HB.out | apply below_alloc | apply bN | apply bD | refine bS ?_ GE1570.out | refine bS ?_ GE1571.out | refine bS ?_ GE1575.out) | exact HB.out)⟩⟩
 case round =>
  clear H'; (try clear c1); (try clear p2); (try clear c6); (try clear c7); (try clear c11); (try clear c12); (try clear hcz13_0); (try clear hcz13_1); (try clear hcz7_0); (try clear hcz7_1); (try clear hcz9_0); (try clear hcz9_1); (try clear hfz13_0); (try clear hfz13_1); (try clear hfz7_0); (try clear hfz7_1); (try clear hfz9_0); (try clear hfz9_1)
  obtain ⟨x8_1, x1576001_1, u1576001, rfl, HA, HK1, HO_6, HO_1576001, BK1570, BK1571, BK1575, HB⟩ := hrel
  cases gk with
  | zero => exact absurd HA.out (by simp [qr14Strip.l0])
  | succ k1 =>
   have H := HA.out
   clear HA
   simp only [qr14Strip.l0] at H
   by_cases c14 : x8_1 < (t1572.length : Int)
   ·rw [if_pos c14] at H
    have c14b0 : decide (x8_1 < (t1572.length : Int)) = true := decide_eq_true c14
    clear c14
    by_cases c15 : 0 ≤ x8_1
    ·rw [if_pos c15] at H
     have c15b0 : decide (0 ≤ x8_1) = true := decide_eq_true c15
     clear c15
     by_cases c16 : 0 ≤ (rd t1572 x8_1)
     ·rw [if_pos c16] at H
      have c16b0 : decide (0 ≤ (rd t1572 x8_1)) = true := decide_eq_true c16
      clear c16
      by_cases c17 : (rd t1572 x8_1) < (l0_1.length : Int)
      ·rw [if_pos c17] at H
       have c17b0 : decide ((rd t1572 x8_1) < (l0_1.length : Int)) = true := decide_eq_true c17
       clear c17
       by_cases c18 : x1576001_1.length < 4398046511104
       ·rw [if_pos c18] at H
        have LMc18 := Z0.mk c18
        clear c18
        obtain ⟨y1578, hy1578⟩ : ∃ y_ : List (S37), y_ = (x1576001_1 ++ [(⟨(rd_T37 l0_1 (rd t1572 x8_1)).f0, (rd_T37 l0_1 (rd t1572 x8_1)).f1, (rd_T37 l0_1 (rd t1572 x8_1)).f2, (rd_T37 l0_1 (rd t1572 x8_1)).f3⟩ : S37)]) := ⟨_, rfl⟩
        replace H : (qr14Strip.l0 k1 t1572 (wrap64 (x8_1 + 1)) a0_0 l0_1 a0_0 y1578) = some (r1, r2, r3) := by first | (rw [hy1578]; with_reducible exact H) | (have H2_ := (Option.bind_some _ _).symm.trans H; rw [hy1578]; with_reducible exact H2_) | (have H2_ := (Option.bind_some _ _).symm.trans H; with_reducible exact H2_) | with_reducible exact H | (rw [hy1578]; exact H) | exact H
        have Ny1578 := Z0.mk hy1578
        clear hy1578
        have H' := Z0.mk H
        clear H
        obtain ⟨Ao19, co19, eo19⟩ := Kd.R_slice HO_6.out
        subst eo19
        try go_wp2
        have n0_ := Z0.mk (Kd.R_drew HO_6.out)
        have n1_ := Z0.mk (Kd.R_drew HO_1576001.out)
        have n2_ := Z0.mk (kD BK1570.out)
        have n3_ := Z0.mk (kD BK1571.out)
        have n4_ := Z0.mk (kD BK1575.out)
        have n5_ := Z0.mk (bD HB.out)
        clear HO_6; clear HO_1576001; clear BK1570; clear BK1571; clear BK1575; clear HB
        have HO_6 := n0_
        have HO_1576001 := n1_
        have BK1570 := n2_
        have BK1571 := n3_
        have BK1575 := n4_
        have HB := n5_
        clear n0_ n1_ n2_ n3_ n4_ n5_
        have p1576 : 0 ≤ (x8_1 : Int) := of_decide_eq_true (by first | (with_reducible assumption) | assumption)
        have q1576 : x8_1 < (t1572.length : Int) := of_decide_eq_true (by first | (with_reducible assumption) | assumption)
        obtain ⟨ad1576, e1576, hx1576_0⟩ := Kd.at_int (Kd.R_reads' HO_6.out).2.2 x8_1 p1576 q1576
        cases e1576
        replace p1576 := eq_true p1576
        replace q1576 := eq_true q1576
        have p1577 : 0 ≤ ((rd t1572 x8_1) : Int) := of_decide_eq_true (by first | (with_reducible assumption) | assumption)
        have q1577 : (rd t1572 x8_1) < (l0_1.length : Int) := of_decide_eq_true (by first | (with_reducible assumption) | assumption)
        obtain ⟨ad1577, e1577, hx1577_0, hx1577_1, hx1577_2, hx1577_3⟩ := at_T37 HR0_1.out (rd t1572 x8_1) p1577 q1577
        have hw1577_3 := hx1577_3
        have hw1577_2 := hx1577_2
        have hw1577_1 := hx1577_1
        have hw1577_0 := hx1577_0
        cases e1577
        replace hx1577_0 := (HB.out.cell (World.block_lt_of_cell? w _ hx1577_0)).trans hx1577_0
        replace hx1577_1 := (HB.out.cell (World.block_lt_of_cell? w _ hx1577_1)).trans hx1577_1
        replace hx1577_2 := (HB.out.cell (World.block_lt_of_cell? w _ hx1577_2)).trans hx1577_2
        replace hx1577_3 := (HB.out.cell (World.block_lt_of_cell? w _ hx1577_3)).trans hx1577_3
        replace p1577 := eq_true p1577
        replace q1577 := eq_true q1577
        refine start_ (n := 14) (S := fun w' => w'.cell? ⟨gb1575, 0, none⟩ = some (.int .i64 a0_0) ∧ w'.cell? ⟨gb1575, 1, none⟩ = some (u1576001) ∧ w'.cell? ⟨gb1570, 0, none⟩ = some (.int .i64 a0_0) ∧ w'.cell? ⟨gb1570, 1, none⟩ = some (.slice (some ad1577) l0_1.length c0_1) ∧ w'.cell? (ad1576.add (x8_1).toNat) = some (.int .i64 (rd t1572 x8_1)) ∧ w'.cell? (ad1577.add (((rd t1572 x8_1)).toNat * 4)) = some (.int .i64 ((rd_T37 l0_1 (rd t1572 x8_1)).f0)) ∧ w'.cell? ⟨(ad1577.add (((rd t1572 x8_1)).toNat * 4)).block, (ad1577.add (((rd t1572 x8_1)).toNat * 4)).off + 1, none⟩ = some (.int .i64 ((rd_T37 l0_1 (rd t1572 x8_1)).f1)) ∧ w'.cell? ⟨(ad1577.add (((rd t1572 x8_1)).toNat * 4)).block, (ad1577.add (((rd t1572 x8_1)).toNat * 4)).off + 2, none⟩ = some (.int .i64 ((rd_T37 l0_1 (rd t1572 x8_1)).f2)) ∧ w'.cell? ⟨(ad1577.add (((rd t1572 x8_1)).toNat * 4)).block, (ad1577.add (((rd t1572 x8_1)).toNat * 4)).off + 3, none⟩ = some (.int .i64 ((rd_T37 l0_1 (rd t1572 x8_1)).f3))) (ds := [11, 13]) #[false,false,false,false,false,false,false,false,false,false,false,false,false,false] (by kernel_rfl) rfl rfl ⟨(kC BK1575.out 0).trans rfl, (kC BK1575.out 1).trans rfl, (kC BK1570.out 0).trans rfl, (kC BK1570.out 1).trans rfl, hx1576_0, ((HB.out.cell (World.block_lt_of_cell? w _ hw1577_0)).trans hw1577_0), ((HB.out.cell (World.block_lt_of_cell? w _ hw1577_1)).trans hw1577_1), ((HB.out.cell (World.block_lt_of_cell? w _ hw1577_2)).trans hw1577_2), ((HB.out.cell (World.block_lt_of_cell? w _ hw1577_3)).trans hw1577_3)⟩ (fun hHeld => ?_); refine with_tabW qr14Strip.tab6 qr14Strip.bits6 (fun HT_ HW_ => ?_)
        generalize wr.drew = w20 at HO_6 HO_1576001 BK1570 BK1571 BK1575 HB hx1576_0 hx1577_0 hx1577_1 hx1577_2 hx1577_3 hHeld ⊢
        refine pure_ (i := 0) (N := some 21) (v := ?_) (a' := ?_) #[true,false,false,false,false,false,false,false,false,false,false,false,false,false] rfl rfl (any_of HT_.out (by kernel_rfl)) (fun _ _ _ h => h) (Or.inl ⟨by rfl, ?_⟩) ?_ ?_
        rotate_left; (intro w'; go_simp; with_reducible rfl); rotate_left; (simp only [Act.put, List.setIfInBounds_toArray, List.set_cons_zero, List.set_cons_succ, i64_w, i32_w]; rfl)
        refine pure_ (i := 2) (N := some 23) (v := ?_) (a' := ?_) #[true,false,true,false,false,false,false,false,false,false,false,false,false,false] rfl rfl (any_of HT_.out (by kernel_rfl)) (fun _ _ _ h => h) (Or.inl ⟨by rfl, ?_⟩) ?_ ?_
        rotate_left; (intro w'; go_simp; with_reducible rfl); rotate_left; (simp only [Act.put, List.setIfInBounds_toArray, List.set_cons_zero, List.set_cons_succ, i64_w, i32_w]; rfl)
        refine pure_ (i := 4) (N := some 25) (v := ?_) (a' := ?_) #[true,false,true,false,true,false,false,false,false,false,false,false,false,false] rfl rfl (any_of HT_.out (by kernel_rfl)) (fun _ _ _ h => h) (Or.inl ⟨by rfl, ?_⟩) ?_ ?_
        rotate_left; (intro w'; go_simp; with_reducible rfl); rotate_left; (simp only [Act.put, List.setIfInBounds_toArray, List.set_cons_zero, List.set_cons_succ, i64_w, i32_w]; rfl)
        refine pure_ (i := 5) (N := some 26) (v := ?_) (a' := ?_) #[true,false,true,false,true,true,false,false,false,false,false,false,false,false] rfl rfl (any_of HT_.out (by kernel_rfl)) (fun _ _ _ h => h) (Or.inl ⟨by rfl, ?_⟩) ?_ ?_
        rotate_left; (intro w'; go_simp; with_reducible rfl); rotate_left; (simp only [Act.put, List.setIfInBounds_toArray, List.set_cons_zero, List.set_cons_succ, i64_w, i32_w]; rfl)
        refine pure_ (i := 6) (N := some 27) (v := ?_) (a' := ?_) #[true,false,true,false,true,true,true,false,false,false,false,false,false,false] rfl rfl (any_of HT_.out (by kernel_rfl)) (fun _ _ _ h => h) (Or.inl ⟨by rfl, ?_⟩) ?_ ?_
        rotate_left; (intro w'; go_simp; with_reducible rfl); rotate_left; (simp only [Act.put, List.setIfInBounds_toArray, List.set_cons_zero, List.set_cons_succ, i64_w, i32_w]; rfl)
        refine take_ (i := 1) (N := some 22) (v := ?_) (a' := ?_) #[true,true,true,false,true,true,true,false,false,false,false,false,false,false] rfl rfl (take_ofW HT_.out HW_.out (by kernel_rfl)) (fun _ _ _ h => h) (Or.inl ⟨by rfl, ?_⟩) hHeld ?_ ?_
        rotate_left; (rintro w' ⟨s0, s1, s2, s3, s4, s5, s6, s7, s8⟩; go_simp; with_reducible rfl); rotate_left; (simp only [Act.put, List.setIfInBounds_toArray, List.set_cons_zero, List.set_cons_succ, i64_w, i32_w]; rfl)
        refine take_ (i := 3) (N := some 24) (v := ?_) (a' := ?_) #[true,true,true,true,true,true,true,false,false,false,false,false,false,false] rfl rfl (take_ofW HT_.out HW_.out (by kernel_rfl)) (fun _ _ _ h => h) (Or.inl ⟨by rfl, ?_⟩) hHeld ?_ ?_
        rotate_left; (rintro w' ⟨s0, s1, s2, s3, s4, s5, s6, s7, s8⟩; go_simp; with_reducible rfl); rotate_left; (simp only [Act.put, List.setIfInBounds_toArray, List.set_cons_zero, List.set_cons_succ, i64_w, i32_w]; rfl)
        refine take_ (i := 7) (N := some 28) (v := ?_) (a' := ?_) #[true,true,true,true,true,true,true,true,false,false,false,false,false,false] rfl rfl (take_ofW HT_.out HW_.out (by kernel_rfl)) (fun _ _ _ h => h) (Or.inl ⟨by rfl, ?_⟩) hHeld ?_ ?_
        rotate_left; (rintro w' ⟨s0, s1, s2, s3, s4, s5, s6, s7, s8⟩; go_simp; with_reducible rfl); rotate_left; (simp only [Act.put, List.setIfInBounds_toArray, List.set_cons_zero, List.set_cons_succ, i64_w, i32_w]; rfl)
        refine pure_ (i := 8) (N := some 29) (v := ?_) (a' := ?_) #[true,true,true,true,true,true,true,true,true,false,false,false,false,false] rfl rfl (any_of HT_.out (by kernel_rfl)) (fun _ _ _ h => h) (Or.inl ⟨by rfl, ?_⟩) ?_ ?_
        rotate_left; (intro w'; go_simp; with_reducible rfl); rotate_left; (simp only [Act.put, List.setIfInBounds_toArray, List.set_cons_zero, List.set_cons_succ, i64_w, i32_w]; rfl)
        refine take_ (i := 9) (N := some 30) (v := ?_) (a' := ?_) #[true,true,true,true,true,true,true,true,true,true,false,false,false,false] rfl rfl (take_ofW HT_.out HW_.out (by kernel_rfl)) (fun _ _ _ h => h) (Or.inl ⟨by rfl, ?_⟩) hHeld ?_ ?_
        rotate_left; (rintro w' ⟨s0, s1, s2, s3, s4, s5, s6, s7, s8⟩; go_simp; with_reducible rfl); rotate_left; (simp only [Act.put, List.setIfInBounds_toArray, List.set_cons_zero, List.set_cons_succ, i64_w, i32_w]; rfl)
        refine one_ (i := 10) (N := some 31) #[true,true,true,true,true,true,true,true,true,true,true,false,false,false] rfl rfl (one_of HT_.out (by kernel_rfl)) (by decide) (fun K hK => ?_)
        refine value_ (w1 := ?_) (v := ?_) (by rfl) rfl ?_ ?_
        rotate_left 2
        ·go_simp
         constructor
         ·rfl
         ·rfl
        refine hK.out _ _ ⟨(kC (kA BK1575.out _) 0).trans rfl, (kC (kA BK1575.out _) 1).trans rfl, (kC (kA BK1570.out _) 0).trans rfl, (kC (kA BK1570.out _) 1).trans rfl, (World.cell?_alloc_lt _ _ _ (World.block_lt_of_cell? _ _ (hHeld.2.2.2.2.1))).trans (hHeld.2.2.2.2.1), (World.cell?_alloc_lt _ _ _ (World.block_lt_of_cell? _ _ (((HB.out.cell (World.block_lt_of_cell? w _ hw1577_0)).trans hw1577_0)))).trans (((HB.out.cell (World.block_lt_of_cell? w _ hw1577_0)).trans hw1577_0)), (World.cell?_alloc_lt _ _ _ (World.block_lt_of_cell? _ _ (((HB.out.cell (World.block_lt_of_cell? w _ hw1577_1)).trans hw1577_1)))).trans (((HB.out.cell (World.block_lt_of_cell? w _ hw1577_1)).trans hw1577_1)), (World.cell?_alloc_lt _ _ _ (World.block_lt_of_cell? _ _ (((HB.out.cell (World.block_lt_of_cell? w _ hw1577_2)).trans hw1577_2)))).trans (((HB.out.cell (World.block_lt_of_cell? w _ hw1577_2)).trans hw1577_2)), (World.cell?_alloc_lt _ _ _ (World.block_lt_of_cell? _ _ (((HB.out.cell (World.block_lt_of_cell? w _ hw1577_3)).trans hw1577_3)))).trans (((HB.out.cell (World.block_lt_of_cell? w _ hw1577_3)).trans hw1577_3))⟩ (fun hHeld => ?_)
        clear hK K
        refine norm_ (a' := ?_) ?_ ?_
        rotate_left
        ·show Act.put _ (some 31) _ = _
         simp only [Act.put, List.setIfInBounds_toArray, List.set_cons_zero, List.set_cons_succ, i64_w, i32_w]
         rfl
        refine last_ (i := 11) (N := some 32) #[true,true,true,true,true,true,true,true,true,true,true,true,false,false] rfl rfl (one_of HT_.out (by kernel_rfl)) (by decide) (fun K hK => ?_)
        refine Kd.R_append_step k37 (w0 := w) w.heap.size (by rfl) (.tmp 22) (.tmp 31) 22 37 (.agg #[(.int .i64 0), (.int .i64 0), (.int .i64 0), (.int .i64 0)]) 32 rfl Try.underlying22 info37 rfl (by decide) (by omega) u1576001 x1576001_1 (⟨(rd_T37 l0_1 (rd t1572 x8_1)).f0, (rd_T37 l0_1 (rd t1572 x8_1)).f1, (rd_T37 l0_1 (rd t1572 x8_1)).f2, (rd_T37 l0_1 (rd t1572 x8_1)).f3⟩ : S37) [.int .i64 ((rd_T37 l0_1 (rd t1572 x8_1)).f0), .int .i64 ((rd_T37 l0_1 (rd t1572 x8_1)).f1), .int .i64 ((rd_T37 l0_1 (rd t1572 x8_1)).f2), .int .i64 ((rd_T37 l0_1 (rd t1572 x8_1)).f3)] (fun _ => True) (fun _ => False) rfl rfl ?aP (fun _ hk => hk.elim) ?aF ?aO ?aB ?aS ?aL ?_
        (case aP => exact k37_mkM _ _ _ (⟨(rd_T37 l0_1 (rd t1572 x8_1)).f0, (rd_T37 l0_1 (rd t1572 x8_1)).f1, (rd_T37 l0_1 (rd t1572 x8_1)).f2, (rd_T37 l0_1 (rd t1572 x8_1)).f3⟩ : S37))
        (case aB => exact (by repeat (first | (with_reducible first | exact HB.out | apply below_alloc | apply bN | apply bD | refine bS ?_ GE1570.out | refine bS ?_ GE1571.out | refine bS ?_ GE1575.out) | exact HB.out)))
        (case aF => exact (fun _ _ => trivial))
        (case aO => exact (by (with_reducible repeat (first | apply Kd.R_alloc | apply Kd.R_drewN | apply Kd.R_drew)); exact HO_1576001.out))
        (case aS => exact (bZ (by repeat (first | (with_reducible first | exact HB.out | apply below_alloc | apply bN | apply bD | refine bS ?_ GE1570.out | refine bS ?_ GE1571.out | refine bS ?_ GE1575.out) | exact HB.out))))
        (case aL => have := LMc18.out; omega)
        intro v1579 w21 ho hb hg hat
        rw [← Ny1578.out] at ho
        have n0_ := Z0.mk (Kd.R_over' (by (with_reducible repeat (first | apply Kd.R_alloc | apply Kd.R_drewN | apply Kd.R_drew)); exact HO_6.out) (Kd.R_typed (by (with_reducible repeat (first | apply Kd.R_alloc | apply Kd.R_drewN | apply Kd.R_drew)); exact HO_1576001.out)) (by decide) hg)
        have n1_ := Z0.mk (blk_grown (g := gb1570) (o := .cells #[.int .i64 a0_0, .slice (some ad1577) l0_1.length c0_1] 24 (0, 0)) (by (with_reducible repeat (first | refine kN ?_ _ | refine kD ?_ | refine kA ?_ _)); exact BK1570.out) hg (Kd.R_ne HO_1576001.out BK1570.out (by decide)))
        have n2_ := Z0.mk (blk_grown (g := gb1571) (o := .cells #[.int .i64 0, .slice none 0 0] 24 (0, 0)) (by (with_reducible repeat (first | refine kN ?_ _ | refine kD ?_ | refine kA ?_ _)); exact BK1571.out) hg (Kd.R_ne HO_1576001.out BK1571.out (by decide)))
        have n3_ := Z0.mk (blk_grown (g := gb1575) (o := .cells #[.int .i64 a0_0, u1576001] 24 (0, 0)) (by (with_reducible repeat (first | refine kN ?_ _ | refine kD ?_ | refine kA ?_ _)); exact BK1575.out) hg (Kd.R_ne HO_1576001.out BK1575.out (by decide)))
        have n4_ := Z0.mk (hb)
        have n5_ := Z0.mk (ho)
        clear HO_6; clear BK1570; clear BK1571; clear BK1575; clear HB; clear HO_1576001
        have HO_6 := n0_
        have BK1570 := n1_
        have BK1571 := n2_
        have BK1575 := n3_
        have HB := n4_
        have HO1580 := n5_
        clear n0_ n1_ n2_ n3_ n4_ n5_; clear ho hb hg hat
        obtain ⟨Ao22, co22, eo22⟩ := Kd.R_slice HO1580.out
        (first | subst eo22 | (injection eo22 with f1_ f2_ f3_; have f4_ := f1_.symm; have f5_ := f3_.symm; clear f1_ f2_ f3_; subst f4_; subst f5_))
        refine hK.out _ _ ?_
        clear hK K
        refine norm_ (a' := ?_) ?_ ?_
        rotate_left
        ·show Act.put _ (some 32) _ = _
         simp only [Act.put, List.setIfInBounds_toArray, List.set_cons_zero, List.set_cons_succ, i64_w, i32_w]
         rfl
        refine pure_ (i := 12) (N := some 33) (v := ?_) (a' := ?_) #[true,true,true,true,true,true,true,true,true,true,true,true,true,false] rfl rfl (any_of HT_.out (by kernel_rfl)) (fun _ _ _ h => h) (Or.inl ⟨by rfl, ?_⟩) ?_ ?_
        rotate_left; (intro w'; go_simp; with_reducible rfl); rotate_left; (simp only [Act.put, List.setIfInBounds_toArray, List.set_cons_zero, List.set_cons_succ, i64_w, i32_w]; rfl)
        refine last_ (i := 13) (N := none) #[true,true,true,true,true,true,true,true,true,true,true,true,true,true] rfl rfl (one_of HT_.out (by kernel_rfl)) (by decide) (fun K hK => ?_)
        have hs23 : w21.cell? ⟨gb1575, 1, none⟩ = some (u1576001) := (kC BK1575.out 1).trans rfl
        have hfs23 := kF BK1575.out 1
        have hns23_0 := NB1570_1575.out
        have hns23_1 := NB1571_1575.out
        have hms23_0 := NB1575_1570.out
        have hms23_1 := NB1575_1571.out
        refine skip_ (w1 := ?_) (by rfl) rfl ?_ ?_
        rotate_left
        ·go_simp
         rfl
        refine hK.out _ _ ?_
        clear hK K
        refine done_ (done_of HT_.out (by kernel_rfl)) ?_
        try go_wp2
        go_roundg k1
        case measure => have := HK1.out; omega
        case rel => exact ⟨(wrap64 (x8_1 + 1)), (y1578), (.slice Ao22 y1578.length co22), (by first | rfl | (simp; done) | (simp [*]; done)), H', ⟨by have := HK1.out; omega⟩, ⟨by (with_reducible repeat (first | apply Kd.R_alloc | apply Kd.R_drewN | apply Kd.R_drew)); exact Kd.R_mono (Kd.R_far (p := ⟨gb1575, 1, none⟩) (Kd.R_types HO_6.out BK1575.out (by decide)) (fun _ hk => hk.2) (.slice Ao22 y1578.length co22)) (fun _ hk => trivial)⟩, ⟨by (with_reducible repeat (first | apply Kd.R_alloc | apply Kd.R_drewN | apply Kd.R_drew)); exact Kd.R_mono (Kd.R_far (p := ⟨gb1575, 1, none⟩) (Kd.R_types HO1580.out BK1575.out (by decide)) (fun _ hk => hk.2) (.slice Ao22 y1578.length co22)) (fun _ hk => trivial)⟩, ⟨by (with_reducible repeat (first | refine kN ?_ _ | refine kD ?_ | refine kA ?_ _)); refine kR ?_ NB1570_1575.out _; (with_reducible repeat (first | refine kN ?_ _ | refine kD ?_ | refine kA ?_ _)); exact BK1570.out⟩, ⟨by (with_reducible repeat (first | refine kN ?_ _ | refine kD ?_ | refine kA ?_ _)); refine kR ?_ NB1571_1575.out _; (with_reducible repeat (first | refine kN ?_ _ | refine kD ?_ | refine kA ?_ _)); exact BK1571.out⟩, ⟨by (with_reducible repeat (first | refine kN ?_ _ | refine kD ?_ | refine kA ?_ _)); refine kP (cs := #[.int .i64 a0_0, u1576001]) ?_ 1 _ rfl; (with_reducible repeat (first | refine kN ?_ _ | refine kD ?_ | refine kA ?_ _)); exact BK1575.out⟩, ⟨by repeat (first | (with_reducible first | exact HB.out | apply below_alloc | apply bN | apply bD | refine bS ?_ GE1570.out | refine bS ?_ GE1571.out | refine bS ?_ GE1575.out) | exact HB.out)⟩⟩
       ·rw [if_neg c18] at H
        exact absurd H (by simp)
      ·rw [if_neg c17] at H
       exact absurd H (by simp)
     ·rw [if_neg c16] at H
      exact absurd H (by simp)
    ·rw [if_neg c15] at H
     exact absurd H (by simp)
   ·rw [if_neg c14] at H
    have c14b0 : decide (x8_1 < (t1572.length : Int)) = false := decide_eq_false c14
    clear c14
    simp only [Option.some.injEq, Prod.mk.injEq] at H
    obtain ⟨rfl, rfl, rfl⟩ := H
    obtain ⟨Ao24, co24, eo24⟩ := Kd.R_slice HO_6.out
    subst eo24
    have hnb25 := NB1575_1570.out
    have hnc25 := NB1570_1575.out
    have hnb26 := NB1575_1571.out
    have hnc26 := NB1571_1575.out
    have hcz27_0 : wr.cell? ⟨gb1575, 0, none⟩ = some (.int .i64 a0_0) := (kC BK1575.out 0).trans rfl
    have hcz27_1 : wr.cell? ⟨gb1575, 1, none⟩ = some (u1576001) := (kC BK1575.out 1).trans rfl
    have hfz27_0 := kF BK1575.out 0
    have hfz27_1 := kF BK1575.out 1
    have hnb28 := NB1571_1570.out
    have hnc28 := NB1570_1571.out
    have hcz29_0 : wr.cell? ⟨gb1571, 0, none⟩ = some (.int .i64 0) := (kC BK1571.out 0).trans rfl
    have hcz29_1 : wr.cell? ⟨gb1571, 1, none⟩ = some (.slice none 0 0) := (kC BK1571.out 1).trans rfl
    have hfz29_0 := kF BK1571.out 0
    have hfz29_1 := kF BK1571.out 1
    obtain ⟨Ao30, co30, eo30⟩ := Kd.R_slice HO_1576001.out
    subst eo30
    go_wp2
    refine bodyPost_ret (results_ct rfl _ _ gb1571 24 #[.int .i64 a0_0, .slice Ao30 x1576001_1.length co30] (0, 0) _ rfl (by (with_reducible repeat (first | refine kN ?_ _ | refine kD ?_ | refine kA ?_ _)); refine kP (cs := #[.int .i64 a0_0, .slice none 0 0]) ?_ 1 _ rfl; (with_reducible repeat (first | refine kN ?_ _ | refine kD ?_ | refine kA ?_ _)); refine kP (cs := #[.int .i64 0, .slice none 0 0]) ?_ 0 _ rfl; (with_reducible repeat (first | refine kN ?_ _ | refine kD ?_ | refine kA ?_ _)); exact BK1571.out) Try.underlying24 rfl (by kernel_rfl)) rfl ?_
    exact ⟨_, _, by first | rfl | (simp [errW_none, errW_some] <;> rfl) | (simp [*, errW_none, errW_some] <;> rfl), by (with_reducible repeat (first | apply Kd.R_alloc | apply Kd.R_drewN | apply Kd.R_drew)); exact Kd.R_mono (Kd.R_far (p := ⟨gb1571, 1, none⟩) (Kd.R_far (p := ⟨gb1571, 0, none⟩) (Kd.R_types HO_1576001.out BK1571.out (by decide)) (fun _ hk => hk.2) (.int .i64 a0_0)) (fun _ hk => hk.2) (.slice Ao30 x1576001_1.length co30)) (fun _ hk => trivial), by (with_reducible repeat (first | apply Kd.R_alloc | apply Kd.R_drewN | apply Kd.R_drew)); exact Kd.R_mono (Kd.R_far (p := ⟨gb1571, 1, none⟩) (Kd.R_far (p := ⟨gb1571, 0, none⟩) (Kd.R_types HO_6.out BK1571.out (by decide)) (fun _ hk => hk.2) (.int .i64 a0_0)) (fun _ hk => hk.2) (.slice Ao30 x1576001_1.length co30)) (fun _ hk => trivial), by repeat (first | (with_reducible first | exact HB.out | apply below_alloc | apply bN | apply bD | refine bS ?_ GE1570.out | refine bS ?_ GE1571.out | refine bS ?_ GE1575.out) | exact HB.out)⟩
end Go.Proofs.Ytdpgdelimffjpaa.P
