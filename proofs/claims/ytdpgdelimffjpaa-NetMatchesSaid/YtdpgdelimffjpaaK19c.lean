/- Texts of this claim, merged: the words that print.sh and the prover's driver wrote, and hand-proved contracts and lemmas, less what this claim does not name. Lean checks them. -/
import Derived.Outline
import Derived.Lib.Hide
import Derived.Test.YtdpgdelimffjpaaK19a
import Derived.Test.YtdpgdelimffjpaaK19b
namespace Go.Proofs.Ytdpgdelimffjpaa.P
open Go.RowKit Go.Proofs.YtdpgdelimffjpaaW.PrintWords Go.Proofs.YtdpgdelimffjpaaW.PrintLast Go.Proofs.YtdpgdelimffjpaaW.PrintMore
attribute [local go_sem] max2_int min2_int max_two min_two max_three min_three max_four min_four
set_option linter.unusedVariables false
set_option linter.unusedSimpArgs false
def three14 : List S37 := [(⟨0, 1, 10, 100⟩ : S37), (⟨1, 2, 5, 50⟩ : S37), (⟨0, 2, 10, 70⟩ : S37)]
theorem a14_three : ql14three.f = some (3, three14) := rfl
theorem a14_in : net_In.f 3 three14 [1] = some ([0, 2], 0) := by kernel_rfl
theorem a14_at : net_At.f 3 three14 [1] 2 = some ([2], 0) := by kernel_rfl
theorem a14_un : net_Union.f [0, 2] [1, 2] = some ([0, 1, 2], 0) := by
 rw [net_Union.f, if_pos (by decide), if_pos (by decide), if_pos (by decide), show uni [0, 2] [1, 2] = [0, 1, 2] from inc_ext (uni_inc _ _) (by decide) (fun x => by rw [mem_uni]; simp; omega)]
theorem a14_check : net_Check.f 3 three14 = some 0 := by kernel_rfl
theorem a14_check0 : net_Check.f 0 [] = some 1 := by kernel_rfl
theorem a14_outs1 : net_Outs.f 20 3 three14 [1, 1] = some 1 := by kernel_rfl
theorem a14_outs2 : net_Outs.f 20 3 three14 [3] = some 1 := by kernel_rfl
theorem a14_ints1 : qr14Ints.f 20 [0, 2] [0, 2] = some true := by kernel_rfl
theorem a14_ints2 : qr14Ints.f 20 [2] [2] = some true := by kernel_rfl
theorem a14_ints3 : qr14Ints.f 20 [0, 1, 2] [0, 1, 2] = some true := by kernel_rfl
def ql14awake.f : Option (Bool) := some true
set_option maxRecDepth 100000 in
set_option maxHeartbeats 4000000 in
theorem ql14awake.calls  (r : Bool) (w : World) (h : ql14awake.f  = some r) :
  Calls Try.prog 66 #[] w fun e w' => e = .returned (.bool r) ∧ Below w.heap.size w w' := by
 have hr : true = r := Option.some.inj h
 subst hr
 clear h
 go_enter Try.func66, Try.ntmps66
 go_wp2_with fail
 go_at_call 77
 refine (ql14three.calls  3 three14 _  a14_three).mono ?_
 rintro e w1 ⟨v1, rfl, h1, b1⟩
 obtain ⟨A1, c1, rfl⟩ := Kd.R_slice h1
 obtain ⟨_, hc1, hC1⟩ := Kd.R_reads' h1
 have X1_0 := Lib.hid hC1
 clear h1 hC1
 have d1 := b1
 have B1 := Lib.hid (d1)
 clear d1
 go_wp2_with fail
 go_at_call 59
 refine (net_In.calls 3 A1 c1 three14 (some ⟨w1.heap.size + 1, 0, none⟩) 1 [1] [0, 2] 0 _ (Kd.C_alloc (Kd.C_alloc X1_0.out _) _) hc1 (C_litS (w1.alloc (.cells #[.int .i64 3, .slice A1 three14.length c1] 24)) (w1.heap.size + 1) (by simp) [1] 3 (by decide)) (Nat.le_refl _) a14_in).mono ?_
 rintro e w2 ⟨v2, rfl, h2, b2⟩
 obtain ⟨A2, c2, rfl⟩ := Kd.R_slice h2
 obtain ⟨_, hc2, hC2⟩ := Kd.R_reads' h2
 have X2_0 := Lib.hid hC2
 clear h2 hC2
 have d2 : Below w1.heap.size w1 w2 := (below_alloc (below_alloc (Below.refl w1.heap.size w1) _) _).trans (b2.mono (by simp <;> omega))
 have K2 : RowKit.Hid (w2.heap[w1.heap.size]? = some (.cells #[.int .i64 3, .slice A1 three14.length c1] 24 (0, 0))) := Lib.hid ((b2.block _ (by simp <;> omega)).trans (kA (blk_newS w1 (w1.heap.size) (by simp) _) _))
 have K2c0 : w2.cell? ⟨w1.heap.size, 0, none⟩ = some (.int .i64 3) := (kC K2.out 0).trans rfl
 have K2c1 : w2.cell? ⟨w1.heap.size, 1, none⟩ = some (.slice A1 three14.length c1) := (kC K2.out 1).trans rfl
 have K2l : w1.heap.size < w2.heap.size := blk_lt K2.out
 have X_3 := Lib.hid (Kd.C_below X1_0.out d2)
 clear X1_0
 have B4 := Lib.hid (B1.out.trans (d2.mono B1.out.size))
 clear d2 B1
 go_wp2_with fail
 go_at_call 71
 refine (net_At.calls 3 A1 c1 three14 (some ⟨w2.heap.size, 0, none⟩) 1 [1] 2 [2] 0 _ (Kd.C_alloc X_3.out _) hc1 (C_litS w2 (w2.heap.size) (by simp) [1] 3 (by decide)) (Nat.le_refl _) a14_at).mono ?_
 rintro e w3 ⟨v3, rfl, h3, b3⟩
 obtain ⟨A3, c3, rfl⟩ := Kd.R_slice h3
 obtain ⟨_, hc3, hC3⟩ := Kd.R_reads' h3
 have X3_0 := Lib.hid hC3
 clear h3 hC3
 have d3 : Below w2.heap.size w2 w3 := (below_alloc (Below.refl w2.heap.size w2) _).trans (b3.mono (by simp <;> omega))
 have K5 : RowKit.Hid (w3.heap[w1.heap.size]? = some (.cells #[.int .i64 3, .slice A1 three14.length c1] 24 (0, 0))) := Lib.hid ((d3.block _ (by omega)).trans K2.out)
 have K5c0 : w3.cell? ⟨w1.heap.size, 0, none⟩ = some (.int .i64 3) := (kC K5.out 0).trans rfl
 have K5c1 : w3.cell? ⟨w1.heap.size, 1, none⟩ = some (.slice A1 three14.length c1) := (kC K5.out 1).trans rfl
 have K5l : w1.heap.size < w3.heap.size := blk_lt K5.out
 clear K2 K2l K2c0 K2c1
 have X_6 := Lib.hid (Kd.C_below X_3.out d3)
 clear X_3
 have X_7 := Lib.hid (Kd.C_below X2_0.out d3)
 clear X2_0
 have B8 := Lib.hid (B4.out.trans (d3.mono B4.out.size))
 clear d3 B4
 go_wp2_with fail
 go_at_call 49
 refine (net_Union.calls (some ⟨w3.heap.size, 0, none⟩) 2 [0, 2] (some ⟨w3.heap.size + 1, 0, none⟩) 2 [1, 2] [0, 1, 2] 0 _ (Kd.C_alloc (C_litS w3 (w3.heap.size) (by simp) [0, 2] 3 (by decide)) _) (Nat.le_refl _) (C_litS (w3.alloc (.cells (([0, 2] : List Int).map (Value.int .i64)).toArray 3)) (w3.heap.size + 1) (by simp) [1, 2] 3 (by decide)) (Nat.le_refl _) a14_un).mono ?_
 rintro e w4 ⟨v4, rfl, h4, b4⟩
 obtain ⟨A4, c4, rfl⟩ := Kd.R_slice h4
 obtain ⟨_, hc4, hC4⟩ := Kd.R_reads' h4
 have X4_0 := Lib.hid hC4
 clear h4 hC4
 have d4 : Below w3.heap.size w3 w4 := (below_alloc (below_alloc (Below.refl w3.heap.size w3) _) _).trans (b4.mono (by simp <;> omega))
 have K9 : RowKit.Hid (w4.heap[w1.heap.size]? = some (.cells #[.int .i64 3, .slice A1 three14.length c1] 24 (0, 0))) := Lib.hid ((d4.block _ (by omega)).trans K5.out)
 have K9c0 : w4.cell? ⟨w1.heap.size, 0, none⟩ = some (.int .i64 3) := (kC K9.out 0).trans rfl
 have K9c1 : w4.cell? ⟨w1.heap.size, 1, none⟩ = some (.slice A1 three14.length c1) := (kC K9.out 1).trans rfl
 have K9l : w1.heap.size < w4.heap.size := blk_lt K9.out
 clear K5 K5l K5c0 K5c1
 have X_10 := Lib.hid (Kd.C_below X_6.out d4)
 clear X_6
 have X_11 := Lib.hid (Kd.C_below X_7.out d4)
 clear X_7
 have X_12 := Lib.hid (Kd.C_below X3_0.out d4)
 clear X3_0
 have B13 := Lib.hid (B8.out.trans (d4.mono B8.out.size))
 clear d4 B8
 go_wp2_with fail
 go_at_call 35
 refine (net_Check.calls 3 A1 c1 three14 0 _ X_10.out hc1 a14_check).mono ?_
 rintro e w5 ⟨rfl, b5⟩
 have d5 := b5
 have K14 : RowKit.Hid (w5.heap[w1.heap.size]? = some (.cells #[.int .i64 3, .slice A1 three14.length c1] 24 (0, 0))) := Lib.hid ((d5.block _ (by omega)).trans K9.out)
 have K14c0 : w5.cell? ⟨w1.heap.size, 0, none⟩ = some (.int .i64 3) := (kC K14.out 0).trans rfl
 have K14c1 : w5.cell? ⟨w1.heap.size, 1, none⟩ = some (.slice A1 three14.length c1) := (kC K14.out 1).trans rfl
 have K14l : w1.heap.size < w5.heap.size := blk_lt K14.out
 clear K9 K9l K9c0 K9c1
 have X_15 := Lib.hid (Kd.C_below X_10.out d5)
 clear X_10
 have X_16 := Lib.hid (Kd.C_below X_11.out d5)
 clear X_11
 have X_17 := Lib.hid (Kd.C_below X_12.out d5)
 clear X_12
 have X_18 := Lib.hid (Kd.C_below X4_0.out d5)
 clear X4_0
 have B19 := Lib.hid (B13.out.trans (d5.mono B13.out.size))
 clear d5 B13
 go_wp2_with fail
 go_at_call 36
 refine (qr14Ints.calls 20 A2 c2 [0, 2] (some ⟨w5.heap.size, 0, none⟩) 2 [0, 2] true _ (Kd.C_alloc X_16.out _) hc2 (C_litS w5 (w5.heap.size) (by simp) [0, 2] 3 (by decide)) (Nat.le_refl _) a14_ints1).mono ?_
 rintro e w' ⟨rfl, ⟨m, rfl⟩⟩
 have b6 : Below w5.heap.size w5 ((w5.alloc (.cells (([0, 2] : List Int).map (Value.int .i64)).toArray 3)).drewN m) := bN (below_alloc (Below.refl _ _) _) m
 generalize (w5.alloc (.cells (([0, 2] : List Int).map (Value.int .i64)).toArray 3)).drewN m = w6 at b6 ⊢
 have d6 := b6
 have K20 : RowKit.Hid (w6.heap[w1.heap.size]? = some (.cells #[.int .i64 3, .slice A1 three14.length c1] 24 (0, 0))) := Lib.hid ((d6.block _ (by omega)).trans K14.out)
 have K20c0 : w6.cell? ⟨w1.heap.size, 0, none⟩ = some (.int .i64 3) := (kC K20.out 0).trans rfl
 have K20c1 : w6.cell? ⟨w1.heap.size, 1, none⟩ = some (.slice A1 three14.length c1) := (kC K20.out 1).trans rfl
 have K20l : w1.heap.size < w6.heap.size := blk_lt K20.out
 clear K14 K14l K14c0 K14c1
 have X_21 := Lib.hid (Kd.C_below X_15.out d6)
 clear X_15
 have X_22 := Lib.hid (Kd.C_below X_16.out d6)
 clear X_16
 have X_23 := Lib.hid (Kd.C_below X_17.out d6)
 clear X_17
 have X_24 := Lib.hid (Kd.C_below X_18.out d6)
 clear X_18
 have B25 := Lib.hid (B19.out.trans (d6.mono B19.out.size))
 clear d6 B19; clear X_22
 go_wp2_with fail
 go_at_call 36
 refine (qr14Ints.calls 20 A3 c3 [2] (some ⟨w6.heap.size, 0, none⟩) 1 [2] true _ (Kd.C_alloc X_23.out _) hc3 (C_litS w6 (w6.heap.size) (by simp) [2] 3 (by decide)) (Nat.le_refl _) a14_ints2).mono ?_
 rintro e w' ⟨rfl, ⟨m, rfl⟩⟩
 have b7 : Below w6.heap.size w6 ((w6.alloc (.cells (([2] : List Int).map (Value.int .i64)).toArray 3)).drewN m) := bN (below_alloc (Below.refl _ _) _) m
 generalize (w6.alloc (.cells (([2] : List Int).map (Value.int .i64)).toArray 3)).drewN m = w7 at b7 ⊢
 have d7 := b7
 have K26 : RowKit.Hid (w7.heap[w1.heap.size]? = some (.cells #[.int .i64 3, .slice A1 three14.length c1] 24 (0, 0))) := Lib.hid ((d7.block _ (by omega)).trans K20.out)
 have K26c0 : w7.cell? ⟨w1.heap.size, 0, none⟩ = some (.int .i64 3) := (kC K26.out 0).trans rfl
 have K26c1 : w7.cell? ⟨w1.heap.size, 1, none⟩ = some (.slice A1 three14.length c1) := (kC K26.out 1).trans rfl
 have K26l : w1.heap.size < w7.heap.size := blk_lt K26.out
 clear K20 K20l K20c0 K20c1
 have X_27 := Lib.hid (Kd.C_below X_21.out d7)
 clear X_21
 have X_28 := Lib.hid (Kd.C_below X_23.out d7)
 clear X_23
 have X_29 := Lib.hid (Kd.C_below X_24.out d7)
 clear X_24
 have B30 := Lib.hid (B25.out.trans (d7.mono B25.out.size))
 clear d7 B25; clear X_28
 go_wp2_with fail
 go_at_call 36
 refine (qr14Ints.calls 20 A4 c4 [0, 1, 2] (some ⟨w7.heap.size, 0, none⟩) 3 [0, 1, 2] true _ (Kd.C_alloc X_29.out _) hc4 (C_litS w7 (w7.heap.size) (by simp) [0, 1, 2] 3 (by decide)) (Nat.le_refl _) a14_ints3).mono ?_
 rintro e w' ⟨rfl, ⟨m, rfl⟩⟩
 have b8 : Below w7.heap.size w7 ((w7.alloc (.cells (([0, 1, 2] : List Int).map (Value.int .i64)).toArray 3)).drewN m) := bN (below_alloc (Below.refl _ _) _) m
 generalize (w7.alloc (.cells (([0, 1, 2] : List Int).map (Value.int .i64)).toArray 3)).drewN m = w8 at b8 ⊢
 have d8 := b8
 have K31 : RowKit.Hid (w8.heap[w1.heap.size]? = some (.cells #[.int .i64 3, .slice A1 three14.length c1] 24 (0, 0))) := Lib.hid ((d8.block _ (by omega)).trans K26.out)
 have K31c0 : w8.cell? ⟨w1.heap.size, 0, none⟩ = some (.int .i64 3) := (kC K31.out 0).trans rfl
 have K31c1 : w8.cell? ⟨w1.heap.size, 1, none⟩ = some (.slice A1 three14.length c1) := (kC K31.out 1).trans rfl
 have K31l : w1.heap.size < w8.heap.size := blk_lt K31.out
 clear K26 K26l K26c0 K26c1
 have X_32 := Lib.hid (Kd.C_below X_27.out d8)
 clear X_27
 have X_33 := Lib.hid (Kd.C_below X_29.out d8)
 clear X_29
 have B34 := Lib.hid (B30.out.trans (d8.mono B30.out.size))
 clear d8 B30; clear X_33
 go_wp2_with fail
 go_at_call 31
 refine (net_Outs.calls 20 3 A1 c1 three14 (some ⟨w8.heap.size, 0, none⟩) 2 [1, 1] 1 _ (Kd.C_alloc X_32.out _) hc1 (C_litS w8 (w8.heap.size) (by simp) [1, 1] 3 (by decide)) (Nat.le_refl _) a14_outs1).mono ?_
 rintro e w9 ⟨rfl, b9⟩
 have d9 : Below w8.heap.size w8 w9 := (below_alloc (Below.refl w8.heap.size w8) _).trans (b9.mono (by simp <;> omega))
 have K35 : RowKit.Hid (w9.heap[w1.heap.size]? = some (.cells #[.int .i64 3, .slice A1 three14.length c1] 24 (0, 0))) := Lib.hid ((d9.block _ (by omega)).trans K31.out)
 have K35c0 : w9.cell? ⟨w1.heap.size, 0, none⟩ = some (.int .i64 3) := (kC K35.out 0).trans rfl
 have K35c1 : w9.cell? ⟨w1.heap.size, 1, none⟩ = some (.slice A1 three14.length c1) := (kC K35.out 1).trans rfl
 have K35l : w1.heap.size < w9.heap.size := blk_lt K35.out
 clear K31 K31l K31c0 K31c1
 have X_36 := Lib.hid (Kd.C_below X_32.out d9)
 clear X_32
 have B37 := Lib.hid (B34.out.trans (d9.mono B34.out.size))
 clear d9 B34
 go_wp2_with fail
 go_at_call 31
 refine (net_Outs.calls 20 3 A1 c1 three14 (some ⟨w9.heap.size, 0, none⟩) 1 [3] 1 _ (Kd.C_alloc X_36.out _) hc1 (C_litS w9 (w9.heap.size) (by simp) [3] 3 (by decide)) (Nat.le_refl _) a14_outs2).mono ?_
 rintro e w10 ⟨rfl, b10⟩
 have d10 : Below w9.heap.size w9 w10 := (below_alloc (Below.refl w9.heap.size w9) _).trans (b10.mono (by simp <;> omega))
 have K38 : RowKit.Hid (w10.heap[w1.heap.size]? = some (.cells #[.int .i64 3, .slice A1 three14.length c1] 24 (0, 0))) := Lib.hid ((d10.block _ (by omega)).trans K35.out)
 have K38c0 : w10.cell? ⟨w1.heap.size, 0, none⟩ = some (.int .i64 3) := (kC K38.out 0).trans rfl
 have K38c1 : w10.cell? ⟨w1.heap.size, 1, none⟩ = some (.slice A1 three14.length c1) := (kC K38.out 1).trans rfl
 have K38l : w1.heap.size < w10.heap.size := blk_lt K38.out
 clear K35 K35l K35c0 K35c1
 have X_39 := Lib.hid (Kd.C_below X_36.out d10)
 clear X_36
 have B40 := Lib.hid (B37.out.trans (d10.mono B37.out.size))
 clear d10 B37
 go_wp2_with fail
 go_at_call 35
 refine (net_Check.calls 0 none 0 [] 1 _ (Kd.C_nil _ _) (Nat.le_refl _) a14_check0).mono ?_
 rintro e w11 ⟨rfl, b11⟩
 have d11 := b11
 have K41 : RowKit.Hid (w11.heap[w1.heap.size]? = some (.cells #[.int .i64 3, .slice A1 three14.length c1] 24 (0, 0))) := Lib.hid ((d11.block _ (by omega)).trans K38.out)
 have K41c0 : w11.cell? ⟨w1.heap.size, 0, none⟩ = some (.int .i64 3) := (kC K41.out 0).trans rfl
 have K41c1 : w11.cell? ⟨w1.heap.size, 1, none⟩ = some (.slice A1 three14.length c1) := (kC K41.out 1).trans rfl
 have K41l : w1.heap.size < w11.heap.size := blk_lt K41.out
 clear K38 K38l K38c0 K38c1
 have X_42 := Lib.hid (Kd.C_below X_39.out d11)
 clear X_39
 have B43 := Lib.hid (B40.out.trans (d11.mono B40.out.size))
 clear d11 B40
 go_wp2_with fail
 go_ret
 exact ⟨rfl, B43.out⟩
def ql14own.f (a0_0 : Int) (l0_1 : List (S37)) : Option (Int × (List (S37))) := if ([] : List (S37)).length + l0_1.length < 4398046511104 then (some (a0_0, (([] : List (S37)) ++ l0_1))) else (none)
set_option maxHeartbeats 8000000 in
set_option maxRecDepth 100000 in
theorem ql14own.calls (a0_0 : Int) (A0_1 : Option Addr) (c0_1 : Nat) (l0_1 : List (S37)) (r1 : Int) (r2 : List (S37)) (w : World) (hr0_1 : Kd.C k37 w A0_1 l0_1.length l0_1) (hc0_1 : l0_1.length ≤ c0_1) (h : ql14own.f a0_0 l0_1 = some (r1, r2)) :
  Calls Try.prog 67 #[.agg #[.int .i64 a0_0, .slice A0_1 l0_1.length c0_1]] w fun e w' => ∃ v1_ : Value, e = .returned (.agg #[.int .i64 r1, v1_]) ∧ Kd.R k37 37 w' w.heap.size (fun _ => True) v1_ r2 ∧ Below w.heap.size w w' := by
 have hu24 := Try.underlying24
 have HR0_1 := Z0.mk hr0_1
 have HC0_1 := Z0.mk hc0_1
 clear hr0_1 hc0_1
 have HB := Z0.mk (Below.refl w.heap.size w)
 have H : (if ([] : List (S37)).length + l0_1.length < 4398046511104 then (some (a0_0, (([] : List (S37)) ++ l0_1))) else (none)) = some (r1, r2) := h
 clear h
 by_cases c2 : ([] : List (S37)).length + l0_1.length < 4398046511104
 ·rw [if_pos c2] at H
  have LMc2 := Z0.mk c2
  clear c2
  obtain ⟨y1115, hy1115⟩ : ∃ y_ : List (S37), y_ = (([] : List (S37)) ++ l0_1) := ⟨_, rfl⟩
  replace H : (some (a0_0, y1115)) = some (r1, r2) := by first | (rw [hy1115]; with_reducible exact H) | (have H2_ := (Option.bind_some _ _).symm.trans H; rw [hy1115]; with_reducible exact H2_) | (have H2_ := (Option.bind_some _ _).symm.trans H; with_reducible exact H2_) | with_reducible exact H | (rw [hy1115]; exact H) | exact H
  have Ny1115 := Z0.mk hy1115
  clear hy1115
  simp only [Option.some.injEq, Prod.mk.injEq] at H
  obtain ⟨rfl, rfl⟩ := H
  go_enter Try.func67, Try.ntmps67
  try go_wp2_with (first | ((with_reducible refine gate_dst (N := 1) rfl ?_); refine bE ?hg (N := 1) ?hd (cs := #[.int .i64 a0_0, .slice A0_1 l0_1.length c0_1]) (t := 24) ?hr ?_; (case hd => rfl); (case hg => rfl); (case hr => first | (go_simp; done) | (go_simp; rfl)); intro gb1113 hg w3 hbox hb; have n0_ := Z0.mk (bT (by repeat (first | (with_reducible first | exact HB.out | apply below_alloc | apply bN | apply bD) | exact HB.out)) hb); have n1_ := Z0.mk (hbox); have n2_ := Z0.mk ((by rw [hg]; exact (bZ (by repeat (first | (with_reducible first | exact HB.out | apply below_alloc | apply bN | apply bD) | exact HB.out))) : w.heap.size ≤ gb1113)); have n3_ := Z0.mk ((by rw [hg]; exact (bZ (by repeat (first | (with_reducible first | exact HB.out | apply below_alloc | apply bN | apply bD) | exact HB.out))) : w.heap.size ≤ gb1113)); clear HB; have HB := n0_; have BK1113 := n1_; have GW1113 := n2_; have GE1113 := n3_; clear n0_ n1_ n2_ n3_; clear hb hbox hg) | ((with_reducible refine gate_dst (N := 2) rfl ?_); refine bE ?hg (N := 2) ?hd (cs := #[.int .i64 0, .slice none 0 0]) (t := 24) ?hr ?_; (case hd => rfl); (case hg => rfl); (case hr => first | (go_simp; done) | (go_simp; rfl)); intro gb1114 hg w4 hbox hb; have n0_ := Z0.mk (kB (g := gb1113) (o := .cells #[.int .i64 a0_0, .slice A0_1 l0_1.length c0_1] 24 (0, 0)) (by (with_reducible repeat (first | refine kN ?_ _ | refine kD ?_ | refine kA ?_ _)); exact BK1113.out) hb); have n1_ := Z0.mk (bT (by repeat (first | (with_reducible first | exact HB.out | apply below_alloc | apply bN | apply bD | refine bS ?_ GE1113.out) | exact HB.out)) hb); have n2_ := Z0.mk (hbox); have n3_ := Z0.mk ((by rw [hg]; exact (bZ (by repeat (first | (with_reducible first | exact HB.out | apply below_alloc | apply bN | apply bD | refine bS ?_ GE1113.out) | exact HB.out))) : w.heap.size ≤ gb1114)); have n4_ := Z0.mk ((by rw [hg]; exact (bZ (by repeat (first | (with_reducible first | exact HB.out | apply below_alloc | apply bN | apply bD | refine bS ?_ GE1113.out) | exact HB.out))) : w.heap.size ≤ gb1114)); have n5_ := Z0.mk ((by rw [hg]; exact Nat.ne_of_lt (blk_lt (g := gb1113) (o := .cells #[.int .i64 a0_0, .slice A0_1 l0_1.length c0_1] 24 (0, 0)) (by (with_reducible repeat (first | refine kN ?_ _ | refine kD ?_ | refine kA ?_ _)); exact BK1113.out)) : gb1113 ≠ gb1114)); have n6_ := Z0.mk ((by rw [hg]; exact Nat.ne_of_gt (blk_lt (g := gb1113) (o := .cells #[.int .i64 a0_0, .slice A0_1 l0_1.length c0_1] 24 (0, 0)) (by (with_reducible repeat (first | refine kN ?_ _ | refine kD ?_ | refine kA ?_ _)); exact BK1113.out)) : gb1114 ≠ gb1113)); clear BK1113; clear HB; have BK1113 := n0_; have HB := n1_; have BK1114 := n2_; have GW1114 := n3_; have GE1114 := n4_; have NB1113_1114 := n5_; have NB1114_1113 := n6_; clear n0_ n1_ n2_ n3_ n4_ n5_ n6_; clear hb hbox hg))
  have n0_ := Z0.mk (kD BK1113.out)
  have n1_ := Z0.mk (kD BK1114.out)
  have n2_ := Z0.mk (bD HB.out)
  clear BK1113; clear BK1114; clear HB
  have BK1113 := n0_
  have BK1114 := n1_
  have HB := n2_
  clear n0_ n1_ n2_
  refine start_ (n := 7) (S := fun w' => w'.cell? ⟨gb1113, 0, none⟩ = some (.int .i64 a0_0) ∧ w'.cell? ⟨gb1113, 1, none⟩ = some (.slice A0_1 l0_1.length c0_1)) (ds := []) #[false,false,false,false,false,false,false] (by kernel_rfl) rfl rfl ⟨(kC BK1113.out 0).trans rfl, (kC BK1113.out 1).trans rfl⟩ (fun hHeld => ?_)
  generalize w4.drew = w5 at BK1113 BK1114 HB hHeld ⊢
  refine pure_ (i := 0) (N := some 3) (v := ?_) (a' := ?_) #[true,false,false,false,false,false,false] rfl rfl (by kernel_rfl) (fun _ _ _ h => h) (Or.inl ⟨by rfl, ?_⟩) ?_ ?_
  rotate_left; (intro w'; go_simp; with_reducible rfl); rotate_left; (simp only [Act.put, List.setIfInBounds_toArray, List.set_cons_zero, List.set_cons_succ, i64_w, i32_w]; rfl)
  refine pure_ (i := 2) (N := some 5) (v := ?_) (a' := ?_) #[true,false,true,false,false,false,false] rfl rfl (by kernel_rfl) (fun _ _ _ h => h) (Or.inl ⟨by rfl, ?_⟩) ?_ ?_
  rotate_left; (intro w'; go_simp; with_reducible rfl); rotate_left; (simp only [Act.put, List.setIfInBounds_toArray, List.set_cons_zero, List.set_cons_succ, i64_w, i32_w]; rfl)
  refine take_ (i := 1) (N := some 4) (v := ?_) (a' := ?_) #[true,true,true,false,false,false,false] rfl rfl (by kernel_rfl) (fun _ _ _ h => h) (Or.inl ⟨by rfl, ?_⟩) hHeld ?_ ?_
  rotate_left; (rintro w' ⟨s0, s1⟩; go_simp; with_reducible rfl); rotate_left; (simp only [Act.put, List.setIfInBounds_toArray, List.set_cons_zero, List.set_cons_succ, i64_w, i32_w]; rfl)
  refine take_ (i := 3) (N := some 6) (v := ?_) (a' := ?_) #[true,true,true,true,false,false,false] rfl rfl (by kernel_rfl) (fun _ _ _ h => h) (Or.inl ⟨by rfl, ?_⟩) hHeld ?_ ?_
  rotate_left; (rintro w' ⟨s0, s1⟩; go_simp; with_reducible rfl); rotate_left; (simp only [Act.put, List.setIfInBounds_toArray, List.set_cons_zero, List.set_cons_succ, i64_w, i32_w]; rfl)
  refine one_ (i := 4) (N := some 7) #[true,true,true,true,true,false,false] rfl rfl (by kernel_rfl) (by decide) (fun K hK => ?_)
  refine Kd.R_append_rows_step k37 (w0 := w) w.heap.size (by rfl) (.const (.slice none 0 0)) (.tmp 6) 22 37 (.agg #[(.int .i64 0), (.int .i64 0), (.int .i64 0), (.int .i64 0)]) 32 rfl Try.underlying22 info37 rfl (by decide) (by omega) (.slice none 0 0) ([] : List (S37)) l0_1 _ _ _ (fun _ => True) (fun _ => False) rfl rfl ?aO ?aR (fun _ _ h => h) (fun _ h => h.elim) ?aF ?aB ?aS ?aL ?_
  (case aR => repeat (first | exact (Kd.C_below HR0_1.out HB.out) | (with_reducible refine Kd.C_alloc ?_ _) | (with_reducible refine Kd.C_drewN ?_ _) | (with_reducible refine Kd.C_drew ?_)))
  (case aB => exact (by repeat (first | (with_reducible first | exact HB.out | apply below_alloc | apply bN | apply bD | refine bS ?_ GE1113.out | refine bS ?_ GE1114.out) | exact HB.out)))
  (case aF => exact (fun _ _ => trivial))
  (case aO => exact ((Kd.R_nil _ _ _ _ (fun _ => True))))
  (case aS => exact (bZ (by repeat (first | (with_reducible first | exact HB.out | apply below_alloc | apply bN | apply bD | refine bS ?_ GE1113.out | refine bS ?_ GE1114.out) | exact HB.out))))
  (case aL => have := LMc2.out; omega)
  intro v1116 w6 ho hb hg hat
  rw [← Ny1115.out] at ho
  have n0_ := Z0.mk (blk_grown (g := gb1113) (o := .cells #[.int .i64 a0_0, .slice A0_1 l0_1.length c0_1] 24 (0, 0)) (by (with_reducible repeat (first | refine kN ?_ _ | refine kD ?_ | refine kA ?_ _)); exact BK1113.out) hg (by simp [Value.ownBlock]))
  have n1_ := Z0.mk (blk_grown (g := gb1114) (o := .cells #[.int .i64 0, .slice none 0 0] 24 (0, 0)) (by (with_reducible repeat (first | refine kN ?_ _ | refine kD ?_ | refine kA ?_ _)); exact BK1114.out) hg (by simp [Value.ownBlock]))
  have n2_ := Z0.mk (hb)
  have n3_ := Z0.mk (ho)
  clear BK1113; clear BK1114; clear HB
  have BK1113 := n0_
  have BK1114 := n1_
  have HB := n2_
  have HO1117 := n3_
  clear n0_ n1_ n2_ n3_; clear ho hb hg hat
  obtain ⟨Ao7, co7, eo7⟩ := Kd.R_slice HO1117.out
  (first | subst eo7 | (injection eo7 with f1_ f2_ f3_; have f4_ := f1_.symm; have f5_ := f3_.symm; clear f1_ f2_ f3_; subst f4_; subst f5_))
  refine hK.out _ _ ⟨(kC BK1113.out 0).trans rfl, (kC BK1113.out 1).trans rfl⟩ (fun hHeld => ?_)
  clear hK K
  refine norm_ (a' := ?_) ?_ ?_
  rotate_left
  ·show Act.put _ (some 7) _ = _
   simp only [Act.put, List.setIfInBounds_toArray, List.set_cons_zero, List.set_cons_succ, i64_w, i32_w]
   rfl
  refine pure_ (i := 5) (N := some 8) (v := ?_) (a' := ?_) #[true,true,true,true,true,true,false] rfl rfl (by kernel_rfl) (fun _ _ _ h => h) (Or.inl ⟨by rfl, ?_⟩) ?_ ?_
  rotate_left; (intro w'; go_simp; with_reducible rfl); rotate_left; (simp only [Act.put, List.setIfInBounds_toArray, List.set_cons_zero, List.set_cons_succ, i64_w, i32_w]; rfl)
  refine one_ (i := 6) (N := none) #[true,true,true,true,true,true,true] rfl rfl (by kernel_rfl) (by decide) (fun K hK => ?_)
  have hs8 : w6.cell? ⟨gb1114, 0, none⟩ = some (.int .i64 0) := (kC BK1114.out 0).trans rfl
  have hfs8 := kF BK1114.out 0
  have hns8_0 := NB1113_1114.out
  have hms8_0 := NB1114_1113.out
  have hs9 : w6.cell? ⟨gb1114, 1, none⟩ = some (.slice none 0 0) := (kC BK1114.out 1).trans rfl
  have hfs9 := kF BK1114.out 1
  have hns9_0 := NB1113_1114.out
  have hms9_0 := NB1114_1113.out
  refine skip_ (w1 := ?_) (by rfl) rfl ?_ ?_
  rotate_left
  ·go_simp
   rfl
  refine hK.out _ _ ⟨((cell_far (p := ⟨gb1114, _, none⟩) NB1113_1114.out _).trans (((cell_far (p := ⟨gb1114, _, none⟩) NB1113_1114.out _).trans (hHeld.1)))), ((cell_far (p := ⟨gb1114, _, none⟩) NB1113_1114.out _).trans (((cell_far (p := ⟨gb1114, _, none⟩) NB1113_1114.out _).trans (hHeld.2))))⟩ (fun hHeld => ?_)
  clear hK K
  refine done_ (by kernel_rfl) ?_
  try go_wp2
  refine bodyPost_ret (results_cell_row rfl _ _ gb1114 24 #[.int .i64 a0_0, .slice Ao7 y1115.length co7] (0, 0) _ rfl (by (with_reducible repeat (first | refine kN ?_ _ | refine kD ?_ | refine kA ?_ _)); refine kP (cs := #[.int .i64 a0_0, .slice none 0 0]) ?_ 1 _ rfl; (with_reducible repeat (first | refine kN ?_ _ | refine kD ?_ | refine kA ?_ _)); refine kP (cs := #[.int .i64 0, .slice none 0 0]) ?_ 0 _ rfl; (with_reducible repeat (first | refine kN ?_ _ | refine kD ?_ | refine kA ?_ _)); exact BK1114.out) Try.underlying24 rfl (by kernel_rfl)) rfl ?_
  exact ⟨_, by first | rfl | (simp [errW_none, errW_some] <;> rfl) | (simp [*, errW_none, errW_some] <;> rfl), by (with_reducible repeat (first | apply Kd.R_alloc | apply Kd.R_drewN | apply Kd.R_drew)); exact Kd.R_mono (Kd.R_far (p := ⟨gb1114, 1, none⟩) (Kd.R_far (p := ⟨gb1114, 0, none⟩) (Kd.R_types HO1117.out BK1114.out (by decide)) (fun _ hk => hk.2) (.int .i64 a0_0)) (fun _ hk => hk.2) (.slice Ao7 y1115.length co7)) (fun _ hk => trivial), by repeat (first | (with_reducible first | exact HB.out | apply below_alloc | apply bN | apply bD | refine bS ?_ GE1113.out | refine bS ?_ GE1114.out) | exact HB.out)⟩
 ·rw [if_neg c2] at H
  exact absurd H (by simp)
def ql14ints.f (l0 : List Int) : Option (List Int) := if ([] : List Int).length + l0.length < 17592186044416 then (some (([] : List Int) ++ l0)) else (none)
set_option maxHeartbeats 8000000 in
set_option maxRecDepth 100000 in
theorem ql14ints.calls (A0 : Option Addr) (c0 : Nat) (l0 : List Int) (r : List Int) (w : World) (hr0 : Kd.C (Kd.int .i64) w A0 l0.length l0) (hc0 : l0.length ≤ c0) (h : ql14ints.f l0 = some r) :
  Calls Try.prog 68 #[.slice A0 l0.length c0] w fun e w' => ∃ v0_ : Value, e = .returned (v0_) ∧ Kd.R (Kd.int .i64) 3 w' w.heap.size (fun _ => True) v0_ r ∧ Below w.heap.size w w' := by
 have HR0 := Z0.mk hr0
 have HC0 := Z0.mk hc0
 clear hr0 hc0
 have HB := Z0.mk (Below.refl w.heap.size w)
 have H : (if ([] : List Int).length + l0.length < 17592186044416 then (some (([] : List Int) ++ l0)) else (none)) = some r := h
 clear h
 by_cases c2 : ([] : List Int).length + l0.length < 17592186044416
 ·rw [if_pos c2] at H
  have LMc2 := Z0.mk c2
  clear c2
  obtain ⟨y1118, hy1118⟩ : ∃ y_ : List Int, y_ = (([] : List Int) ++ l0) := ⟨_, rfl⟩
  replace H : (some y1118) = some r := by first | (rw [hy1118]; with_reducible exact H) | (have H2_ := (Option.bind_some _ _).symm.trans H; rw [hy1118]; with_reducible exact H2_) | (have H2_ := (Option.bind_some _ _).symm.trans H; with_reducible exact H2_) | with_reducible exact H | (rw [hy1118]; exact H) | exact H
  have Ny1118 := Z0.mk hy1118
  clear hy1118
  obtain rfl := Option.some.inj H
  go_enter Try.func68, Try.ntmps68
  go_wp2_with (first | ((with_reducible refine gate_builtin (b := .append) (xs := #[.const (.slice none 0 0), .tmp 3]) rfl ?_); at_builtin; refine Kd.R_append_rows (Kd.int .i64) (w0 := w) w.heap.size rfl (.const (.slice none 0 0)) (.tmp 3) 25 3 (.int .i64 0) 8 rfl Try.underlying25 info3 rfl (by decide) (by omega) (.slice none 0 0) ([] : List Int) l0 _ _ _ (fun _ => True) (fun _ => False) rfl rfl ?aO ?aR (fun _ _ h => h) (fun _ h => h.elim) ?aF ?aB ?aS ?aL ?_; (case aR => repeat (first | exact HR0.out | (with_reducible refine Kd.C_alloc ?_ _) | (with_reducible refine Kd.C_drewN ?_ _) | (with_reducible refine Kd.C_drew ?_))); (case aB => exact (by repeat (first | (with_reducible first | exact HB.out | apply below_alloc | apply bN | apply bD) | exact HB.out))); (case aF => exact (fun _ _ => trivial)); (case aO => exact ((Kd.R_nil _ _ _ _ (fun _ => True)))); (case aS => exact (bZ (by repeat (first | (with_reducible first | exact HB.out | apply below_alloc | apply bN | apply bD) | exact HB.out)))); (case aL => have := LMc2.out; omega); intro v1119 w3 ho hb hg hat; rw [← Ny1118.out] at ho; have n0_ := Z0.mk (hb); have n1_ := Z0.mk (ho); clear HB; have HB := n0_; have HO1120 := n1_; clear n0_ n1_; clear ho hb hg hat))
  go_ret
  exact ⟨_, by first | rfl | (simp [errW_none, errW_some] <;> rfl) | (simp [*, errW_none, errW_some] <;> rfl), by (with_reducible repeat (first | apply Kd.R_alloc | apply Kd.R_drewN | apply Kd.R_drew)); exact HO1120.out, by repeat (first | (with_reducible first | exact HB.out | apply below_alloc | apply bN | apply bD) | exact HB.out)⟩
 ·rw [if_neg c2] at H
  exact absurd H (by simp)
mutual
def qr14Check.j0 : Nat → Bool → Int → List (S37) → Option (Int)
 | 0, _, _, _ => none
 | k + 1, x12, x233000, x233001 => if x12 = true then (some 1) else (if (x233001.length : Int) > 10 then (some 5) else (qr14Check.l0 k 0 x233000 x233001))
def qr14Check.l0 : Nat → Int → Int → List (S37) → Option (Int)
 | 0, _, _, _ => none
 | k + 1, x3, x233000, x233001 => if x3 < (x233001.length : Int) then (if 0 ≤ x3 then (if ((rd_T37 x233001 x3).f0) < 0 then (some 1) else (if ((rd_T37 x233001 x3).f0) ≥ x233000 then (some 1) else (if ((rd_T37 x233001 x3).f1) < 0 then (some 1) else (if ((rd_T37 x233001 x3).f1) ≥ x233000 then (some 1) else (if ((rd_T37 x233001 x3).f0) = ((rd_T37 x233001 x3).f1) then (some 1) else (if ((rd_T37 x233001 x3).f2) < 1 then (some 1) else (if ((rd_T37 x233001 x3).f2) > 1000 then (some 1) else (if ((rd_T37 x233001 x3).f3) < 0 then (some 1) else (if ((rd_T37 x233001 x3).f3) > 1000000 then (some 1) else (qr14Check.l0 k (wrap64 (x3 + 1)) x233000 x233001)))))))))) else (none)) else (some 0)
end
def qr14Check.f (k : Nat) (a0_0 : Int) (l0_1 : List (S37)) : Option (Int) := if a0_0 < 1 then (qr14Check.j0 k true a0_0 l0_1) else (qr14Check.j0 k (decide (a0_0 > 6)) a0_0 l0_1)
set_option maxHeartbeats 8000000 in
set_option maxRecDepth 100000 in
theorem qr14Check.calls (k : Nat) (a0_0 : Int) (A0_1 : Option Addr) (c0_1 : Nat) (l0_1 : List (S37)) (r : Int) (w : World) (hr0_1 : Kd.C k37 w A0_1 l0_1.length l0_1) (hc0_1 : l0_1.length ≤ c0_1) (h : qr14Check.f k a0_0 l0_1 = some r) :
  Calls Try.prog 70 #[.agg #[.int .i64 a0_0, .slice A0_1 l0_1.length c0_1]] w fun e w' => e = .returned (.int .i64 r) ∧ Below w.heap.size w w' := by
 have hu24 := Try.underlying24
 have hu37 := Try.underlying37
 have HR0_1 := Z0.mk hr0_1
 have HC0_1 := Z0.mk hc0_1
 clear hr0_1 hc0_1
 have HB := Z0.mk (Below.refl w.heap.size w)
 have H : (if a0_0 < 1 then (qr14Check.j0 k true a0_0 l0_1) else (qr14Check.j0 k (decide (a0_0 > 6)) a0_0 l0_1)) = some r := h
 clear h
 have HC2 := Z0.mk H
 clear H
 go_enter Try.func70, Try.ntmps70
 go_upto_region 1 with (first | ((with_reducible refine gate_dst (N := 1) rfl ?_); refine bE ?hg (N := 1) ?hd (cs := #[.int .i64 a0_0, .slice A0_1 l0_1.length c0_1]) (t := 24) ?hr ?_; (case hd => rfl); (case hg => rfl); (case hr => first | (go_simp; done) | (go_simp; rfl)); intro gb232 hg w3 hbox hb; have n0_ := Z0.mk (bT (by repeat (first | (with_reducible first | exact HB.out | apply below_alloc | apply bN | apply bD) | exact HB.out)) hb); have n1_ := Z0.mk (hbox); have n2_ := Z0.mk ((by rw [hg]; exact (bZ (by repeat (first | (with_reducible first | exact HB.out | apply below_alloc | apply bN | apply bD) | exact HB.out))) : w.heap.size ≤ gb232)); have n3_ := Z0.mk ((by rw [hg]; exact (bZ (by repeat (first | (with_reducible first | exact HB.out | apply below_alloc | apply bN | apply bD) | exact HB.out))) : w.heap.size ≤ gb232)); clear HB; have HB := n0_; have BK232 := n1_; have GW232 := n2_; have GE232 := n3_; clear n0_ n1_ n2_ n3_; clear hb hbox hg))
 (try simp only [Act.put, List.setIfInBounds_toArray, List.set_cons_zero, List.set_cons_succ])
 go_cut [12] (fun v12 wc => ∃ (kq : Nat) (x12_1 : Bool), v12 = .bool x12_1 ∧ Z0 (qr14Check.j0 kq x12_1 a0_0 l0_1 = some r) ∧ Z0 (kq ≤ k) ∧ Z0 (wc.heap[gb232]? = some (.cells #[.int .i64 a0_0, (.slice A0_1 l0_1.length c0_1)] 24 (0, 0))) ∧ Z0 (Below w.heap.size w wc))
 case first =>
  have H := HC2.out
  clear HC2
  by_cases c4 : a0_0 < 1
  ·rw [if_pos c4] at H
   have c4b0 : decide (a0_0 < 1) = true := decide_eq_true c4
   clear c4
   (first | rw [c4b0] | (simp only [i64_w, i32_w]; rw [c4b0]) | skip)
   have H' := Z0.mk H
   clear H
   have hcz5_0 : w3.cell? ⟨gb232, 0, none⟩ = some (.int .i64 a0_0) := (kC BK232.out 0).trans rfl
   have hcz5_1 : w3.cell? ⟨gb232, 1, none⟩ = some (.slice A0_1 l0_1.length c0_1) := (kC BK232.out 1).trans rfl
   have hfz5_0 := kF BK232.out 0
   have hfz5_1 := kF BK232.out 1
   go_wp2
   go_meet
   case rel => exact ⟨_, (true), (by first | rfl | (simp; done) | (simp [*]; done)), H', ⟨by first | omega | exact Nat.le_refl _⟩, ⟨by (with_reducible repeat (first | refine kN ?_ _ | refine kD ?_ | refine kA ?_ _)); exact BK232.out⟩, ⟨by repeat (first | (with_reducible first | exact HB.out | apply below_alloc | apply bN | apply bD | refine bS ?_ GE232.out) | exact HB.out)⟩⟩
  ·rw [if_neg c4] at H
   have c4b0 : decide (a0_0 < 1) = false := decide_eq_false c4
   clear c4
   (first | rw [c4b0] | (simp only [i64_w, i32_w]; rw [c4b0]) | skip)
   have H' := Z0.mk H
   clear H
   have hcz6_0 : w3.cell? ⟨gb232, 0, none⟩ = some (.int .i64 a0_0) := (kC BK232.out 0).trans rfl
   have hcz6_1 : w3.cell? ⟨gb232, 1, none⟩ = some (.slice A0_1 l0_1.length c0_1) := (kC BK232.out 1).trans rfl
   have hfz6_0 := kF BK232.out 0
   have hfz6_1 := kF BK232.out 1
   go_wp2
   go_meet
   case rel => exact ⟨_, (decide (a0_0 > 6)), (by first | rfl | (simp; done) | (simp [*]; done)), H', ⟨by first | omega | exact Nat.le_refl _⟩, ⟨by (with_reducible repeat (first | refine kN ?_ _ | refine kD ?_ | refine kA ?_ _)); exact BK232.out⟩, ⟨by repeat (first | (with_reducible first | exact HB.out | apply below_alloc | apply bN | apply bD | refine bS ?_ GE232.out) | exact HB.out)⟩⟩
 case rest =>
  clear HC2; (try clear p2); (try clear c4); (try clear c4b0); (try clear hcz5_0); (try clear hcz5_1); (try clear hcz6_0); (try clear hcz6_1); (try clear hfz5_0); (try clear hfz5_1); (try clear hfz6_0); (try clear hfz6_1)
  obtain ⟨kq, x12_1, rfl, HA, HJ1, BK232, HB⟩ := hcut
  cases kq with
  | zero => exact absurd HA.out (by simp [qr14Check.j0])
  | succ kj1 =>
   have H := HA.out
   clear HA
   simp only [qr14Check.j0] at H
   by_cases c7 : x12_1 = true
   ·subst c7
    have H1 : (some 1) = some r := by rw [if_pos rfl] at H; exact H
    clear H
    have H := H1
    clear H1
    obtain rfl := Option.some.inj H
    go_wp2
    go_ret
    exact ⟨by first | rfl | (simp [errW_none, errW_some] <;> rfl) | (simp [*, errW_none, errW_some] <;> rfl), by repeat (first | (with_reducible first | exact HB.out | apply below_alloc | apply bN | apply bD | refine bS ?_ GE232.out) | exact HB.out)⟩
   ·replace c7 := Bool.eq_false_iff.mpr c7
    subst c7
    have H1 : (if (l0_1.length : Int) > 10 then (some 5) else (qr14Check.l0 kj1 0 a0_0 l0_1)) = some r := by rw [if_neg (show ¬ (false = true) by decide)] at H; exact H
    clear H
    have H := H1
    clear H1
    by_cases c8 : (l0_1.length : Int) > 10
    ·rw [if_pos c8] at H
     have c8b0 : decide (10 < (l0_1.length : Int)) = true := decide_eq_true c8
     have c8b1 : decide (10 < l0_1.length) = true := decide_eq_true (by omega)
     clear c8
     obtain rfl := Option.some.inj H
     have hcz9_0 : wc.cell? ⟨gb232, 0, none⟩ = some (.int .i64 a0_0) := (kC BK232.out 0).trans rfl
     have hcz9_1 : wc.cell? ⟨gb232, 1, none⟩ = some (.slice A0_1 l0_1.length c0_1) := (kC BK232.out 1).trans rfl
     have hfz9_0 := kF BK232.out 0
     have hfz9_1 := kF BK232.out 1
     go_wp2
     go_ret
     exact ⟨by first | rfl | (simp [errW_none, errW_some] <;> rfl) | (simp [*, errW_none, errW_some] <;> rfl), by repeat (first | (with_reducible first | exact HB.out | apply below_alloc | apply bN | apply bD | refine bS ?_ GE232.out) | exact HB.out)⟩
    ·rw [if_neg c8] at H
     have c8b0 : decide (10 < (l0_1.length : Int)) = false := decide_eq_false c8
     have c8b1 : decide (10 < l0_1.length) = false := decide_eq_false (by omega)
     clear c8
     have H' := Z0.mk H
     clear H
     have hcz10_0 : wc.cell? ⟨gb232, 0, none⟩ = some (.int .i64 a0_0) := (kC BK232.out 0).trans rfl
     have hcz10_1 : wc.cell? ⟨gb232, 1, none⟩ = some (.slice A0_1 l0_1.length c0_1) := (kC BK232.out 1).trans rfl
     have hfz10_0 := kF BK232.out 0
     have hfz10_1 := kF BK232.out 1
     go_wp2
     go_loopg [3] kj1 (fun kq v3 w' => ∃ (x3_2 : Int), v3 = .int .i64 x3_2 ∧ Z0 (qr14Check.l0 kq x3_2 a0_0 l0_1 = some r) ∧ Z0 (kq ≤ kj1) ∧ Z0 (w'.heap[gb232]? = some (.cells #[.int .i64 a0_0, (.slice A0_1 l0_1.length c0_1)] 24 (0, 0))) ∧ Z0 (Below w.heap.size w w'))
     case atStart => exact ⟨(0), (by first | rfl | (simp; done) | (simp [*]; done)), H', ⟨Nat.le_refl _⟩, ⟨by (with_reducible repeat (first | refine kN ?_ _ | refine kD ?_ | refine kA ?_ _)); exact BK232.out⟩, ⟨by repeat (first | (with_reducible first | exact HB.out | apply below_alloc | apply bN | apply bD | refine bS ?_ GE232.out) | exact HB.out)⟩⟩
     case round =>
      clear H'; (try clear p2); (try clear c4); (try clear c4b0); (try clear c7); (try clear c8); (try clear c8b0); (try clear c8b1); (try clear hcz10_0); (try clear hcz10_1); (try clear hcz5_0); (try clear hcz5_1); (try clear hcz6_0); (try clear hcz6_1); (try clear hcz9_0); (try clear hcz9_1); (try clear hfz10_0); (try clear hfz10_1); (try clear hfz5_0); (try clear hfz5_1); (try clear hfz6_0); (try clear hfz6_1); (try clear hfz9_0); (try clear hfz9_1); (try clear p2)
      obtain ⟨x3_2, rfl, HA, HK2, BK232, HB⟩ := hrel
      cases gk with
      | zero => exact absurd HA.out (by simp [qr14Check.l0])
      | succ k2 =>
       have H := HA.out
       clear HA
       simp only [qr14Check.l0] at H
       by_cases c11 : x3_2 < (l0_1.length : Int)
       ·rw [if_pos c11] at H
        have c11b0 : decide (x3_2 < (l0_1.length : Int)) = true := decide_eq_true c11
        clear c11
        by_cases c12 : 0 ≤ x3_2
        ·rw [if_pos c12] at H
         have c12b0 : decide (0 ≤ x3_2) = true := decide_eq_true c12
         clear c12
         by_cases c13 : ((rd_T37 l0_1 x3_2).f0) < 0
         ·rw [if_pos c13] at H
          have c13b0 : decide (((rd_T37 l0_1 x3_2).f0) < 0) = true := decide_eq_true c13
          clear c13
          obtain rfl := Option.some.inj H
          have hcz14_0 : wr.cell? ⟨gb232, 0, none⟩ = some (.int .i64 a0_0) := (kC BK232.out 0).trans rfl
          have hcz14_1 : wr.cell? ⟨gb232, 1, none⟩ = some (.slice A0_1 l0_1.length c0_1) := (kC BK232.out 1).trans rfl
          have hfz14_0 := kF BK232.out 0
          have hfz14_1 := kF BK232.out 1
          have p233 : 0 ≤ (x3_2 : Int) := of_decide_eq_true (by first | (with_reducible assumption) | assumption)
          have q233 : x3_2 < (l0_1.length : Int) := of_decide_eq_true (by first | (with_reducible assumption) | assumption)
          obtain ⟨ad233, e233, hx233_0, hx233_1, hx233_2, hx233_3⟩ := at_T37 HR0_1.out x3_2 p233 q233
          cases e233
          replace hx233_0 := (HB.out.cell (World.block_lt_of_cell? w _ hx233_0)).trans hx233_0
          replace hx233_1 := (HB.out.cell (World.block_lt_of_cell? w _ hx233_1)).trans hx233_1
          replace hx233_2 := (HB.out.cell (World.block_lt_of_cell? w _ hx233_2)).trans hx233_2
          replace hx233_3 := (HB.out.cell (World.block_lt_of_cell? w _ hx233_3)).trans hx233_3
          replace p233 := eq_true p233
          replace q233 := eq_true q233
          go_wp2_with (first | ((with_reducible refine gate_dst (N := 4) rfl ?_); refine bE ?hg (N := 4) ?hd (cs := #[.int .i64 0, .int .i64 0, .int .i64 0, .int .i64 0]) (t := 37) ?hr ?_; (case hd => rfl); (case hg => rfl); (case hr => first | (go_simp; done) | (go_simp; rfl)); intro gb234 hg w15 hbox hb; have n0_ := Z0.mk (kB (g := gb232) (o := .cells #[.int .i64 a0_0, .slice (some ad233) l0_1.length c0_1] 24 (0, 0)) (by (with_reducible repeat (first | refine kN ?_ _ | refine kD ?_ | refine kA ?_ _)); exact BK232.out) hb); have n1_ := Z0.mk (bT (by repeat (first | (with_reducible first | exact HB.out | apply below_alloc | apply bN | apply bD | refine bS ?_ GE232.out) | exact HB.out)) hb); have n2_ := Z0.mk (hbox); have n3_ := Z0.mk ((by rw [hg]; exact (bZ (by repeat (first | (with_reducible first | exact HB.out | apply below_alloc | apply bN | apply bD | refine bS ?_ GE232.out) | exact HB.out))) : w.heap.size ≤ gb234)); have n4_ := Z0.mk ((by rw [hg]; exact (bZ (by repeat (first | (with_reducible first | exact HB.out | apply below_alloc | apply bN | apply bD | refine bS ?_ GE232.out) | exact HB.out))) : w.heap.size ≤ gb234)); have n5_ := Z0.mk ((by rw [hg]; exact Nat.ne_of_lt (blk_lt (g := gb232) (o := .cells #[.int .i64 a0_0, .slice (some ad233) l0_1.length c0_1] 24 (0, 0)) (by (with_reducible repeat (first | refine kN ?_ _ | refine kD ?_ | refine kA ?_ _)); exact BK232.out)) : gb232 ≠ gb234)); have n6_ := Z0.mk ((by rw [hg]; exact Nat.ne_of_gt (blk_lt (g := gb232) (o := .cells #[.int .i64 a0_0, .slice (some ad233) l0_1.length c0_1] 24 (0, 0)) (by (with_reducible repeat (first | refine kN ?_ _ | refine kD ?_ | refine kA ?_ _)); exact BK232.out)) : gb234 ≠ gb232)); clear BK232; clear HB; have BK232 := n0_; have HB := n1_; have BK234 := n2_; have GW234 := n3_; have GE234 := n4_; have NB232_234 := n5_; have NB234_232 := n6_; clear n0_ n1_ n2_ n3_ n4_ n5_ n6_; clear hb hbox hg; have hnb16 := NB234_232.out; have hnc16 := NB232_234.out; have hcz17_0 : w15.cell? ⟨gb234, 0, none⟩ = some (.int .i64 0) := (kC BK234.out 0).trans rfl; have hcz17_1 : w15.cell? ⟨gb234, 1, none⟩ = some (.int .i64 0) := (kC BK234.out 1).trans rfl; have hcz17_2 : w15.cell? ⟨gb234, 2, none⟩ = some (.int .i64 0) := (kC BK234.out 2).trans rfl; have hcz17_3 : w15.cell? ⟨gb234, 3, none⟩ = some (.int .i64 0) := (kC BK234.out 3).trans rfl; have hfz17_0 := kF BK234.out 0; have hfz17_1 := kF BK234.out 1; have hfz17_2 := kF BK234.out 2; have hfz17_3 := kF BK234.out 3))
          go_ret
          exact ⟨by first | rfl | (simp [errW_none, errW_some] <;> rfl) | (simp [*, errW_none, errW_some] <;> rfl), by repeat (first | (with_reducible first | exact HB.out | apply below_alloc | apply bN | apply bD | refine bS ?_ GE232.out | refine bS ?_ GE234.out) | exact HB.out)⟩
         ·rw [if_neg c13] at H
          have c13b0 : decide (((rd_T37 l0_1 x3_2).f0) < 0) = false := decide_eq_false c13
          clear c13
          by_cases c18 : ((rd_T37 l0_1 x3_2).f0) ≥ a0_0
          ·rw [if_pos c18] at H
           have c18b0 : decide (a0_0 ≤ ((rd_T37 l0_1 x3_2).f0)) = true := decide_eq_true c18
           clear c18
           obtain rfl := Option.some.inj H
           have hcz19_0 : wr.cell? ⟨gb232, 0, none⟩ = some (.int .i64 a0_0) := (kC BK232.out 0).trans rfl
           have hcz19_1 : wr.cell? ⟨gb232, 1, none⟩ = some (.slice A0_1 l0_1.length c0_1) := (kC BK232.out 1).trans rfl
           have hfz19_0 := kF BK232.out 0
           have hfz19_1 := kF BK232.out 1
           have p233 : 0 ≤ (x3_2 : Int) := of_decide_eq_true (by first | (with_reducible assumption) | assumption)
           have q233 : x3_2 < (l0_1.length : Int) := of_decide_eq_true (by first | (with_reducible assumption) | assumption)
           obtain ⟨ad233, e233, hx233_0, hx233_1, hx233_2, hx233_3⟩ := at_T37 HR0_1.out x3_2 p233 q233
           cases e233
           replace hx233_0 := (HB.out.cell (World.block_lt_of_cell? w _ hx233_0)).trans hx233_0
           replace hx233_1 := (HB.out.cell (World.block_lt_of_cell? w _ hx233_1)).trans hx233_1
           replace hx233_2 := (HB.out.cell (World.block_lt_of_cell? w _ hx233_2)).trans hx233_2
           replace hx233_3 := (HB.out.cell (World.block_lt_of_cell? w _ hx233_3)).trans hx233_3
           replace p233 := eq_true p233
           replace q233 := eq_true q233
           go_wp2_with (first | ((with_reducible refine gate_dst (N := 4) rfl ?_); refine bE ?hg (N := 4) ?hd (cs := #[.int .i64 0, .int .i64 0, .int .i64 0, .int .i64 0]) (t := 37) ?hr ?_; (case hd => rfl); (case hg => rfl); (case hr => first | (go_simp; done) | (go_simp; rfl)); intro gb234 hg w20 hbox hb; have n0_ := Z0.mk (kB (g := gb232) (o := .cells #[.int .i64 a0_0, .slice (some ad233) l0_1.length c0_1] 24 (0, 0)) (by (with_reducible repeat (first | refine kN ?_ _ | refine kD ?_ | refine kA ?_ _)); exact BK232.out) hb); have n1_ := Z0.mk (bT (by repeat (first | (with_reducible first | exact HB.out | apply below_alloc | apply bN | apply bD | refine bS ?_ GE232.out) | exact HB.out)) hb); have n2_ := Z0.mk (hbox); have n3_ := Z0.mk ((by rw [hg]; exact (bZ (by repeat (first | (with_reducible first | exact HB.out | apply below_alloc | apply bN | apply bD | refine bS ?_ GE232.out) | exact HB.out))) : w.heap.size ≤ gb234)); have n4_ := Z0.mk ((by rw [hg]; exact (bZ (by repeat (first | (with_reducible first | exact HB.out | apply below_alloc | apply bN | apply bD | refine bS ?_ GE232.out) | exact HB.out))) : w.heap.size ≤ gb234)); have n5_ := Z0.mk ((by rw [hg]; exact Nat.ne_of_lt (blk_lt (g := gb232) (o := .cells #[.int .i64 a0_0, .slice (some ad233) l0_1.length c0_1] 24 (0, 0)) (by (with_reducible repeat (first | refine kN ?_ _ | refine kD ?_ | refine kA ?_ _)); exact BK232.out)) : gb232 ≠ gb234)); have n6_ := Z0.mk ((by rw [hg]; exact Nat.ne_of_gt (blk_lt (g := gb232) (o := .cells #[.int .i64 a0_0, .slice (some ad233) l0_1.length c0_1] 24 (0, 0)) (by (with_reducible repeat (first | refine kN ?_ _ | refine kD ?_ | refine kA ?_ _)); exact BK232.out)) : gb234 ≠ gb232)); clear BK232; clear HB; have BK232 := n0_; have HB := n1_; have BK234 := n2_; have GW234 := n3_; have GE234 := n4_; have NB232_234 := n5_; have NB234_232 := n6_; clear n0_ n1_ n2_ n3_ n4_ n5_ n6_; clear hb hbox hg; have hnb21 := NB234_232.out; have hnc21 := NB232_234.out; have hcz22_0 : w20.cell? ⟨gb234, 0, none⟩ = some (.int .i64 0) := (kC BK234.out 0).trans rfl; have hcz22_1 : w20.cell? ⟨gb234, 1, none⟩ = some (.int .i64 0) := (kC BK234.out 1).trans rfl; have hcz22_2 : w20.cell? ⟨gb234, 2, none⟩ = some (.int .i64 0) := (kC BK234.out 2).trans rfl; have hcz22_3 : w20.cell? ⟨gb234, 3, none⟩ = some (.int .i64 0) := (kC BK234.out 3).trans rfl; have hfz22_0 := kF BK234.out 0; have hfz22_1 := kF BK234.out 1; have hfz22_2 := kF BK234.out 2; have hfz22_3 := kF BK234.out 3; have hcz23_0 : w20.cell? ⟨gb232, 0, none⟩ = some (.int .i64 a0_0) := (kC BK232.out 0).trans rfl; have hcz23_1 : w20.cell? ⟨gb232, 1, none⟩ = some (.slice (some ad233) l0_1.length c0_1) := (kC BK232.out 1).trans rfl; have hfz23_0 := kF BK232.out 0; have hfz23_1 := kF BK232.out 1))
           go_ret
           exact ⟨by first | rfl | (simp [errW_none, errW_some] <;> rfl) | (simp [*, errW_none, errW_some] <;> rfl), by repeat (first | (with_reducible first | exact HB.out | apply below_alloc | apply bN | apply bD | refine bS ?_ GE232.out | refine bS ?_ GE234.out) | exact HB.out)⟩
          ·rw [if_neg c18] at H
           have c18b0 : decide (a0_0 ≤ ((rd_T37 l0_1 x3_2).f0)) = false := decide_eq_false c18
           clear c18
           by_cases c24 : ((rd_T37 l0_1 x3_2).f1) < 0
           ·rw [if_pos c24] at H
            have c24b0 : decide (((rd_T37 l0_1 x3_2).f1) < 0) = true := decide_eq_true c24
            clear c24
            obtain rfl := Option.some.inj H
            have hcz25_0 : wr.cell? ⟨gb232, 0, none⟩ = some (.int .i64 a0_0) := (kC BK232.out 0).trans rfl
            have hcz25_1 : wr.cell? ⟨gb232, 1, none⟩ = some (.slice A0_1 l0_1.length c0_1) := (kC BK232.out 1).trans rfl
            have hfz25_0 := kF BK232.out 0
            have hfz25_1 := kF BK232.out 1
            have p233 : 0 ≤ (x3_2 : Int) := of_decide_eq_true (by first | (with_reducible assumption) | assumption)
            have q233 : x3_2 < (l0_1.length : Int) := of_decide_eq_true (by first | (with_reducible assumption) | assumption)
            obtain ⟨ad233, e233, hx233_0, hx233_1, hx233_2, hx233_3⟩ := at_T37 HR0_1.out x3_2 p233 q233
            cases e233
            replace hx233_0 := (HB.out.cell (World.block_lt_of_cell? w _ hx233_0)).trans hx233_0
            replace hx233_1 := (HB.out.cell (World.block_lt_of_cell? w _ hx233_1)).trans hx233_1
            replace hx233_2 := (HB.out.cell (World.block_lt_of_cell? w _ hx233_2)).trans hx233_2
            replace hx233_3 := (HB.out.cell (World.block_lt_of_cell? w _ hx233_3)).trans hx233_3
            replace p233 := eq_true p233
            replace q233 := eq_true q233
            go_wp2_with (first | ((with_reducible refine gate_dst (N := 4) rfl ?_); refine bE ?hg (N := 4) ?hd (cs := #[.int .i64 0, .int .i64 0, .int .i64 0, .int .i64 0]) (t := 37) ?hr ?_; (case hd => rfl); (case hg => rfl); (case hr => first | (go_simp; done) | (go_simp; rfl)); intro gb234 hg w26 hbox hb; have n0_ := Z0.mk (kB (g := gb232) (o := .cells #[.int .i64 a0_0, .slice (some ad233) l0_1.length c0_1] 24 (0, 0)) (by (with_reducible repeat (first | refine kN ?_ _ | refine kD ?_ | refine kA ?_ _)); exact BK232.out) hb); have n1_ := Z0.mk (bT (by repeat (first | (with_reducible first | exact HB.out | apply below_alloc | apply bN | apply bD | refine bS ?_ GE232.out) | exact HB.out)) hb); have n2_ := Z0.mk (hbox); have n3_ := Z0.mk ((by rw [hg]; exact (bZ (by repeat (first | (with_reducible first | exact HB.out | apply below_alloc | apply bN | apply bD | refine bS ?_ GE232.out) | exact HB.out))) : w.heap.size ≤ gb234)); have n4_ := Z0.mk ((by rw [hg]; exact (bZ (by repeat (first | (with_reducible first | exact HB.out | apply below_alloc | apply bN | apply bD | refine bS ?_ GE232.out) | exact HB.out))) : w.heap.size ≤ gb234)); have n5_ := Z0.mk ((by rw [hg]; exact Nat.ne_of_lt (blk_lt (g := gb232) (o := .cells #[.int .i64 a0_0, .slice (some ad233) l0_1.length c0_1] 24 (0, 0)) (by (with_reducible repeat (first | refine kN ?_ _ | refine kD ?_ | refine kA ?_ _)); exact BK232.out)) : gb232 ≠ gb234)); have n6_ := Z0.mk ((by rw [hg]; exact Nat.ne_of_gt (blk_lt (g := gb232) (o := .cells #[.int .i64 a0_0, .slice (some ad233) l0_1.length c0_1] 24 (0, 0)) (by (with_reducible repeat (first | refine kN ?_ _ | refine kD ?_ | refine kA ?_ _)); exact BK232.out)) : gb234 ≠ gb232)); clear BK232; clear HB; have BK232 := n0_; have HB := n1_; have BK234 := n2_; have GW234 := n3_; have GE234 := n4_; have NB232_234 := n5_; have NB234_232 := n6_; clear n0_ n1_ n2_ n3_ n4_ n5_ n6_; clear hb hbox hg; have hnb27 := NB234_232.out; have hnc27 := NB232_234.out; have hcz28_0 : w26.cell? ⟨gb234, 0, none⟩ = some (.int .i64 0) := (kC BK234.out 0).trans rfl; have hcz28_1 : w26.cell? ⟨gb234, 1, none⟩ = some (.int .i64 0) := (kC BK234.out 1).trans rfl; have hcz28_2 : w26.cell? ⟨gb234, 2, none⟩ = some (.int .i64 0) := (kC BK234.out 2).trans rfl; have hcz28_3 : w26.cell? ⟨gb234, 3, none⟩ = some (.int .i64 0) := (kC BK234.out 3).trans rfl; have hfz28_0 := kF BK234.out 0; have hfz28_1 := kF BK234.out 1; have hfz28_2 := kF BK234.out 2; have hfz28_3 := kF BK234.out 3; have hcz29_0 : w26.cell? ⟨gb232, 0, none⟩ = some (.int .i64 a0_0) := (kC BK232.out 0).trans rfl; have hcz29_1 : w26.cell? ⟨gb232, 1, none⟩ = some (.slice (some ad233) l0_1.length c0_1) := (kC BK232.out 1).trans rfl; have hfz29_0 := kF BK232.out 0; have hfz29_1 := kF BK232.out 1))
            go_ret
            exact ⟨by first | rfl | (simp [errW_none, errW_some] <;> rfl) | (simp [*, errW_none, errW_some] <;> rfl), by repeat (first | (with_reducible first | exact HB.out | apply below_alloc | apply bN | apply bD | refine bS ?_ GE232.out | refine bS ?_ GE234.out) | exact HB.out)⟩
           ·rw [if_neg c24] at H
            have c24b0 : decide (((rd_T37 l0_1 x3_2).f1) < 0) = false := decide_eq_false c24
            clear c24
            by_cases c30 : ((rd_T37 l0_1 x3_2).f1) ≥ a0_0
            ·rw [if_pos c30] at H
             have c30b0 : decide (a0_0 ≤ ((rd_T37 l0_1 x3_2).f1)) = true := decide_eq_true c30
             clear c30
             obtain rfl := Option.some.inj H
             have hcz31_0 : wr.cell? ⟨gb232, 0, none⟩ = some (.int .i64 a0_0) := (kC BK232.out 0).trans rfl
             have hcz31_1 : wr.cell? ⟨gb232, 1, none⟩ = some (.slice A0_1 l0_1.length c0_1) := (kC BK232.out 1).trans rfl
             have hfz31_0 := kF BK232.out 0
             have hfz31_1 := kF BK232.out 1
             have p233 : 0 ≤ (x3_2 : Int) := of_decide_eq_true (by first | (with_reducible assumption) | assumption)
             have q233 : x3_2 < (l0_1.length : Int) := of_decide_eq_true (by first | (with_reducible assumption) | assumption)
             obtain ⟨ad233, e233, hx233_0, hx233_1, hx233_2, hx233_3⟩ := at_T37 HR0_1.out x3_2 p233 q233
             cases e233
             replace hx233_0 := (HB.out.cell (World.block_lt_of_cell? w _ hx233_0)).trans hx233_0
             replace hx233_1 := (HB.out.cell (World.block_lt_of_cell? w _ hx233_1)).trans hx233_1
             replace hx233_2 := (HB.out.cell (World.block_lt_of_cell? w _ hx233_2)).trans hx233_2
             replace hx233_3 := (HB.out.cell (World.block_lt_of_cell? w _ hx233_3)).trans hx233_3
             replace p233 := eq_true p233
             replace q233 := eq_true q233
             go_wp2_with (first | ((with_reducible refine gate_dst (N := 4) rfl ?_); refine bE ?hg (N := 4) ?hd (cs := #[.int .i64 0, .int .i64 0, .int .i64 0, .int .i64 0]) (t := 37) ?hr ?_; (case hd => rfl); (case hg => rfl); (case hr => first | (go_simp; done) | (go_simp; rfl)); intro gb234 hg w32 hbox hb; have n0_ := Z0.mk (kB (g := gb232) (o := .cells #[.int .i64 a0_0, .slice (some ad233) l0_1.length c0_1] 24 (0, 0)) (by (with_reducible repeat (first | refine kN ?_ _ | refine kD ?_ | refine kA ?_ _)); exact BK232.out) hb); have n1_ := Z0.mk (bT (by repeat (first | (with_reducible first | exact HB.out | apply below_alloc | apply bN | apply bD | refine bS ?_ GE232.out) | exact HB.out)) hb); have n2_ := Z0.mk (hbox); have n3_ := Z0.mk ((by rw [hg]; exact (bZ (by repeat (first | (with_reducible first | exact HB.out | apply below_alloc | apply bN | apply bD | refine bS ?_ GE232.out) | exact HB.out))) : w.heap.size ≤ gb234)); have n4_ := Z0.mk ((by rw [hg]; exact (bZ (by repeat (first | (with_reducible first | exact HB.out | apply below_alloc | apply bN | apply bD | refine bS ?_ GE232.out) | exact HB.out))) : w.heap.size ≤ gb234)); have n5_ := Z0.mk ((by rw [hg]; exact Nat.ne_of_lt (blk_lt (g := gb232) (o := .cells #[.int .i64 a0_0, .slice (some ad233) l0_1.length c0_1] 24 (0, 0)) (by (with_reducible repeat (first | refine kN ?_ _ | refine kD ?_ | refine kA ?_ _)); exact BK232.out)) : gb232 ≠ gb234)); have n6_ := Z0.mk ((by rw [hg]; exact Nat.ne_of_gt (blk_lt (g := gb232) (o := .cells #[.int .i64 a0_0, .slice (some ad233) l0_1.length c0_1] 24 (0, 0)) (by (with_reducible repeat (first | refine kN ?_ _ | refine kD ?_ | refine kA ?_ _)); exact BK232.out)) : gb234 ≠ gb232)); clear BK232; clear HB; have BK232 := n0_; have HB := n1_; have BK234 := n2_; have GW234 := n3_; have GE234 := n4_; have NB232_234 := n5_; have NB234_232 := n6_; clear n0_ n1_ n2_ n3_ n4_ n5_ n6_; clear hb hbox hg; have hnb33 := NB234_232.out; have hnc33 := NB232_234.out; have hcz34_0 : w32.cell? ⟨gb234, 0, none⟩ = some (.int .i64 0) := (kC BK234.out 0).trans rfl; have hcz34_1 : w32.cell? ⟨gb234, 1, none⟩ = some (.int .i64 0) := (kC BK234.out 1).trans rfl; have hcz34_2 : w32.cell? ⟨gb234, 2, none⟩ = some (.int .i64 0) := (kC BK234.out 2).trans rfl; have hcz34_3 : w32.cell? ⟨gb234, 3, none⟩ = some (.int .i64 0) := (kC BK234.out 3).trans rfl; have hfz34_0 := kF BK234.out 0; have hfz34_1 := kF BK234.out 1; have hfz34_2 := kF BK234.out 2; have hfz34_3 := kF BK234.out 3; have hcz35_0 : w32.cell? ⟨gb232, 0, none⟩ = some (.int .i64 a0_0) := (kC BK232.out 0).trans rfl; have hcz35_1 : w32.cell? ⟨gb232, 1, none⟩ = some (.slice (some ad233) l0_1.length c0_1) := (kC BK232.out 1).trans rfl; have hfz35_0 := kF BK232.out 0; have hfz35_1 := kF BK232.out 1))
             go_ret
             exact ⟨by first | rfl | (simp [errW_none, errW_some] <;> rfl) | (simp [*, errW_none, errW_some] <;> rfl), by repeat (first | (with_reducible first | exact HB.out | apply below_alloc | apply bN | apply bD | refine bS ?_ GE232.out | refine bS ?_ GE234.out) | exact HB.out)⟩
            ·rw [if_neg c30] at H
             have c30b0 : decide (a0_0 ≤ ((rd_T37 l0_1 x3_2).f1)) = false := decide_eq_false c30
             clear c30
             by_cases c36 : ((rd_T37 l0_1 x3_2).f0) = ((rd_T37 l0_1 x3_2).f1)
             ·rw [if_pos c36] at H
              have c36b0 : (((rd_T37 l0_1 x3_2).f0) == ((rd_T37 l0_1 x3_2).f1)) = true := beq_iff_eq.mpr c36
              have c36b1 : (((rd_T37 l0_1 x3_2).f0) != ((rd_T37 l0_1 x3_2).f1)) = false := bne_eq_false_iff_eq.mpr c36
              clear c36
              obtain rfl := Option.some.inj H
              have hcz37_0 : wr.cell? ⟨gb232, 0, none⟩ = some (.int .i64 a0_0) := (kC BK232.out 0).trans rfl
              have hcz37_1 : wr.cell? ⟨gb232, 1, none⟩ = some (.slice A0_1 l0_1.length c0_1) := (kC BK232.out 1).trans rfl
              have hfz37_0 := kF BK232.out 0
              have hfz37_1 := kF BK232.out 1
              have p233 : 0 ≤ (x3_2 : Int) := of_decide_eq_true (by first | (with_reducible assumption) | assumption)
              have q233 : x3_2 < (l0_1.length : Int) := of_decide_eq_true (by first | (with_reducible assumption) | assumption)
              obtain ⟨ad233, e233, hx233_0, hx233_1, hx233_2, hx233_3⟩ := at_T37 HR0_1.out x3_2 p233 q233
              cases e233
              replace hx233_0 := (HB.out.cell (World.block_lt_of_cell? w _ hx233_0)).trans hx233_0
              replace hx233_1 := (HB.out.cell (World.block_lt_of_cell? w _ hx233_1)).trans hx233_1
              replace hx233_2 := (HB.out.cell (World.block_lt_of_cell? w _ hx233_2)).trans hx233_2
              replace hx233_3 := (HB.out.cell (World.block_lt_of_cell? w _ hx233_3)).trans hx233_3
              replace p233 := eq_true p233
              replace q233 := eq_true q233
              go_wp2_with (first | ((with_reducible refine gate_dst (N := 4) rfl ?_); refine bE ?hg (N := 4) ?hd (cs := #[.int .i64 0, .int .i64 0, .int .i64 0, .int .i64 0]) (t := 37) ?hr ?_; (case hd => rfl); (case hg => rfl); (case hr => first | (go_simp; done) | (go_simp; rfl)); intro gb234 hg w38 hbox hb; have n0_ := Z0.mk (kB (g := gb232) (o := .cells #[.int .i64 a0_0, .slice (some ad233) l0_1.length c0_1] 24 (0, 0)) (by (with_reducible repeat (first | refine kN ?_ _ | refine kD ?_ | refine kA ?_ _)); exact BK232.out) hb); have n1_ := Z0.mk (bT (by repeat (first | (with_reducible first | exact HB.out | apply below_alloc | apply bN | apply bD | refine bS ?_ GE232.out) | exact HB.out)) hb); have n2_ := Z0.mk (hbox); have n3_ := Z0.mk ((by rw [hg]; exact (bZ (by repeat (first | (with_reducible first | exact HB.out | apply below_alloc | apply bN | apply bD | refine bS ?_ GE232.out) | exact HB.out))) : w.heap.size ≤ gb234)); have n4_ := Z0.mk ((by rw [hg]; exact (bZ (by repeat (first | (with_reducible first | exact HB.out | apply below_alloc | apply bN | apply bD | refine bS ?_ GE232.out) | exact HB.out))) : w.heap.size ≤ gb234)); have n5_ := Z0.mk ((by rw [hg]; exact Nat.ne_of_lt (blk_lt (g := gb232) (o := .cells #[.int .i64 a0_0, .slice (some ad233) l0_1.length c0_1] 24 (0, 0)) (by (with_reducible repeat (first | refine kN ?_ _ | refine kD ?_ | refine kA ?_ _)); exact BK232.out)) : gb232 ≠ gb234)); have n6_ := Z0.mk ((by rw [hg]; exact Nat.ne_of_gt (blk_lt (g := gb232) (o := .cells #[.int .i64 a0_0, .slice (some ad233) l0_1.length c0_1] 24 (0, 0)) (by (with_reducible repeat (first | refine kN ?_ _ | refine kD ?_ | refine kA ?_ _)); exact BK232.out)) : gb234 ≠ gb232)); clear BK232; clear HB; have BK232 := n0_; have HB := n1_; have BK234 := n2_; have GW234 := n3_; have GE234 := n4_; have NB232_234 := n5_; have NB234_232 := n6_; clear n0_ n1_ n2_ n3_ n4_ n5_ n6_; clear hb hbox hg; have hnb39 := NB234_232.out; have hnc39 := NB232_234.out; have hcz40_0 : w38.cell? ⟨gb234, 0, none⟩ = some (.int .i64 0) := (kC BK234.out 0).trans rfl; have hcz40_1 : w38.cell? ⟨gb234, 1, none⟩ = some (.int .i64 0) := (kC BK234.out 1).trans rfl; have hcz40_2 : w38.cell? ⟨gb234, 2, none⟩ = some (.int .i64 0) := (kC BK234.out 2).trans rfl; have hcz40_3 : w38.cell? ⟨gb234, 3, none⟩ = some (.int .i64 0) := (kC BK234.out 3).trans rfl; have hfz40_0 := kF BK234.out 0; have hfz40_1 := kF BK234.out 1; have hfz40_2 := kF BK234.out 2; have hfz40_3 := kF BK234.out 3; have hcz41_0 : w38.cell? ⟨gb232, 0, none⟩ = some (.int .i64 a0_0) := (kC BK232.out 0).trans rfl; have hcz41_1 : w38.cell? ⟨gb232, 1, none⟩ = some (.slice (some ad233) l0_1.length c0_1) := (kC BK232.out 1).trans rfl; have hfz41_0 := kF BK232.out 0; have hfz41_1 := kF BK232.out 1))
              go_ret
              exact ⟨by first | rfl | (simp [errW_none, errW_some] <;> rfl) | (simp [*, errW_none, errW_some] <;> rfl), by repeat (first | (with_reducible first | exact HB.out | apply below_alloc | apply bN | apply bD | refine bS ?_ GE232.out | refine bS ?_ GE234.out) | exact HB.out)⟩
             ·rw [if_neg c36] at H
              have c36b0 : (((rd_T37 l0_1 x3_2).f0) == ((rd_T37 l0_1 x3_2).f1)) = false := beq_eq_false_iff_ne.mpr c36
              have c36b1 : (((rd_T37 l0_1 x3_2).f0) != ((rd_T37 l0_1 x3_2).f1)) = true := bne_iff_ne.mpr c36
              by_cases c42 : ((rd_T37 l0_1 x3_2).f2) < 1
              ·rw [if_pos c42] at H
               have c42b0 : decide (((rd_T37 l0_1 x3_2).f2) < 1) = true := decide_eq_true c42
               clear c42
               obtain rfl := Option.some.inj H
               have hcz43_0 : wr.cell? ⟨gb232, 0, none⟩ = some (.int .i64 a0_0) := (kC BK232.out 0).trans rfl
               have hcz43_1 : wr.cell? ⟨gb232, 1, none⟩ = some (.slice A0_1 l0_1.length c0_1) := (kC BK232.out 1).trans rfl
               have hfz43_0 := kF BK232.out 0
               have hfz43_1 := kF BK232.out 1
               have p233 : 0 ≤ (x3_2 : Int) := of_decide_eq_true (by first | (with_reducible assumption) | assumption)
               have q233 : x3_2 < (l0_1.length : Int) := of_decide_eq_true (by first | (with_reducible assumption) | assumption)
               obtain ⟨ad233, e233, hx233_0, hx233_1, hx233_2, hx233_3⟩ := at_T37 HR0_1.out x3_2 p233 q233
               cases e233
               replace hx233_0 := (HB.out.cell (World.block_lt_of_cell? w _ hx233_0)).trans hx233_0
               replace hx233_1 := (HB.out.cell (World.block_lt_of_cell? w _ hx233_1)).trans hx233_1
               replace hx233_2 := (HB.out.cell (World.block_lt_of_cell? w _ hx233_2)).trans hx233_2
               replace hx233_3 := (HB.out.cell (World.block_lt_of_cell? w _ hx233_3)).trans hx233_3
               replace p233 := eq_true p233
               replace q233 := eq_true q233
               go_wp2_with (first | ((with_reducible refine gate_dst (N := 4) rfl ?_); refine bE ?hg (N := 4) ?hd (cs := #[.int .i64 0, .int .i64 0, .int .i64 0, .int .i64 0]) (t := 37) ?hr ?_; (case hd => rfl); (case hg => rfl); (case hr => first | (go_simp; done) | (go_simp; rfl)); intro gb234 hg w44 hbox hb; have n0_ := Z0.mk (kB (g := gb232) (o := .cells #[.int .i64 a0_0, .slice (some ad233) l0_1.length c0_1] 24 (0, 0)) (by (with_reducible repeat (first | refine kN ?_ _ | refine kD ?_ | refine kA ?_ _)); exact BK232.out) hb); have n1_ := Z0.mk (bT (by repeat (first | (with_reducible first | exact HB.out | apply below_alloc | apply bN | apply bD | refine bS ?_ GE232.out) | exact HB.out)) hb); have n2_ := Z0.mk (hbox); have n3_ := Z0.mk ((by rw [hg]; exact (bZ (by repeat (first | (with_reducible first | exact HB.out | apply below_alloc | apply bN | apply bD | refine bS ?_ GE232.out) | exact HB.out))) : w.heap.size ≤ gb234)); have n4_ := Z0.mk ((by rw [hg]; exact (bZ (by repeat (first | (with_reducible first | exact HB.out | apply below_alloc | apply bN | apply bD | refine bS ?_ GE232.out) | exact HB.out))) : w.heap.size ≤ gb234)); have n5_ := Z0.mk ((by rw [hg]; exact Nat.ne_of_lt (blk_lt (g := gb232) (o := .cells #[.int .i64 a0_0, .slice (some ad233) l0_1.length c0_1] 24 (0, 0)) (by (with_reducible repeat (first | refine kN ?_ _ | refine kD ?_ | refine kA ?_ _)); exact BK232.out)) : gb232 ≠ gb234)); have n6_ := Z0.mk ((by rw [hg]; exact Nat.ne_of_gt (blk_lt (g := gb232) (o := .cells #[.int .i64 a0_0, .slice (some ad233) l0_1.length c0_1] 24 (0, 0)) (by (with_reducible repeat (first | refine kN ?_ _ | refine kD ?_ | refine kA ?_ _)); exact BK232.out)) : gb234 ≠ gb232)); clear BK232; clear HB; have BK232 := n0_; have HB := n1_; have BK234 := n2_; have GW234 := n3_; have GE234 := n4_; have NB232_234 := n5_; have NB234_232 := n6_; clear n0_ n1_ n2_ n3_ n4_ n5_ n6_; clear hb hbox hg; have hnb45 := NB234_232.out; have hnc45 := NB232_234.out; have hcz46_0 : w44.cell? ⟨gb234, 0, none⟩ = some (.int .i64 0) := (kC BK234.out 0).trans rfl; have hcz46_1 : w44.cell? ⟨gb234, 1, none⟩ = some (.int .i64 0) := (kC BK234.out 1).trans rfl; have hcz46_2 : w44.cell? ⟨gb234, 2, none⟩ = some (.int .i64 0) := (kC BK234.out 2).trans rfl; have hcz46_3 : w44.cell? ⟨gb234, 3, none⟩ = some (.int .i64 0) := (kC BK234.out 3).trans rfl; have hfz46_0 := kF BK234.out 0; have hfz46_1 := kF BK234.out 1; have hfz46_2 := kF BK234.out 2; have hfz46_3 := kF BK234.out 3; have hcz47_0 : w44.cell? ⟨gb232, 0, none⟩ = some (.int .i64 a0_0) := (kC BK232.out 0).trans rfl; have hcz47_1 : w44.cell? ⟨gb232, 1, none⟩ = some (.slice (some ad233) l0_1.length c0_1) := (kC BK232.out 1).trans rfl; have hfz47_0 := kF BK232.out 0; have hfz47_1 := kF BK232.out 1))
               go_ret
               exact ⟨by first | rfl | (simp [errW_none, errW_some] <;> rfl) | (simp [*, errW_none, errW_some] <;> rfl), by repeat (first | (with_reducible first | exact HB.out | apply below_alloc | apply bN | apply bD | refine bS ?_ GE232.out | refine bS ?_ GE234.out) | exact HB.out)⟩
              ·rw [if_neg c42] at H
               have c42b0 : decide (((rd_T37 l0_1 x3_2).f2) < 1) = false := decide_eq_false c42
               clear c42
               by_cases c48 : ((rd_T37 l0_1 x3_2).f2) > 1000
               ·rw [if_pos c48] at H
                have c48b0 : decide (1000 < ((rd_T37 l0_1 x3_2).f2)) = true := decide_eq_true c48
                clear c48
                obtain rfl := Option.some.inj H
                have hcz49_0 : wr.cell? ⟨gb232, 0, none⟩ = some (.int .i64 a0_0) := (kC BK232.out 0).trans rfl
                have hcz49_1 : wr.cell? ⟨gb232, 1, none⟩ = some (.slice A0_1 l0_1.length c0_1) := (kC BK232.out 1).trans rfl
                have hfz49_0 := kF BK232.out 0
                have hfz49_1 := kF BK232.out 1
                have p233 : 0 ≤ (x3_2 : Int) := of_decide_eq_true (by first | (with_reducible assumption) | assumption)
                have q233 : x3_2 < (l0_1.length : Int) := of_decide_eq_true (by first | (with_reducible assumption) | assumption)
                obtain ⟨ad233, e233, hx233_0, hx233_1, hx233_2, hx233_3⟩ := at_T37 HR0_1.out x3_2 p233 q233
                cases e233
                replace hx233_0 := (HB.out.cell (World.block_lt_of_cell? w _ hx233_0)).trans hx233_0
                replace hx233_1 := (HB.out.cell (World.block_lt_of_cell? w _ hx233_1)).trans hx233_1
                replace hx233_2 := (HB.out.cell (World.block_lt_of_cell? w _ hx233_2)).trans hx233_2
                replace hx233_3 := (HB.out.cell (World.block_lt_of_cell? w _ hx233_3)).trans hx233_3
                replace p233 := eq_true p233
                replace q233 := eq_true q233
                go_wp2_with (first | ((with_reducible refine gate_dst (N := 4) rfl ?_); refine bE ?hg (N := 4) ?hd (cs := #[.int .i64 0, .int .i64 0, .int .i64 0, .int .i64 0]) (t := 37) ?hr ?_; (case hd => rfl); (case hg => rfl); (case hr => first | (go_simp; done) | (go_simp; rfl)); intro gb234 hg w50 hbox hb; have n0_ := Z0.mk (kB (g := gb232) (o := .cells #[.int .i64 a0_0, .slice (some ad233) l0_1.length c0_1] 24 (0, 0)) (by (with_reducible repeat (first | refine kN ?_ _ | refine kD ?_ | refine kA ?_ _)); exact BK232.out) hb); have n1_ := Z0.mk (bT (by repeat (first | (with_reducible first | exact HB.out | apply below_alloc | apply bN | apply bD | refine bS ?_ GE232.out) | exact HB.out)) hb); have n2_ := Z0.mk (hbox); have n3_ := Z0.mk ((by rw [hg]; exact (bZ (by repeat (first | (with_reducible first | exact HB.out | apply below_alloc | apply bN | apply bD | refine bS ?_ GE232.out) | exact HB.out))) : w.heap.size ≤ gb234)); have n4_ := Z0.mk ((by rw [hg]; exact (bZ (by repeat (first | (with_reducible first | exact HB.out | apply below_alloc | apply bN | apply bD | refine bS ?_ GE232.out) | exact HB.out))) : w.heap.size ≤ gb234)); have n5_ := Z0.mk ((by rw [hg]; exact Nat.ne_of_lt (blk_lt (g := gb232) (o := .cells #[.int .i64 a0_0, .slice (some ad233) l0_1.length c0_1] 24 (0, 0)) (by (with_reducible repeat (first | refine kN ?_ _ | refine kD ?_ | refine kA ?_ _)); exact BK232.out)) : gb232 ≠ gb234)); have n6_ := Z0.mk ((by rw [hg]; exact Nat.ne_of_gt (blk_lt (g := gb232) (o := .cells #[.int .i64 a0_0, .slice (some ad233) l0_1.length c0_1] 24 (0, 0)) (by (with_reducible repeat (first | refine kN ?_ _ | refine kD ?_ | refine kA ?_ _)); exact BK232.out)) : gb234 ≠ gb232)); clear BK232; clear HB; have BK232 := n0_; have HB := n1_; have BK234 := n2_; have GW234 := n3_; have GE234 := n4_; have NB232_234 := n5_; have NB234_232 := n6_; clear n0_ n1_ n2_ n3_ n4_ n5_ n6_; clear hb hbox hg; have hnb51 := NB234_232.out; have hnc51 := NB232_234.out; have hcz52_0 : w50.cell? ⟨gb234, 0, none⟩ = some (.int .i64 0) := (kC BK234.out 0).trans rfl; have hcz52_1 : w50.cell? ⟨gb234, 1, none⟩ = some (.int .i64 0) := (kC BK234.out 1).trans rfl; have hcz52_2 : w50.cell? ⟨gb234, 2, none⟩ = some (.int .i64 0) := (kC BK234.out 2).trans rfl; have hcz52_3 : w50.cell? ⟨gb234, 3, none⟩ = some (.int .i64 0) := (kC BK234.out 3).trans rfl; have hfz52_0 := kF BK234.out 0; have hfz52_1 := kF BK234.out 1; have hfz52_2 := kF BK234.out 2; have hfz52_3 := kF BK234.out 3; have hcz53_0 : w50.cell? ⟨gb232, 0, none⟩ = some (.int .i64 a0_0) := (kC BK232.out 0).trans rfl; have hcz53_1 : w50.cell? ⟨gb232, 1, none⟩ = some (.slice (some ad233) l0_1.length c0_1) := (kC BK232.out 1).trans rfl; have hfz53_0 := kF BK232.out 0; have hfz53_1 := kF BK232.out 1))
                go_ret
                exact ⟨by first | rfl | (simp [errW_none, errW_some] <;> rfl) | (simp [*, errW_none, errW_some] <;> rfl), by repeat (first | (with_reducible first | exact HB.out | apply below_alloc | apply bN | apply bD | refine bS ?_ GE232.out | refine bS ?_ GE234.out) | exact HB.out)⟩
               ·rw [if_neg c48] at H
                have c48b0 : decide (1000 < ((rd_T37 l0_1 x3_2).f2)) = false := decide_eq_false c48
                clear c48
                by_cases c54 : ((rd_T37 l0_1 x3_2).f3) < 0
                ·rw [if_pos c54] at H
                 have c54b0 : decide (((rd_T37 l0_1 x3_2).f3) < 0) = true := decide_eq_true c54
                 clear c54
                 obtain rfl := Option.some.inj H
                 have hcz55_0 : wr.cell? ⟨gb232, 0, none⟩ = some (.int .i64 a0_0) := (kC BK232.out 0).trans rfl
                 have hcz55_1 : wr.cell? ⟨gb232, 1, none⟩ = some (.slice A0_1 l0_1.length c0_1) := (kC BK232.out 1).trans rfl
                 have hfz55_0 := kF BK232.out 0
                 have hfz55_1 := kF BK232.out 1
                 have p233 : 0 ≤ (x3_2 : Int) := of_decide_eq_true (by first | (with_reducible assumption) | assumption)
                 have q233 : x3_2 < (l0_1.length : Int) := of_decide_eq_true (by first | (with_reducible assumption) | assumption)
                 obtain ⟨ad233, e233, hx233_0, hx233_1, hx233_2, hx233_3⟩ := at_T37 HR0_1.out x3_2 p233 q233
                 cases e233
                 replace hx233_0 := (HB.out.cell (World.block_lt_of_cell? w _ hx233_0)).trans hx233_0
                 replace hx233_1 := (HB.out.cell (World.block_lt_of_cell? w _ hx233_1)).trans hx233_1
                 replace hx233_2 := (HB.out.cell (World.block_lt_of_cell? w _ hx233_2)).trans hx233_2
                 replace hx233_3 := (HB.out.cell (World.block_lt_of_cell? w _ hx233_3)).trans hx233_3
                 replace p233 := eq_true p233
                 replace q233 := eq_true q233
                 go_wp2_with (first | ((with_reducible refine gate_dst (N := 4) rfl ?_); refine bE ?hg (N := 4) ?hd (cs := #[.int .i64 0, .int .i64 0, .int .i64 0, .int .i64 0]) (t := 37) ?hr ?_; (case hd => rfl); (case hg => rfl); (case hr => first | (go_simp; done) | (go_simp; rfl)); intro gb234 hg w56 hbox hb; have n0_ := Z0.mk (kB (g := gb232) (o := .cells #[.int .i64 a0_0, .slice (some ad233) l0_1.length c0_1] 24 (0, 0)) (by (with_reducible repeat (first | refine kN ?_ _ | refine kD ?_ | refine kA ?_ _)); exact BK232.out) hb); have n1_ := Z0.mk (bT (by repeat (first | (with_reducible first | exact HB.out | apply below_alloc | apply bN | apply bD | refine bS ?_ GE232.out) | exact HB.out)) hb); have n2_ := Z0.mk (hbox); have n3_ := Z0.mk ((by rw [hg]; exact (bZ (by repeat (first | (with_reducible first | exact HB.out | apply below_alloc | apply bN | apply bD | refine bS ?_ GE232.out) | exact HB.out))) : w.heap.size ≤ gb234)); have n4_ := Z0.mk ((by rw [hg]; exact (bZ (by repeat (first | (with_reducible first | exact HB.out | apply below_alloc | apply bN | apply bD | refine bS ?_ GE232.out) | exact HB.out))) : w.heap.size ≤ gb234)); have n5_ := Z0.mk ((by rw [hg]; exact Nat.ne_of_lt (blk_lt (g := gb232) (o := .cells #[.int .i64 a0_0, .slice (some ad233) l0_1.length c0_1] 24 (0, 0)) (by (with_reducible repeat (first | refine kN ?_ _ | refine kD ?_ | refine kA ?_ _)); exact BK232.out)) : gb232 ≠ gb234)); have n6_ := Z0.mk ((by rw [hg]; exact Nat.ne_of_gt (blk_lt (g := gb232) (o := .cells #[.int .i64 a0_0, .slice (some ad233) l0_1.length c0_1] 24 (0, 0)) (by (with_reducible repeat (first | refine kN ?_ _ | refine kD ?_ | refine kA ?_ _)); exact BK232.out)) : gb234 ≠ gb232)); clear BK232; clear HB; have BK232 := n0_; have HB := n1_; have BK234 := n2_; have GW234 := n3_; have GE234 := n4_; have NB232_234 := n5_; have NB234_232 := n6_; clear n0_ n1_ n2_ n3_ n4_ n5_ n6_; clear hb hbox hg; have hnb57 := NB234_232.out; have hnc57 := NB232_234.out; have hcz58_0 : w56.cell? ⟨gb234, 0, none⟩ = some (.int .i64 0) := (kC BK234.out 0).trans rfl; have hcz58_1 : w56.cell? ⟨gb234, 1, none⟩ = some (.int .i64 0) := (kC BK234.out 1).trans rfl; have hcz58_2 : w56.cell? ⟨gb234, 2, none⟩ = some (.int .i64 0) := (kC BK234.out 2).trans rfl; have hcz58_3 : w56.cell? ⟨gb234, 3, none⟩ = some (.int .i64 0) := (kC BK234.out 3).trans rfl; have hfz58_0 := kF BK234.out 0; have hfz58_1 := kF BK234.out 1; have hfz58_2 := kF BK234.out 2; have hfz58_3 := kF BK234.out 3; have hcz59_0 : w56.cell? ⟨gb232, 0, none⟩ = some (.int .i64 a0_0) := (kC BK232.out 0).trans rfl; have hcz59_1 : w56.cell? ⟨gb232, 1, none⟩ = some (.slice (some ad233) l0_1.length c0_1) := (kC BK232.out 1).trans rfl; have hfz59_0 := kF BK232.out 0; have hfz59_1 := kF BK232.out 1))
                 go_ret
                 exact ⟨by first | rfl | (simp [errW_none, errW_some] <;> rfl) | (simp [*, errW_none, errW_some] <;> rfl), by repeat (first | (with_reducible first | exact HB.out | apply below_alloc | apply bN | apply bD | refine bS ?_ GE232.out | refine bS ?_ GE234.out) | exact HB.out)⟩
                ·rw [if_neg c54] at H
                 have c54b0 : decide (((rd_T37 l0_1 x3_2).f3) < 0) = false := decide_eq_false c54
                 clear c54
                 by_cases c60 : ((rd_T37 l0_1 x3_2).f3) > 1000000
                 ·rw [if_pos c60] at H
                  have c60b0 : decide (1000000 < ((rd_T37 l0_1 x3_2).f3)) = true := decide_eq_true c60
                  clear c60
                  obtain rfl := Option.some.inj H
                  have hcz61_0 : wr.cell? ⟨gb232, 0, none⟩ = some (.int .i64 a0_0) := (kC BK232.out 0).trans rfl
                  have hcz61_1 : wr.cell? ⟨gb232, 1, none⟩ = some (.slice A0_1 l0_1.length c0_1) := (kC BK232.out 1).trans rfl
                  have hfz61_0 := kF BK232.out 0
                  have hfz61_1 := kF BK232.out 1
                  have p233 : 0 ≤ (x3_2 : Int) := of_decide_eq_true (by first | (with_reducible assumption) | assumption)
                  have q233 : x3_2 < (l0_1.length : Int) := of_decide_eq_true (by first | (with_reducible assumption) | assumption)
                  obtain ⟨ad233, e233, hx233_0, hx233_1, hx233_2, hx233_3⟩ := at_T37 HR0_1.out x3_2 p233 q233
                  cases e233
                  replace hx233_0 := (HB.out.cell (World.block_lt_of_cell? w _ hx233_0)).trans hx233_0
                  replace hx233_1 := (HB.out.cell (World.block_lt_of_cell? w _ hx233_1)).trans hx233_1
                  replace hx233_2 := (HB.out.cell (World.block_lt_of_cell? w _ hx233_2)).trans hx233_2
                  replace hx233_3 := (HB.out.cell (World.block_lt_of_cell? w _ hx233_3)).trans hx233_3
                  replace p233 := eq_true p233
                  replace q233 := eq_true q233
                  go_wp2_with (first | ((with_reducible refine gate_dst (N := 4) rfl ?_); refine bE ?hg (N := 4) ?hd (cs := #[.int .i64 0, .int .i64 0, .int .i64 0, .int .i64 0]) (t := 37) ?hr ?_; (case hd => rfl); (case hg => rfl); (case hr => first | (go_simp; done) | (go_simp; rfl)); intro gb234 hg w62 hbox hb; have n0_ := Z0.mk (kB (g := gb232) (o := .cells #[.int .i64 a0_0, .slice (some ad233) l0_1.length c0_1] 24 (0, 0)) (by (with_reducible repeat (first | refine kN ?_ _ | refine kD ?_ | refine kA ?_ _)); exact BK232.out) hb); have n1_ := Z0.mk (bT (by repeat (first | (with_reducible first | exact HB.out | apply below_alloc | apply bN | apply bD | refine bS ?_ GE232.out) | exact HB.out)) hb); have n2_ := Z0.mk (hbox); have n3_ := Z0.mk ((by rw [hg]; exact (bZ (by repeat (first | (with_reducible first | exact HB.out | apply below_alloc | apply bN | apply bD | refine bS ?_ GE232.out) | exact HB.out))) : w.heap.size ≤ gb234)); have n4_ := Z0.mk ((by rw [hg]; exact (bZ (by repeat (first | (with_reducible first | exact HB.out | apply below_alloc | apply bN | apply bD | refine bS ?_ GE232.out) | exact HB.out))) : w.heap.size ≤ gb234)); have n5_ := Z0.mk ((by rw [hg]; exact Nat.ne_of_lt (blk_lt (g := gb232) (o := .cells #[.int .i64 a0_0, .slice (some ad233) l0_1.length c0_1] 24 (0, 0)) (by (with_reducible repeat (first | refine kN ?_ _ | refine kD ?_ | refine kA ?_ _)); exact BK232.out)) : gb232 ≠ gb234)); have n6_ := Z0.mk ((by rw [hg]; exact Nat.ne_of_gt (blk_lt (g := gb232) (o := .cells #[.int .i64 a0_0, .slice (some ad233) l0_1.length c0_1] 24 (0, 0)) (by (with_reducible repeat (first | refine kN ?_ _ | refine kD ?_ | refine kA ?_ _)); exact BK232.out)) : gb234 ≠ gb232)); clear BK232; clear HB; have BK232 := n0_; have HB := n1_; have BK234 := n2_; have GW234 := n3_; have GE234 := n4_; have NB232_234 := n5_; have NB234_232 := n6_; clear n0_ n1_ n2_ n3_ n4_ n5_ n6_; clear hb hbox hg; have hnb63 := NB234_232.out; have hnc63 := NB232_234.out; have hcz64_0 : w62.cell? ⟨gb234, 0, none⟩ = some (.int .i64 0) := (kC BK234.out 0).trans rfl; have hcz64_1 : w62.cell? ⟨gb234, 1, none⟩ = some (.int .i64 0) := (kC BK234.out 1).trans rfl; have hcz64_2 : w62.cell? ⟨gb234, 2, none⟩ = some (.int .i64 0) := (kC BK234.out 2).trans rfl; have hcz64_3 : w62.cell? ⟨gb234, 3, none⟩ = some (.int .i64 0) := (kC BK234.out 3).trans rfl; have hfz64_0 := kF BK234.out 0; have hfz64_1 := kF BK234.out 1; have hfz64_2 := kF BK234.out 2; have hfz64_3 := kF BK234.out 3; have hcz65_0 : w62.cell? ⟨gb232, 0, none⟩ = some (.int .i64 a0_0) := (kC BK232.out 0).trans rfl; have hcz65_1 : w62.cell? ⟨gb232, 1, none⟩ = some (.slice (some ad233) l0_1.length c0_1) := (kC BK232.out 1).trans rfl; have hfz65_0 := kF BK232.out 0; have hfz65_1 := kF BK232.out 1))
                  go_ret
                  exact ⟨by first | rfl | (simp [errW_none, errW_some] <;> rfl) | (simp [*, errW_none, errW_some] <;> rfl), by repeat (first | (with_reducible first | exact HB.out | apply below_alloc | apply bN | apply bD | refine bS ?_ GE232.out | refine bS ?_ GE234.out) | exact HB.out)⟩
                 ·rw [if_neg c60] at H
                  have c60b0 : decide (1000000 < ((rd_T37 l0_1 x3_2).f3)) = false := decide_eq_false c60
                  clear c60
                  have H' := Z0.mk H
                  clear H
                  have hcz66_0 : wr.cell? ⟨gb232, 0, none⟩ = some (.int .i64 a0_0) := (kC BK232.out 0).trans rfl
                  have hcz66_1 : wr.cell? ⟨gb232, 1, none⟩ = some (.slice A0_1 l0_1.length c0_1) := (kC BK232.out 1).trans rfl
                  have hfz66_0 := kF BK232.out 0
                  have hfz66_1 := kF BK232.out 1
                  have p233 : 0 ≤ (x3_2 : Int) := of_decide_eq_true (by first | (with_reducible assumption) | assumption)
                  have q233 : x3_2 < (l0_1.length : Int) := of_decide_eq_true (by first | (with_reducible assumption) | assumption)
                  obtain ⟨ad233, e233, hx233_0, hx233_1, hx233_2, hx233_3⟩ := at_T37 HR0_1.out x3_2 p233 q233
                  cases e233
                  replace hx233_0 := (HB.out.cell (World.block_lt_of_cell? w _ hx233_0)).trans hx233_0
                  replace hx233_1 := (HB.out.cell (World.block_lt_of_cell? w _ hx233_1)).trans hx233_1
                  replace hx233_2 := (HB.out.cell (World.block_lt_of_cell? w _ hx233_2)).trans hx233_2
                  replace hx233_3 := (HB.out.cell (World.block_lt_of_cell? w _ hx233_3)).trans hx233_3
                  replace p233 := eq_true p233
                  replace q233 := eq_true q233
                  go_wp2_with (first | ((with_reducible refine gate_dst (N := 4) rfl ?_); refine bE ?hg (N := 4) ?hd (cs := #[.int .i64 0, .int .i64 0, .int .i64 0, .int .i64 0]) (t := 37) ?hr ?_; (case hd => rfl); (case hg => rfl); (case hr => first | (go_simp; done) | (go_simp; rfl)); intro gb234 hg w67 hbox hb; have n0_ := Z0.mk (kB (g := gb232) (o := .cells #[.int .i64 a0_0, .slice (some ad233) l0_1.length c0_1] 24 (0, 0)) (by (with_reducible repeat (first | refine kN ?_ _ | refine kD ?_ | refine kA ?_ _)); exact BK232.out) hb); have n1_ := Z0.mk (bT (by repeat (first | (with_reducible first | exact HB.out | apply below_alloc | apply bN | apply bD | refine bS ?_ GE232.out) | exact HB.out)) hb); have n2_ := Z0.mk (hbox); have n3_ := Z0.mk ((by rw [hg]; exact (bZ (by repeat (first | (with_reducible first | exact HB.out | apply below_alloc | apply bN | apply bD | refine bS ?_ GE232.out) | exact HB.out))) : w.heap.size ≤ gb234)); have n4_ := Z0.mk ((by rw [hg]; exact (bZ (by repeat (first | (with_reducible first | exact HB.out | apply below_alloc | apply bN | apply bD | refine bS ?_ GE232.out) | exact HB.out))) : w.heap.size ≤ gb234)); have n5_ := Z0.mk ((by rw [hg]; exact Nat.ne_of_lt (blk_lt (g := gb232) (o := .cells #[.int .i64 a0_0, .slice (some ad233) l0_1.length c0_1] 24 (0, 0)) (by (with_reducible repeat (first | refine kN ?_ _ | refine kD ?_ | refine kA ?_ _)); exact BK232.out)) : gb232 ≠ gb234)); have n6_ := Z0.mk ((by rw [hg]; exact Nat.ne_of_gt (blk_lt (g := gb232) (o := .cells #[.int .i64 a0_0, .slice (some ad233) l0_1.length c0_1] 24 (0, 0)) (by (with_reducible repeat (first | refine kN ?_ _ | refine kD ?_ | refine kA ?_ _)); exact BK232.out)) : gb234 ≠ gb232)); clear BK232; clear HB; have BK232 := n0_; have HB := n1_; have BK234 := n2_; have GW234 := n3_; have GE234 := n4_; have NB232_234 := n5_; have NB234_232 := n6_; clear n0_ n1_ n2_ n3_ n4_ n5_ n6_; clear hb hbox hg; have hnb68 := NB234_232.out; have hnc68 := NB232_234.out; have hcz69_0 : w67.cell? ⟨gb234, 0, none⟩ = some (.int .i64 0) := (kC BK234.out 0).trans rfl; have hcz69_1 : w67.cell? ⟨gb234, 1, none⟩ = some (.int .i64 0) := (kC BK234.out 1).trans rfl; have hcz69_2 : w67.cell? ⟨gb234, 2, none⟩ = some (.int .i64 0) := (kC BK234.out 2).trans rfl; have hcz69_3 : w67.cell? ⟨gb234, 3, none⟩ = some (.int .i64 0) := (kC BK234.out 3).trans rfl; have hfz69_0 := kF BK234.out 0; have hfz69_1 := kF BK234.out 1; have hfz69_2 := kF BK234.out 2; have hfz69_3 := kF BK234.out 3; have hcz70_0 : w67.cell? ⟨gb232, 0, none⟩ = some (.int .i64 a0_0) := (kC BK232.out 0).trans rfl; have hcz70_1 : w67.cell? ⟨gb232, 1, none⟩ = some (.slice (some ad233) l0_1.length c0_1) := (kC BK232.out 1).trans rfl; have hfz70_0 := kF BK232.out 0; have hfz70_1 := kF BK232.out 1))
                  go_roundg k2
                  case measure => have := HJ1.out; have := HK2.out; omega
                  case rel => exact ⟨(wrap64 (x3_2 + 1)), (by first | rfl | (simp; done) | (simp [*]; done)), H', ⟨by have := HJ1.out; have := HK2.out; omega⟩, ⟨by (with_reducible repeat (first | refine kN ?_ _ | refine kD ?_ | refine kA ?_ _)); refine kR ?_ NB232_234.out _; (with_reducible repeat (first | refine kN ?_ _ | refine kD ?_ | refine kA ?_ _)); refine kR ?_ NB232_234.out _; (with_reducible repeat (first | refine kN ?_ _ | refine kD ?_ | refine kA ?_ _)); refine kR ?_ NB232_234.out _; (with_reducible repeat (first | refine kN ?_ _ | refine kD ?_ | refine kA ?_ _)); refine kR ?_ NB232_234.out _; (with_reducible repeat (first | refine kN ?_ _ | refine kD ?_ | refine kA ?_ _)); exact BK232.out⟩, ⟨by repeat (first | (with_reducible first | exact HB.out | apply below_alloc | apply bN | apply bD | refine bS ?_ GE232.out | refine bS ?_ GE234.out) | exact HB.out)⟩⟩
        ·rw [if_neg c12] at H
         exact absurd H (by simp)
       ·rw [if_neg c11] at H
        have c11b0 : decide (x3_2 < (l0_1.length : Int)) = false := decide_eq_false c11
        clear c11
        obtain rfl := Option.some.inj H
        have hcz71_0 : wr.cell? ⟨gb232, 0, none⟩ = some (.int .i64 a0_0) := (kC BK232.out 0).trans rfl
        have hcz71_1 : wr.cell? ⟨gb232, 1, none⟩ = some (.slice A0_1 l0_1.length c0_1) := (kC BK232.out 1).trans rfl
        have hfz71_0 := kF BK232.out 0
        have hfz71_1 := kF BK232.out 1
        go_wp2
        go_ret
        exact ⟨by first | rfl | (simp [errW_none, errW_some] <;> rfl) | (simp [*, errW_none, errW_some] <;> rfl), by repeat (first | (with_reducible first | exact HB.out | apply below_alloc | apply bN | apply bD | refine bS ?_ GE232.out) | exact HB.out)⟩
def qr14Outs.l0 : Nat → List Int → Int → Int → List (S37) → Option (Int)
 | 0, _, _, _, _ => none
 | k + 1, x1, x6, x236000, x236001 => if x6 < (x1.length : Int) then (if 0 ≤ x6 then (if (rd x1 x6) < 0 then (some 1) else (if (rd x1 x6) ≥ (x236001.length : Int) then (some 1) else (if x6 > 0 then (if 0 ≤ (wrap64 (x6 - 1)) then (if (wrap64 (x6 - 1)) < (x1.length : Int) then (if (rd x1 x6) ≤ (rd x1 (wrap64 (x6 - 1))) then (some 1) else (qr14Outs.l0 k x1 (wrap64 (x6 + 1)) x236000 x236001)) else (none)) else (none)) else (qr14Outs.l0 k x1 (wrap64 (x6 + 1)) x236000 x236001)))) else (none)) else (some 0)
def qr14Outs.f (k : Nat) (a0_0 : Int) (l0_1 : List (S37)) (l1 : List Int) : Option (Int) := (qr14Check.f k a0_0 l0_1).bind fun t236 => (if t236 = 0 then (qr14Outs.l0 k l1 0 a0_0 l0_1) else (some t236))
set_option maxHeartbeats 8000000 in
set_option maxRecDepth 100000 in
theorem qr14Outs.calls (k : Nat) (a0_0 : Int) (A0_1 : Option Addr) (c0_1 : Nat) (l0_1 : List (S37)) (A1 : Option Addr) (c1 : Nat) (l1 : List Int) (r : Int) (w : World) (hr0_1 : Kd.C k37 w A0_1 l0_1.length l0_1) (hc0_1 : l0_1.length ≤ c0_1) (hr1 : Kd.C (Kd.int .i64) w A1 l1.length l1) (hc1 : l1.length ≤ c1) (h : qr14Outs.f k a0_0 l0_1 l1 = some r) :
  Calls Try.prog 69 #[.agg #[.int .i64 a0_0, .slice A0_1 l0_1.length c0_1], .slice A1 l1.length c1] w fun e w' => e = .returned (.int .i64 r) ∧ Below w.heap.size w w' := by
 have hu24 := Try.underlying24
 have HR0_1 := Z0.mk hr0_1
 have HC0_1 := Z0.mk hc0_1
 clear hr0_1 hc0_1
 have HR1 := Z0.mk hr1
 have HC1 := Z0.mk hc1
 clear hr1 hc1
 have HB := Z0.mk (Below.refl w.heap.size w)
 have H : ((qr14Check.f k a0_0 l0_1).bind fun t236 => (if t236 = 0 then (qr14Outs.l0 k l1 0 a0_0 l0_1) else (some t236))) = some r := h
 clear h
 replace H := Option.bind_eq_some_iff.mp H
 obtain ⟨t236, A30, H⟩ := H
 replace H : (if t236 = 0 then (qr14Outs.l0 k l1 0 a0_0 l0_1) else (some t236)) = some r := H
 have A3 := Z0.mk A30
 clear A30
 by_cases c4 : t236 = 0
 ·rw [if_pos c4] at H
  have c4b0 : (t236 == 0) = true := beq_iff_eq.mpr c4
  have c4b1 : (t236 != 0) = false := bne_eq_false_iff_eq.mpr c4
  clear c4
  have H' := Z0.mk H
  clear H
  go_enter Try.func69, Try.ntmps69
  go_wp2_with (first | ((with_reducible refine gate_dst (N := 2) rfl ?_); (try (refine gG (by rfl) ?_; dsimp only)); refine bE ?hg (N := 2) ?hd (cs := #[.int .i64 a0_0, .slice A0_1 l0_1.length c0_1]) (t := 24) ?hr ?_; (case hd => rfl); (case hg => rfl); (case hr => first | (go_simp; done) | (go_simp; rfl)); intro gb235 hg w5 hbox hb; have n0_ := Z0.mk (bT (by repeat (first | (with_reducible first | exact HB.out | apply below_alloc | apply bN | apply bD) | exact HB.out)) hb); have n1_ := Z0.mk (hbox); have n2_ := Z0.mk ((by rw [hg]; exact (bZ (by repeat (first | (with_reducible first | exact HB.out | apply below_alloc | apply bN | apply bD) | exact HB.out))) : w.heap.size ≤ gb235)); have n3_ := Z0.mk ((by rw [hg]; exact (bZ (by repeat (first | (with_reducible first | exact HB.out | apply below_alloc | apply bN | apply bD) | exact HB.out))) : w.heap.size ≤ gb235)); clear HB; have HB := n0_; have BK235 := n1_; have GW235 := n2_; have GE235 := n3_; clear n0_ n1_ n2_ n3_; clear hb hbox hg; have hcz6_0 : w5.cell? ⟨gb235, 0, none⟩ = some (.int .i64 a0_0) := (kC BK235.out 0).trans rfl; have hcz6_1 : w5.cell? ⟨gb235, 1, none⟩ = some (.slice A0_1 l0_1.length c0_1) := (kC BK235.out 1).trans rfl; have hfz6_0 := kF BK235.out 0; have hfz6_1 := kF BK235.out 1) | (go_at_call 70; (with_reducible refine (qr14Check.calls k a0_0 _ _ l0_1 t236 _ ?side1 ?side2 A3.out).mono ?_); (case side1 => repeat (first | exact (Kd.C_below HR0_1.out HB.out) | (with_reducible refine Kd.C_alloc ?_ _) | (with_reducible refine Kd.C_drewN ?_ _) | (with_reducible refine Kd.C_drew ?_))); (case side2 => exact HC0_1.out); rintro e w7 ⟨rfl, hb⟩; have n0_ := Z0.mk (kB (g := gb235) (o := .cells #[.int .i64 a0_0, .slice A0_1 l0_1.length c0_1] 24 (0, 0)) (by (with_reducible repeat (first | refine kN ?_ _ | refine kD ?_ | refine kA ?_ _)); exact BK235.out) hb); have n1_ := Z0.mk (bT (by repeat (first | (with_reducible first | exact HB.out | apply below_alloc | apply bN | apply bD | refine bS ?_ GE235.out) | exact HB.out)) hb); clear BK235; clear HB; have BK235 := n0_; have HB := n1_; clear n0_ n1_; (try clear hb); (try clear hb2); (try clear hk); (try clear hi)))
  repeat (go_quiet (first | ((with_reducible refine gate_dst (N := 2) rfl ?_); (try (refine gG (by rfl) ?_; dsimp only)); refine bE ?hg (N := 2) ?hd (cs := #[.int .i64 a0_0, .slice A0_1 l0_1.length c0_1]) (t := 24) ?hr ?_; (case hd => rfl); (case hg => rfl); (case hr => first | (go_simp; done) | (go_simp; rfl)); intro gb235 hg w5 hbox hb; have n0_ := Z0.mk (bT (by repeat (first | (with_reducible first | exact HB.out | apply below_alloc | apply bN | apply bD) | exact HB.out)) hb); have n1_ := Z0.mk (hbox); have n2_ := Z0.mk ((by rw [hg]; exact (bZ (by repeat (first | (with_reducible first | exact HB.out | apply below_alloc | apply bN | apply bD) | exact HB.out))) : w.heap.size ≤ gb235)); have n3_ := Z0.mk ((by rw [hg]; exact (bZ (by repeat (first | (with_reducible first | exact HB.out | apply below_alloc | apply bN | apply bD) | exact HB.out))) : w.heap.size ≤ gb235)); clear HB; have HB := n0_; have BK235 := n1_; have GW235 := n2_; have GE235 := n3_; clear n0_ n1_ n2_ n3_; clear hb hbox hg; have hcz6_0 : w5.cell? ⟨gb235, 0, none⟩ = some (.int .i64 a0_0) := (kC BK235.out 0).trans rfl; have hcz6_1 : w5.cell? ⟨gb235, 1, none⟩ = some (.slice A0_1 l0_1.length c0_1) := (kC BK235.out 1).trans rfl; have hfz6_0 := kF BK235.out 0; have hfz6_1 := kF BK235.out 1) | (go_at_call 70; (with_reducible refine (qr14Check.calls k a0_0 _ _ l0_1 t236 _ ?side1 ?side2 A3.out).mono ?_); (case side1 => repeat (first | exact (Kd.C_below HR0_1.out HB.out) | (with_reducible refine Kd.C_alloc ?_ _) | (with_reducible refine Kd.C_drewN ?_ _) | (with_reducible refine Kd.C_drew ?_))); (case side2 => exact HC0_1.out); rintro e w7 ⟨rfl, hb⟩; have n0_ := Z0.mk (kB (g := gb235) (o := .cells #[.int .i64 a0_0, .slice A0_1 l0_1.length c0_1] 24 (0, 0)) (by (with_reducible repeat (first | refine kN ?_ _ | refine kD ?_ | refine kA ?_ _)); exact BK235.out) hb); have n1_ := Z0.mk (bT (by repeat (first | (with_reducible first | exact HB.out | apply below_alloc | apply bN | apply bD | refine bS ?_ GE235.out) | exact HB.out)) hb); clear BK235; clear HB; have BK235 := n0_; have HB := n1_; clear n0_ n1_; (try clear hb); (try clear hb2); (try clear hk); (try clear hi))); try go_wp2_with (first | ((with_reducible refine gate_dst (N := 2) rfl ?_); (try (refine gG (by rfl) ?_; dsimp only)); refine bE ?hg (N := 2) ?hd (cs := #[.int .i64 a0_0, .slice A0_1 l0_1.length c0_1]) (t := 24) ?hr ?_; (case hd => rfl); (case hg => rfl); (case hr => first | (go_simp; done) | (go_simp; rfl)); intro gb235 hg w5 hbox hb; have n0_ := Z0.mk (bT (by repeat (first | (with_reducible first | exact HB.out | apply below_alloc | apply bN | apply bD) | exact HB.out)) hb); have n1_ := Z0.mk (hbox); have n2_ := Z0.mk ((by rw [hg]; exact (bZ (by repeat (first | (with_reducible first | exact HB.out | apply below_alloc | apply bN | apply bD) | exact HB.out))) : w.heap.size ≤ gb235)); have n3_ := Z0.mk ((by rw [hg]; exact (bZ (by repeat (first | (with_reducible first | exact HB.out | apply below_alloc | apply bN | apply bD) | exact HB.out))) : w.heap.size ≤ gb235)); clear HB; have HB := n0_; have BK235 := n1_; have GW235 := n2_; have GE235 := n3_; clear n0_ n1_ n2_ n3_; clear hb hbox hg; have hcz6_0 : w5.cell? ⟨gb235, 0, none⟩ = some (.int .i64 a0_0) := (kC BK235.out 0).trans rfl; have hcz6_1 : w5.cell? ⟨gb235, 1, none⟩ = some (.slice A0_1 l0_1.length c0_1) := (kC BK235.out 1).trans rfl; have hfz6_0 := kF BK235.out 0; have hfz6_1 := kF BK235.out 1) | (go_at_call 70; (with_reducible refine (qr14Check.calls k a0_0 _ _ l0_1 t236 _ ?side1 ?side2 A3.out).mono ?_); (case side1 => repeat (first | exact (Kd.C_below HR0_1.out HB.out) | (with_reducible refine Kd.C_alloc ?_ _) | (with_reducible refine Kd.C_drewN ?_ _) | (with_reducible refine Kd.C_drew ?_))); (case side2 => exact HC0_1.out); rintro e w7 ⟨rfl, hb⟩; have n0_ := Z0.mk (kB (g := gb235) (o := .cells #[.int .i64 a0_0, .slice A0_1 l0_1.length c0_1] 24 (0, 0)) (by (with_reducible repeat (first | refine kN ?_ _ | refine kD ?_ | refine kA ?_ _)); exact BK235.out) hb); have n1_ := Z0.mk (bT (by repeat (first | (with_reducible first | exact HB.out | apply below_alloc | apply bN | apply bD | refine bS ?_ GE235.out) | exact HB.out)) hb); clear BK235; clear HB; have BK235 := n0_; have HB := n1_; clear n0_ n1_; (try clear hb); (try clear hb2); (try clear hk); (try clear hi))))
  go_loopg [6] k (fun kq v6 w' => ∃ (x6_1 : Int), v6 = .int .i64 x6_1 ∧ Z0 (qr14Outs.l0 kq l1 x6_1 a0_0 l0_1 = some r) ∧ Z0 (kq ≤ k) ∧ Z0 (w'.heap[gb235]? = some (.cells #[.int .i64 a0_0, (.slice A0_1 l0_1.length c0_1)] 24 (0, 0))) ∧ Z0 (Below w.heap.size w w'))
  case atStart => exact ⟨(0), (by first | rfl | (simp; done) | (simp [*]; done)), H', ⟨Nat.le_refl _⟩, ⟨by (with_reducible repeat (first | refine kN ?_ _ | refine kD ?_ | refine kA ?_ _)); exact BK235.out⟩, ⟨by repeat (first | (with_reducible first | exact HB.out | apply below_alloc | apply bN | apply bD | refine bS ?_ GE235.out) | exact HB.out)⟩⟩
  case round =>
   clear H'; (try clear c1); (try clear p2); (try clear c4); (try clear c4b0); (try clear c4b1); (try clear c6); (try clear hcz6_0); (try clear hcz6_1); (try clear hfz6_0); (try clear hfz6_1)
   obtain ⟨x6_1, rfl, HA, HK1, BK235, HB⟩ := hrel
   cases gk with
   | zero => exact absurd HA.out (by simp [qr14Outs.l0])
   | succ k1 =>
    have H := HA.out
    clear HA
    simp only [qr14Outs.l0] at H
    by_cases c8 : x6_1 < (l1.length : Int)
    ·rw [if_pos c8] at H
     have c8b0 : decide (x6_1 < (l1.length : Int)) = true := decide_eq_true c8
     clear c8
     by_cases c9 : 0 ≤ x6_1
     ·rw [if_pos c9] at H
      have c9b0 : decide (0 ≤ x6_1) = true := decide_eq_true c9
      clear c9
      by_cases c10 : (rd l1 x6_1) < 0
      ·rw [if_pos c10] at H
       have c10b0 : decide ((rd l1 x6_1) < 0) = true := decide_eq_true c10
       clear c10
       obtain rfl := Option.some.inj H
       have p237 : 0 ≤ (x6_1 : Int) := of_decide_eq_true (by first | (with_reducible assumption) | assumption)
       have q237 : x6_1 < (l1.length : Int) := of_decide_eq_true (by first | (with_reducible assumption) | assumption)
       obtain ⟨ad237, e237, hx237_0⟩ := Kd.at_int HR1.out x6_1 p237 q237
       cases e237
       replace hx237_0 := (HB.out.cell (World.block_lt_of_cell? w _ hx237_0)).trans hx237_0
       replace p237 := eq_true p237
       replace q237 := eq_true q237
       go_wp2
       repeat (go_quiet (fail); try go_wp2)
       go_ret
       exact ⟨by first | rfl | (simp [errW_none, errW_some] <;> rfl) | (simp [*, errW_none, errW_some] <;> rfl), by repeat (first | (with_reducible first | exact HB.out | apply below_alloc | apply bN | apply bD | refine bS ?_ GE235.out) | exact HB.out)⟩
      ·rw [if_neg c10] at H
       have c10b0 : decide ((rd l1 x6_1) < 0) = false := decide_eq_false c10
       clear c10
       by_cases c11 : (rd l1 x6_1) ≥ (l0_1.length : Int)
       ·rw [if_pos c11] at H
        have c11b0 : decide ((l0_1.length : Int) ≤ (rd l1 x6_1)) = true := decide_eq_true c11
        clear c11
        obtain rfl := Option.some.inj H
        have p237 : 0 ≤ (x6_1 : Int) := of_decide_eq_true (by first | (with_reducible assumption) | assumption)
        have q237 : x6_1 < (l1.length : Int) := of_decide_eq_true (by first | (with_reducible assumption) | assumption)
        obtain ⟨ad237, e237, hx237_0⟩ := Kd.at_int HR1.out x6_1 p237 q237
        cases e237
        replace hx237_0 := (HB.out.cell (World.block_lt_of_cell? w _ hx237_0)).trans hx237_0
        replace p237 := eq_true p237
        replace q237 := eq_true q237
        have p238 : 0 ≤ (x6_1 : Int) := of_decide_eq_true (by first | (with_reducible assumption) | assumption)
        have q238 : x6_1 < (l1.length : Int) := of_decide_eq_true (by first | (with_reducible assumption) | assumption)
        obtain ⟨ad238, e238, hx238_0⟩ := Kd.at_int HR1.out x6_1 p238 q238
        obtain rfl : ad237 = ad238 := (by injection e238)
        replace hx238_0 := (HB.out.cell (World.block_lt_of_cell? w _ hx238_0)).trans hx238_0
        replace p238 := eq_true p238
        replace q238 := eq_true q238
        have hcz12_0 : wr.cell? ⟨gb235, 0, none⟩ = some (.int .i64 a0_0) := (kC BK235.out 0).trans rfl
        have hcz12_1 : wr.cell? ⟨gb235, 1, none⟩ = some (.slice A0_1 l0_1.length c0_1) := (kC BK235.out 1).trans rfl
        have hfz12_0 := kF BK235.out 0
        have hfz12_1 := kF BK235.out 1
        go_wp2
        repeat (go_quiet (fail); try go_wp2)
        go_ret
        exact ⟨by first | rfl | (simp [errW_none, errW_some] <;> rfl) | (simp [*, errW_none, errW_some] <;> rfl), by repeat (first | (with_reducible first | exact HB.out | apply below_alloc | apply bN | apply bD | refine bS ?_ GE235.out) | exact HB.out)⟩
       ·rw [if_neg c11] at H
        have c11b0 : decide ((l0_1.length : Int) ≤ (rd l1 x6_1)) = false := decide_eq_false c11
        clear c11
        by_cases c13 : x6_1 > 0
        ·rw [if_pos c13] at H
         have c13b0 : decide (0 < x6_1) = true := decide_eq_true c13
         clear c13
         obtain ⟨ji14, hji14⟩ : ∃ j_ : Int, (wrap64 (x6_1 - 1)) = j_ := ⟨_, rfl⟩
         replace H : (if 0 ≤ (ji14) then (if (ji14) < (l1.length : Int) then (if (rd l1 x6_1) ≤ (rd l1 (ji14)) then (some 1) else (qr14Outs.l0 k1 l1 (wrap64 (x6_1 + 1)) a0_0 l0_1)) else (none)) else (none)) = some r := by first | (rw [hji14] at H; exact H) | (simp only [hji14] at H ⊢; exact H)
         have hji14w : (IntKind.i64.wrap (x6_1 - 1)) = ji14 := (i64_w _).trans hji14
         by_cases c15 : 0 ≤ (ji14)
         ·rw [if_pos c15] at H
          have c15b0 : decide (0 ≤ (ji14)) = true := decide_eq_true c15
          clear c15
          by_cases c16 : (ji14) < (l1.length : Int)
          ·rw [if_pos c16] at H
           have c16b0 : decide ((ji14) < (l1.length : Int)) = true := decide_eq_true c16
           clear c16
           by_cases c17 : (rd l1 x6_1) ≤ (rd l1 (ji14))
           ·rw [if_pos c17] at H
            have c17b0 : decide ((rd l1 x6_1) ≤ (rd l1 (ji14))) = true := decide_eq_true c17
            clear c17
            obtain rfl := Option.some.inj H
            have p237 : 0 ≤ (x6_1 : Int) := of_decide_eq_true (by first | (with_reducible assumption) | assumption)
            have q237 : x6_1 < (l1.length : Int) := of_decide_eq_true (by first | (with_reducible assumption) | assumption)
            obtain ⟨ad237, e237, hx237_0⟩ := Kd.at_int HR1.out x6_1 p237 q237
            cases e237
            replace hx237_0 := (HB.out.cell (World.block_lt_of_cell? w _ hx237_0)).trans hx237_0
            replace p237 := eq_true p237
            replace q237 := eq_true q237
            have p238 : 0 ≤ (x6_1 : Int) := of_decide_eq_true (by first | (with_reducible assumption) | assumption)
            have q238 : x6_1 < (l1.length : Int) := of_decide_eq_true (by first | (with_reducible assumption) | assumption)
            obtain ⟨ad238, e238, hx238_0⟩ := Kd.at_int HR1.out x6_1 p238 q238
            obtain rfl : ad237 = ad238 := (by injection e238)
            replace hx238_0 := (HB.out.cell (World.block_lt_of_cell? w _ hx238_0)).trans hx238_0
            replace p238 := eq_true p238
            replace q238 := eq_true q238
            have hcz18_0 : wr.cell? ⟨gb235, 0, none⟩ = some (.int .i64 a0_0) := (kC BK235.out 0).trans rfl
            have hcz18_1 : wr.cell? ⟨gb235, 1, none⟩ = some (.slice A0_1 l0_1.length c0_1) := (kC BK235.out 1).trans rfl
            have hfz18_0 := kF BK235.out 0
            have hfz18_1 := kF BK235.out 1
            have p239 : 0 ≤ (x6_1 : Int) := of_decide_eq_true (by first | (with_reducible assumption) | assumption)
            have q239 : x6_1 < (l1.length : Int) := of_decide_eq_true (by first | (with_reducible assumption) | assumption)
            obtain ⟨ad239, e239, hx239_0⟩ := Kd.at_int HR1.out x6_1 p239 q239
            obtain rfl : ad237 = ad239 := (by injection e239)
            replace hx239_0 := (HB.out.cell (World.block_lt_of_cell? w _ hx239_0)).trans hx239_0
            replace p239 := eq_true p239
            replace q239 := eq_true q239
            have p240 : 0 ≤ ((ji14) : Int) := of_decide_eq_true (by first | (with_reducible assumption) | assumption)
            have q240 : (ji14) < (l1.length : Int) := of_decide_eq_true (by first | (with_reducible assumption) | assumption)
            obtain ⟨ad240, e240, hx240_0⟩ := Kd.at_int HR1.out (ji14) p240 q240
            obtain rfl : ad237 = ad240 := (by injection e240)
            replace hx240_0 := (HB.out.cell (World.block_lt_of_cell? w _ hx240_0)).trans hx240_0
            replace p240 := eq_true p240
            replace q240 := eq_true q240
            go_wp2
            repeat (go_quiet (fail); try go_wp2)
            go_ret
            exact ⟨by first | rfl | (simp [errW_none, errW_some] <;> rfl) | (simp only [← hji14]; first | rfl | (simp [errW_none, errW_some] <;> rfl)) | (simp [*, errW_none, errW_some] <;> rfl), by repeat (first | (with_reducible first | exact HB.out | apply below_alloc | apply bN | apply bD | refine bS ?_ GE235.out) | exact HB.out)⟩
           ·rw [if_neg c17] at H
            have c17b0 : decide ((rd l1 x6_1) ≤ (rd l1 (ji14))) = false := decide_eq_false c17
            clear c17
            have H' := Z0.mk H
            clear H
            have p237 : 0 ≤ (x6_1 : Int) := of_decide_eq_true (by first | (with_reducible assumption) | assumption)
            have q237 : x6_1 < (l1.length : Int) := of_decide_eq_true (by first | (with_reducible assumption) | assumption)
            obtain ⟨ad237, e237, hx237_0⟩ := Kd.at_int HR1.out x6_1 p237 q237
            cases e237
            replace hx237_0 := (HB.out.cell (World.block_lt_of_cell? w _ hx237_0)).trans hx237_0
            replace p237 := eq_true p237
            replace q237 := eq_true q237
            have p238 : 0 ≤ (x6_1 : Int) := of_decide_eq_true (by first | (with_reducible assumption) | assumption)
            have q238 : x6_1 < (l1.length : Int) := of_decide_eq_true (by first | (with_reducible assumption) | assumption)
            obtain ⟨ad238, e238, hx238_0⟩ := Kd.at_int HR1.out x6_1 p238 q238
            obtain rfl : ad237 = ad238 := (by injection e238)
            replace hx238_0 := (HB.out.cell (World.block_lt_of_cell? w _ hx238_0)).trans hx238_0
            replace p238 := eq_true p238
            replace q238 := eq_true q238
            have hcz19_0 : wr.cell? ⟨gb235, 0, none⟩ = some (.int .i64 a0_0) := (kC BK235.out 0).trans rfl
            have hcz19_1 : wr.cell? ⟨gb235, 1, none⟩ = some (.slice A0_1 l0_1.length c0_1) := (kC BK235.out 1).trans rfl
            have hfz19_0 := kF BK235.out 0
            have hfz19_1 := kF BK235.out 1
            have p239 : 0 ≤ (x6_1 : Int) := of_decide_eq_true (by first | (with_reducible assumption) | assumption)
            have q239 : x6_1 < (l1.length : Int) := of_decide_eq_true (by first | (with_reducible assumption) | assumption)
            obtain ⟨ad239, e239, hx239_0⟩ := Kd.at_int HR1.out x6_1 p239 q239
            obtain rfl : ad237 = ad239 := (by injection e239)
            replace hx239_0 := (HB.out.cell (World.block_lt_of_cell? w _ hx239_0)).trans hx239_0
            replace p239 := eq_true p239
            replace q239 := eq_true q239
            have p240 : 0 ≤ ((ji14) : Int) := of_decide_eq_true (by first | (with_reducible assumption) | assumption)
            have q240 : (ji14) < (l1.length : Int) := of_decide_eq_true (by first | (with_reducible assumption) | assumption)
            obtain ⟨ad240, e240, hx240_0⟩ := Kd.at_int HR1.out (ji14) p240 q240
            obtain rfl : ad237 = ad240 := (by injection e240)
            replace hx240_0 := (HB.out.cell (World.block_lt_of_cell? w _ hx240_0)).trans hx240_0
            replace p240 := eq_true p240
            replace q240 := eq_true q240
            go_wp2
            repeat (go_quiet (fail); try go_wp2)
            go_roundg k1
            case measure => have := HK1.out; omega
            case rel => exact ⟨(wrap64 (x6_1 + 1)), (by first | rfl | (simp; done) | (simp [*]; done)), H', ⟨by have := HK1.out; omega⟩, ⟨by (with_reducible repeat (first | refine kN ?_ _ | refine kD ?_ | refine kA ?_ _)); exact BK235.out⟩, ⟨by repeat (first | (with_reducible first | exact HB.out | apply below_alloc | apply bN | apply bD | refine bS ?_ GE235.out) | exact HB.out)⟩⟩
          ·rw [if_neg c16] at H
           exact absurd H (by simp)
         ·rw [if_neg c15] at H
          exact absurd H (by simp)
        ·rw [if_neg c13] at H
         have c13b0 : decide (0 < x6_1) = false := decide_eq_false c13
         clear c13
         have H' := Z0.mk H
         clear H
         have p237 : 0 ≤ (x6_1 : Int) := of_decide_eq_true (by first | (with_reducible assumption) | assumption)
         have q237 : x6_1 < (l1.length : Int) := of_decide_eq_true (by first | (with_reducible assumption) | assumption)
         obtain ⟨ad237, e237, hx237_0⟩ := Kd.at_int HR1.out x6_1 p237 q237
         cases e237
         replace hx237_0 := (HB.out.cell (World.block_lt_of_cell? w _ hx237_0)).trans hx237_0
         replace p237 := eq_true p237
         replace q237 := eq_true q237
         have p238 : 0 ≤ (x6_1 : Int) := of_decide_eq_true (by first | (with_reducible assumption) | assumption)
         have q238 : x6_1 < (l1.length : Int) := of_decide_eq_true (by first | (with_reducible assumption) | assumption)
         obtain ⟨ad238, e238, hx238_0⟩ := Kd.at_int HR1.out x6_1 p238 q238
         obtain rfl : ad237 = ad238 := (by injection e238)
         replace hx238_0 := (HB.out.cell (World.block_lt_of_cell? w _ hx238_0)).trans hx238_0
         replace p238 := eq_true p238
         replace q238 := eq_true q238
         have hcz20_0 : wr.cell? ⟨gb235, 0, none⟩ = some (.int .i64 a0_0) := (kC BK235.out 0).trans rfl
         have hcz20_1 : wr.cell? ⟨gb235, 1, none⟩ = some (.slice A0_1 l0_1.length c0_1) := (kC BK235.out 1).trans rfl
         have hfz20_0 := kF BK235.out 0
         have hfz20_1 := kF BK235.out 1
         go_wp2
         repeat (go_quiet (fail); try go_wp2)
         go_roundg k1
         case measure => have := HK1.out; omega
         case rel => exact ⟨(wrap64 (x6_1 + 1)), (by first | rfl | (simp; done) | (simp [*]; done)), H', ⟨by have := HK1.out; omega⟩, ⟨by (with_reducible repeat (first | refine kN ?_ _ | refine kD ?_ | refine kA ?_ _)); exact BK235.out⟩, ⟨by repeat (first | (with_reducible first | exact HB.out | apply below_alloc | apply bN | apply bD | refine bS ?_ GE235.out) | exact HB.out)⟩⟩
     ·rw [if_neg c9] at H
      exact absurd H (by simp)
    ·rw [if_neg c8] at H
     have c8b0 : decide (x6_1 < (l1.length : Int)) = false := decide_eq_false c8
     clear c8
     obtain rfl := Option.some.inj H
     go_wp2
     repeat (go_quiet (fail); try go_wp2)
     go_ret
     exact ⟨by first | rfl | (simp [errW_none, errW_some] <;> rfl) | (simp [*, errW_none, errW_some] <;> rfl), by repeat (first | (with_reducible first | exact HB.out | apply below_alloc | apply bN | apply bD | refine bS ?_ GE235.out) | exact HB.out)⟩
 ·rw [if_neg c4] at H
  have c4b0 : (t236 == 0) = false := beq_eq_false_iff_ne.mpr c4
  have c4b1 : (t236 != 0) = true := bne_iff_ne.mpr c4
  obtain rfl := Option.some.inj H
  go_enter Try.func69, Try.ntmps69
  go_wp2_with (first | ((with_reducible refine gate_dst (N := 2) rfl ?_); (try (refine gG (by rfl) ?_; dsimp only)); refine bE ?hg (N := 2) ?hd (cs := #[.int .i64 a0_0, .slice A0_1 l0_1.length c0_1]) (t := 24) ?hr ?_; (case hd => rfl); (case hg => rfl); (case hr => first | (go_simp; done) | (go_simp; rfl)); intro gb235 hg w21 hbox hb; have n0_ := Z0.mk (bT (by repeat (first | (with_reducible first | exact HB.out | apply below_alloc | apply bN | apply bD) | exact HB.out)) hb); have n1_ := Z0.mk (hbox); have n2_ := Z0.mk ((by rw [hg]; exact (bZ (by repeat (first | (with_reducible first | exact HB.out | apply below_alloc | apply bN | apply bD) | exact HB.out))) : w.heap.size ≤ gb235)); have n3_ := Z0.mk ((by rw [hg]; exact (bZ (by repeat (first | (with_reducible first | exact HB.out | apply below_alloc | apply bN | apply bD) | exact HB.out))) : w.heap.size ≤ gb235)); clear HB; have HB := n0_; have BK235 := n1_; have GW235 := n2_; have GE235 := n3_; clear n0_ n1_ n2_ n3_; clear hb hbox hg; have hcz22_0 : w21.cell? ⟨gb235, 0, none⟩ = some (.int .i64 a0_0) := (kC BK235.out 0).trans rfl; have hcz22_1 : w21.cell? ⟨gb235, 1, none⟩ = some (.slice A0_1 l0_1.length c0_1) := (kC BK235.out 1).trans rfl; have hfz22_0 := kF BK235.out 0; have hfz22_1 := kF BK235.out 1) | (go_at_call 70; (with_reducible refine (qr14Check.calls k a0_0 _ _ l0_1 t236 _ ?side1 ?side2 A3.out).mono ?_); (case side1 => repeat (first | exact (Kd.C_below HR0_1.out HB.out) | (with_reducible refine Kd.C_alloc ?_ _) | (with_reducible refine Kd.C_drewN ?_ _) | (with_reducible refine Kd.C_drew ?_))); (case side2 => exact HC0_1.out); rintro e w23 ⟨rfl, hb⟩; have n0_ := Z0.mk (kB (g := gb235) (o := .cells #[.int .i64 a0_0, .slice A0_1 l0_1.length c0_1] 24 (0, 0)) (by (with_reducible repeat (first | refine kN ?_ _ | refine kD ?_ | refine kA ?_ _)); exact BK235.out) hb); have n1_ := Z0.mk (bT (by repeat (first | (with_reducible first | exact HB.out | apply below_alloc | apply bN | apply bD | refine bS ?_ GE235.out) | exact HB.out)) hb); clear BK235; clear HB; have BK235 := n0_; have HB := n1_; clear n0_ n1_; (try clear hb); (try clear hb2); (try clear hk); (try clear hi)))
  repeat (go_quiet (first | ((with_reducible refine gate_dst (N := 2) rfl ?_); (try (refine gG (by rfl) ?_; dsimp only)); refine bE ?hg (N := 2) ?hd (cs := #[.int .i64 a0_0, .slice A0_1 l0_1.length c0_1]) (t := 24) ?hr ?_; (case hd => rfl); (case hg => rfl); (case hr => first | (go_simp; done) | (go_simp; rfl)); intro gb235 hg w21 hbox hb; have n0_ := Z0.mk (bT (by repeat (first | (with_reducible first | exact HB.out | apply below_alloc | apply bN | apply bD) | exact HB.out)) hb); have n1_ := Z0.mk (hbox); have n2_ := Z0.mk ((by rw [hg]; exact (bZ (by repeat (first | (with_reducible first | exact HB.out | apply below_alloc | apply bN | apply bD) | exact HB.out))) : w.heap.size ≤ gb235)); have n3_ := Z0.mk ((by rw [hg]; exact (bZ (by repeat (first | (with_reducible first | exact HB.out | apply below_alloc | apply bN | apply bD) | exact HB.out))) : w.heap.size ≤ gb235)); clear HB; have HB := n0_; have BK235 := n1_; have GW235 := n2_; have GE235 := n3_; clear n0_ n1_ n2_ n3_; clear hb hbox hg; have hcz22_0 : w21.cell? ⟨gb235, 0, none⟩ = some (.int .i64 a0_0) := (kC BK235.out 0).trans rfl; have hcz22_1 : w21.cell? ⟨gb235, 1, none⟩ = some (.slice A0_1 l0_1.length c0_1) := (kC BK235.out 1).trans rfl; have hfz22_0 := kF BK235.out 0; have hfz22_1 := kF BK235.out 1) | (go_at_call 70; (with_reducible refine (qr14Check.calls k a0_0 _ _ l0_1 t236 _ ?side1 ?side2 A3.out).mono ?_); (case side1 => repeat (first | exact (Kd.C_below HR0_1.out HB.out) | (with_reducible refine Kd.C_alloc ?_ _) | (with_reducible refine Kd.C_drewN ?_ _) | (with_reducible refine Kd.C_drew ?_))); (case side2 => exact HC0_1.out); rintro e w23 ⟨rfl, hb⟩; have n0_ := Z0.mk (kB (g := gb235) (o := .cells #[.int .i64 a0_0, .slice A0_1 l0_1.length c0_1] 24 (0, 0)) (by (with_reducible repeat (first | refine kN ?_ _ | refine kD ?_ | refine kA ?_ _)); exact BK235.out) hb); have n1_ := Z0.mk (bT (by repeat (first | (with_reducible first | exact HB.out | apply below_alloc | apply bN | apply bD | refine bS ?_ GE235.out) | exact HB.out)) hb); clear BK235; clear HB; have BK235 := n0_; have HB := n1_; clear n0_ n1_; (try clear hb); (try clear hb2); (try clear hk); (try clear hi))); try go_wp2_with (first | ((with_reducible refine gate_dst (N := 2) rfl ?_); (try (refine gG (by rfl) ?_; dsimp only)); refine bE ?hg (N := 2) ?hd (cs := #[.int .i64 a0_0, .slice A0_1 l0_1.length c0_1]) (t := 24) ?hr ?_; (case hd => rfl); (case hg => rfl); (case hr => first | (go_simp; done) | (go_simp; rfl)); intro gb235 hg w21 hbox hb; have n0_ := Z0.mk (bT (by repeat (first | (with_reducible first | exact HB.out | apply below_alloc | apply bN | apply bD) | exact HB.out)) hb); have n1_ := Z0.mk (hbox); have n2_ := Z0.mk ((by rw [hg]; exact (bZ (by repeat (first | (with_reducible first | exact HB.out | apply below_alloc | apply bN | apply bD) | exact HB.out))) : w.heap.size ≤ gb235)); have n3_ := Z0.mk ((by rw [hg]; exact (bZ (by repeat (first | (with_reducible first | exact HB.out | apply below_alloc | apply bN | apply bD) | exact HB.out))) : w.heap.size ≤ gb235)); clear HB; have HB := n0_; have BK235 := n1_; have GW235 := n2_; have GE235 := n3_; clear n0_ n1_ n2_ n3_; clear hb hbox hg; have hcz22_0 : w21.cell? ⟨gb235, 0, none⟩ = some (.int .i64 a0_0) := (kC BK235.out 0).trans rfl; have hcz22_1 : w21.cell? ⟨gb235, 1, none⟩ = some (.slice A0_1 l0_1.length c0_1) := (kC BK235.out 1).trans rfl; have hfz22_0 := kF BK235.out 0; have hfz22_1 := kF BK235.out 1) | (go_at_call 70; (with_reducible refine (qr14Check.calls k a0_0 _ _ l0_1 t236 _ ?side1 ?side2 A3.out).mono ?_); (case side1 => repeat (first | exact (Kd.C_below HR0_1.out HB.out) | (with_reducible refine Kd.C_alloc ?_ _) | (with_reducible refine Kd.C_drewN ?_ _) | (with_reducible refine Kd.C_drew ?_))); (case side2 => exact HC0_1.out); rintro e w23 ⟨rfl, hb⟩; have n0_ := Z0.mk (kB (g := gb235) (o := .cells #[.int .i64 a0_0, .slice A0_1 l0_1.length c0_1] 24 (0, 0)) (by (with_reducible repeat (first | refine kN ?_ _ | refine kD ?_ | refine kA ?_ _)); exact BK235.out) hb); have n1_ := Z0.mk (bT (by repeat (first | (with_reducible first | exact HB.out | apply below_alloc | apply bN | apply bD | refine bS ?_ GE235.out) | exact HB.out)) hb); clear BK235; clear HB; have BK235 := n0_; have HB := n1_; clear n0_ n1_; (try clear hb); (try clear hb2); (try clear hk); (try clear hi))))
  go_ret
  exact ⟨by first | rfl | (simp [errW_none, errW_some] <;> rfl) | (simp [*, errW_none, errW_some] <;> rfl), by repeat (first | (with_reducible first | exact HB.out | apply below_alloc | apply bN | apply bD | refine bS ?_ GE235.out) | exact HB.out)⟩
def qr14In.l0 : Nat → List Int → List Int → Int → Int → List (S37) → Option (List Int)
 | 0, _, _, _, _, _ => none
 | k + 1, x1, x5, x6, x243000, x243001 => if x6 < (x243001.length : Int) then ((qr14Has.f k x1 x6).bind fun t243 => (if t243 = true then (qr14In.l0 k x1 x5 (wrap64 (x6 + 1)) x243000 x243001) else (if x5.length < 17592186044416 then (qr14In.l0 k x1 (x5 ++ [x6]) (wrap64 (x6 + 1)) x243000 x243001) else (none)))) else (some x5)
def qr14In.f (k : Nat) (a0_0 : Int) (l0_1 : List (S37)) (l1 : List Int) : Option (List Int) := qr14In.l0 k l1 ([] : List Int) 0 a0_0 l0_1
set_option maxHeartbeats 8000000 in
set_option maxRecDepth 100000 in
theorem qr14In.calls (k : Nat) (a0_0 : Int) (A0_1 : Option Addr) (c0_1 : Nat) (l0_1 : List (S37)) (A1 : Option Addr) (c1 : Nat) (l1 : List Int) (r : List Int) (w : World) (hr0_1 : Kd.C k37 w A0_1 l0_1.length l0_1) (hc0_1 : l0_1.length ≤ c0_1) (hr1 : Kd.C (Kd.int .i64) w A1 l1.length l1) (hc1 : l1.length ≤ c1) (h : qr14In.f k a0_0 l0_1 l1 = some r) :
  Calls Try.prog 72 #[.agg #[.int .i64 a0_0, .slice A0_1 l0_1.length c0_1], .slice A1 l1.length c1] w fun e w' => ∃ v0_ : Value, e = .returned (v0_) ∧ Kd.R (Kd.int .i64) 3 w' w.heap.size (fun _ => True) v0_ r ∧ Below w.heap.size w w' := by
 have hu24 := Try.underlying24
 have HR0_1 := Z0.mk hr0_1
 have HC0_1 := Z0.mk hc0_1
 clear hr0_1 hc0_1
 have HR1 := Z0.mk hr1
 have HC1 := Z0.mk hc1
 clear hr1 hc1
 have HB := Z0.mk (Below.refl w.heap.size w)
 have H : (qr14In.l0 k l1 ([] : List Int) 0 a0_0 l0_1) = some r := h
 clear h
 have H' := Z0.mk H
 clear H
 go_enter Try.func72, Try.ntmps72
 go_wp2_with (first | ((with_reducible refine gate_dst (N := 2) rfl ?_); refine bE ?hg (N := 2) ?hd (cs := #[.int .i64 a0_0, .slice A0_1 l0_1.length c0_1]) (t := 24) ?hr ?_; (case hd => rfl); (case hg => rfl); (case hr => first | (go_simp; done) | (go_simp; rfl)); intro gb242 hg w3 hbox hb; have n0_ := Z0.mk (bT (by repeat (first | (with_reducible first | exact HB.out | apply below_alloc | apply bN | apply bD) | exact HB.out)) hb); have n1_ := Z0.mk (hbox); have n2_ := Z0.mk ((by rw [hg]; exact (bZ (by repeat (first | (with_reducible first | exact HB.out | apply below_alloc | apply bN | apply bD) | exact HB.out))) : w.heap.size ≤ gb242)); have n3_ := Z0.mk ((by rw [hg]; exact (bZ (by repeat (first | (with_reducible first | exact HB.out | apply below_alloc | apply bN | apply bD) | exact HB.out))) : w.heap.size ≤ gb242)); clear HB; have HB := n0_; have BK242 := n1_; have GW242 := n2_; have GE242 := n3_; clear n0_ n1_ n2_ n3_; clear hb hbox hg))
 go_loopg [5, 6] k (fun kq v5 v6 w' => ∃ (x5_1 : List Int) (x6_1 : Int), v6 = .int .i64 x6_1 ∧ Z0 (qr14In.l0 kq l1 x5_1 x6_1 a0_0 l0_1 = some r) ∧ Z0 (kq ≤ k) ∧ Z0 (Kd.R (Kd.int .i64) 3 w' w.heap.size (fun _ => True) v5 x5_1) ∧ Z0 (w'.heap[gb242]? = some (.cells #[.int .i64 a0_0, (.slice A0_1 l0_1.length c0_1)] 24 (0, 0))) ∧ Z0 (Below w.heap.size w w'))
 case atStart => exact ⟨(([] : List Int)), (0), (by first | rfl | (simp; done) | (simp [*]; done)), H', ⟨Nat.le_refl _⟩, ⟨by first | exact Kd.R_nil _ _ _ _ _ | exact Kd.N_nil _ _ _ _ _ | exact Kd.V_nil _ _ _ _ _ | exact Kd.Q_nil _ _ _ _ _ | exact Kd.S_nil _ _ _ _ _⟩, ⟨by (with_reducible repeat (first | refine kN ?_ _ | refine kD ?_ | refine kA ?_ _)); exact BK242.out⟩, ⟨by repeat (first | (with_reducible first | exact HB.out | apply below_alloc | apply bN | apply bD | refine bS ?_ GE242.out) | exact HB.out)⟩⟩
 case round =>
  clear H'; (try clear c1); (try clear p2)
  obtain ⟨x5_1, x6_1, rfl, HA, HK1, HO_5, BK242, HB⟩ := hrel
  cases gk with
  | zero => exact absurd HA.out (by simp [qr14In.l0])
  | succ k1 =>
   have H := HA.out
   clear HA
   simp only [qr14In.l0] at H
   by_cases c4 : x6_1 < (l0_1.length : Int)
   ·rw [if_pos c4] at H
    have c4b0 : decide (x6_1 < (l0_1.length : Int)) = true := decide_eq_true c4
    clear c4
    replace H := Option.bind_eq_some_iff.mp H
    obtain ⟨t243, A50, H⟩ := H
    replace H : (if t243 = true then (qr14In.l0 k1 l1 x5_1 (wrap64 (x6_1 + 1)) a0_0 l0_1) else (if x5_1.length < 17592186044416 then (qr14In.l0 k1 l1 (x5_1 ++ [x6_1]) (wrap64 (x6_1 + 1)) a0_0 l0_1) else (none))) = some r := H
    have A5 := Z0.mk A50
    clear A50
    by_cases c6 : t243 = true
    ·subst c6
     have H1 : (qr14In.l0 k1 l1 x5_1 (wrap64 (x6_1 + 1)) a0_0 l0_1) = some r := by rw [if_pos rfl] at H; exact H
     clear H
     have H := H1
     clear H1
     have H' := Z0.mk H
     clear H
     have hcz7_0 : wr.cell? ⟨gb242, 0, none⟩ = some (.int .i64 a0_0) := (kC BK242.out 0).trans rfl
     have hcz7_1 : wr.cell? ⟨gb242, 1, none⟩ = some (.slice A0_1 l0_1.length c0_1) := (kC BK242.out 1).trans rfl
     have hfz7_0 := kF BK242.out 0
     have hfz7_1 := kF BK242.out 1
     go_wp2_with (first | ((with_reducible refine gC (f := 97) rfl ?_); refine gL (some 16) rfl rfl Try.func97 (by kernel_rfl) rfl #[.slice A1 l1.length c1, .int .i64 x6_1] rfl (by (try simp only [List.map_toArray, List.map_cons, List.map_nil]); first | done | rfl | (simp only [List.length_drop, List.length_take]; rfl)) ?_; (with_reducible refine (qr14Has.calls k1 _ _ l1 x6_1 true _ ?side1 ?side2 A5.out).mono ?_); (case side1 => repeat (first | exact (Kd.C_below HR1.out HB.out) | (with_reducible refine Kd.C_alloc ?_ _) | (with_reducible refine Kd.C_drewN ?_ _) | (with_reducible refine Kd.C_drew ?_))); (case side2 => exact HC1.out); rintro e w' ⟨rfl, ⟨nd, rfl⟩⟩; refine ⟨_, rfl, ?_⟩))
     go_roundg k1
     case measure => have := HK1.out; omega
     case rel => exact ⟨(x5_1), (wrap64 (x6_1 + 1)), (by first | rfl | (simp; done) | (simp [*]; done)), H', ⟨by have := HK1.out; omega⟩, ⟨by (with_reducible repeat (first | apply Kd.R_alloc | apply Kd.R_drewN | apply Kd.R_drew)); exact HO_5.out⟩, ⟨by (with_reducible repeat (first | refine kN ?_ _ | refine kD ?_ | refine kA ?_ _)); exact BK242.out⟩, ⟨by repeat (first | (with_reducible first | exact HB.out | apply below_alloc | apply bN | apply bD | refine bS ?_ GE242.out) | exact HB.out)⟩⟩
    ·replace c6 := Bool.eq_false_iff.mpr c6
     subst c6
     have H1 : (if x5_1.length < 17592186044416 then (qr14In.l0 k1 l1 (x5_1 ++ [x6_1]) (wrap64 (x6_1 + 1)) a0_0 l0_1) else (none)) = some r := by rw [if_neg (show ¬ (false = true) by decide)] at H; exact H
     clear H
     have H := H1
     clear H1
     by_cases c8 : x5_1.length < 17592186044416
     ·rw [if_pos c8] at H
      have LMc8 := Z0.mk c8
      clear c8
      obtain ⟨y244, hy244⟩ : ∃ y_ : List Int, y_ = (x5_1 ++ [x6_1]) := ⟨_, rfl⟩
      replace H : (qr14In.l0 k1 l1 y244 (wrap64 (x6_1 + 1)) a0_0 l0_1) = some r := by first | (rw [hy244]; with_reducible exact H) | (have H2_ := (Option.bind_some _ _).symm.trans H; rw [hy244]; with_reducible exact H2_) | (have H2_ := (Option.bind_some _ _).symm.trans H; with_reducible exact H2_) | with_reducible exact H | (rw [hy244]; exact H) | exact H
      have Ny244 := Z0.mk hy244
      clear hy244
      have H' := Z0.mk H
      clear H
      have hcz9_0 : wr.cell? ⟨gb242, 0, none⟩ = some (.int .i64 a0_0) := (kC BK242.out 0).trans rfl
      have hcz9_1 : wr.cell? ⟨gb242, 1, none⟩ = some (.slice A0_1 l0_1.length c0_1) := (kC BK242.out 1).trans rfl
      have hfz9_0 := kF BK242.out 0
      have hfz9_1 := kF BK242.out 1
      go_wp2_with (first | ((with_reducible refine gC (f := 97) rfl ?_); refine gL (some 16) rfl rfl Try.func97 (by kernel_rfl) rfl #[.slice A1 l1.length c1, .int .i64 x6_1] rfl (by (try simp only [List.map_toArray, List.map_cons, List.map_nil]); first | done | rfl | (simp only [List.length_drop, List.length_take]; rfl)) ?_; (with_reducible refine (qr14Has.calls k1 _ _ l1 x6_1 false _ ?side1 ?side2 A5.out).mono ?_); (case side1 => repeat (first | exact (Kd.C_below HR1.out HB.out) | (with_reducible refine Kd.C_alloc ?_ _) | (with_reducible refine Kd.C_drewN ?_ _) | (with_reducible refine Kd.C_drew ?_))); (case side2 => exact HC1.out); rintro e w' ⟨rfl, ⟨nd, rfl⟩⟩; refine ⟨_, rfl, ?_⟩) | ((with_reducible refine gate_builtin (b := .append) (xs := #[.tmp 18, .tmp 20]) rfl ?_); at_builtin; refine Kd.R_append (Kd.int .i64) (w0 := w) w.heap.size rfl (.tmp 18) (.tmp 20) 25 3 (.int .i64 0) 8 rfl Try.underlying25 info3 rfl (by decide) (by omega) u5 x5_1 x6_1 [.int .i64 x6_1] (fun _ => True) (fun _ => False) rfl rfl ?aP (fun _ hk => hk.elim) ?aF ?aO ?aB ?aS ?aL ?_; (case aP => exact rfl); (case aB => exact (by repeat (first | (with_reducible first | exact HB.out | apply below_alloc | apply bN | apply bD | refine bS ?_ GE242.out) | exact HB.out))); (case aF => exact (fun _ _ => trivial)); (case aO => exact (by (with_reducible repeat (first | apply Kd.R_alloc | apply Kd.R_drewN | apply Kd.R_drew)); exact HO_5.out)); (case aS => exact (bZ (by repeat (first | (with_reducible first | exact HB.out | apply below_alloc | apply bN | apply bD | refine bS ?_ GE242.out) | exact HB.out)))); (case aL => have := LMc8.out; omega); intro v245 w10 ho hb hg hat; rw [← Ny244.out] at ho; have n0_ := Z0.mk (blk_grown (g := gb242) (o := .cells #[.int .i64 a0_0, .slice A0_1 l0_1.length c0_1] 24 (0, 0)) (by (with_reducible repeat (first | refine kN ?_ _ | refine kD ?_ | refine kA ?_ _)); exact BK242.out) hg (Kd.R_ne HO_5.out BK242.out (by decide))); have n1_ := Z0.mk (hb); have n2_ := Z0.mk (ho); clear BK242; clear HB; clear HO_5; have BK242 := n0_; have HB := n1_; have HO246 := n2_; clear n0_ n1_ n2_; clear ho hb hg hat))
      go_roundg k1
      case measure => have := HK1.out; omega
      case rel => exact ⟨(y244), (wrap64 (x6_1 + 1)), (by first | rfl | (simp; done) | (simp [*]; done)), H', ⟨by have := HK1.out; omega⟩, ⟨by (with_reducible repeat (first | apply Kd.R_alloc | apply Kd.R_drewN | apply Kd.R_drew)); exact HO246.out⟩, ⟨by (with_reducible repeat (first | refine kN ?_ _ | refine kD ?_ | refine kA ?_ _)); exact BK242.out⟩, ⟨by repeat (first | (with_reducible first | exact HB.out | apply below_alloc | apply bN | apply bD | refine bS ?_ GE242.out) | exact HB.out)⟩⟩
     ·rw [if_neg c8] at H
      exact absurd H (by simp)
   ·rw [if_neg c4] at H
    have c4b0 : decide (x6_1 < (l0_1.length : Int)) = false := decide_eq_false c4
    clear c4
    obtain rfl := Option.some.inj H
    have hcz11_0 : wr.cell? ⟨gb242, 0, none⟩ = some (.int .i64 a0_0) := (kC BK242.out 0).trans rfl
    have hcz11_1 : wr.cell? ⟨gb242, 1, none⟩ = some (.slice A0_1 l0_1.length c0_1) := (kC BK242.out 1).trans rfl
    have hfz11_0 := kF BK242.out 0
    have hfz11_1 := kF BK242.out 1
    go_wp2
    go_ret
    exact ⟨_, by first | rfl | (simp [errW_none, errW_some] <;> rfl) | (simp [*, errW_none, errW_some] <;> rfl), by (with_reducible repeat (first | apply Kd.R_alloc | apply Kd.R_drewN | apply Kd.R_drew)); exact HO_5.out, by repeat (first | (with_reducible first | exact HB.out | apply below_alloc | apply bN | apply bD | refine bS ?_ GE242.out) | exact HB.out)⟩
def qr14At.l0 : Nat → Int → List Int → List Int → Int → Int → List (S37) → Option (List Int)
 | 0, _, _, _, _, _, _ => none
 | k + 1, x2, x7, x8, x9, x1122000, x1122001 => if x9 < (x8.length : Int) then (if 0 ≤ x9 then (if 0 ≤ (rd x8 x9) then (if (rd x8 x9) < (x1122001.length : Int) then (if ((rd_T37 x1122001 (rd x8 x9)).f0) = x2 then (if x7.length < 17592186044416 then (qr14At.l0 k x2 (x7 ++ [rd x8 x9]) x8 (wrap64 (x9 + 1)) x1122000 x1122001) else (none)) else (if ((rd_T37 x1122001 (rd x8 x9)).f1) = x2 then (if x7.length < 17592186044416 then (qr14At.l0 k x2 (x7 ++ [rd x8 x9]) x8 (wrap64 (x9 + 1)) x1122000 x1122001) else (none)) else (qr14At.l0 k x2 x7 x8 (wrap64 (x9 + 1)) x1122000 x1122001))) else (none)) else (none)) else (none)) else (some x7)
def qr14At.f (k : Nat) (a0_0 : Int) (l0_1 : List (S37)) (l1 : List Int) (a2 : Int) : Option (List Int) := (qr14In.f k a0_0 l0_1 l1).bind fun t1122 => (qr14At.l0 k a2 ([] : List Int) t1122 0 a0_0 l0_1)
set_option maxHeartbeats 8000000 in
set_option maxRecDepth 100000 in
theorem qr14At.calls (k : Nat) (a0_0 : Int) (A0_1 : Option Addr) (c0_1 : Nat) (l0_1 : List (S37)) (A1 : Option Addr) (c1 : Nat) (l1 : List Int) (a2 : Int) (r : List Int) (w : World) (hr0_1 : Kd.C k37 w A0_1 l0_1.length l0_1) (hc0_1 : l0_1.length ≤ c0_1) (hr1 : Kd.C (Kd.int .i64) w A1 l1.length l1) (hc1 : l1.length ≤ c1) (h : qr14At.f k a0_0 l0_1 l1 a2 = some r) :
  Calls Try.prog 73 #[.agg #[.int .i64 a0_0, .slice A0_1 l0_1.length c0_1], .slice A1 l1.length c1, .int .i64 a2] w fun e w' => ∃ v0_ : Value, e = .returned (v0_) ∧ Kd.R (Kd.int .i64) 3 w' w.heap.size (fun _ => True) v0_ r ∧ Below w.heap.size w w' := by
 have hu24 := Try.underlying24
 have HR0_1 := Z0.mk hr0_1
 have HC0_1 := Z0.mk hc0_1
 clear hr0_1 hc0_1
 have HR1 := Z0.mk hr1
 have HC1 := Z0.mk hc1
 clear hr1 hc1
 have HB := Z0.mk (Below.refl w.heap.size w)
 have H : ((qr14In.f k a0_0 l0_1 l1).bind fun t1122 => (qr14At.l0 k a2 ([] : List Int) t1122 0 a0_0 l0_1)) = some r := h
 clear h
 replace H := Option.bind_eq_some_iff.mp H
 obtain ⟨t1122, A40, H⟩ := H
 replace H : (qr14At.l0 k a2 ([] : List Int) t1122 0 a0_0 l0_1) = some r := H
 have A4 := Z0.mk A40
 clear A40
 have H' := Z0.mk H
 clear H
 go_enter Try.func73, Try.ntmps73
 go_wp2_with (first | ((with_reducible refine gate_dst (N := 3) rfl ?_); refine bE ?hg (N := 3) ?hd (cs := #[.int .i64 a0_0, .slice A0_1 l0_1.length c0_1]) (t := 24) ?hr ?_; (case hd => rfl); (case hg => rfl); (case hr => first | (go_simp; done) | (go_simp; rfl)); intro gb1121 hg w5 hbox hb; have n0_ := Z0.mk (bT (by repeat (first | (with_reducible first | exact HB.out | apply below_alloc | apply bN | apply bD) | exact HB.out)) hb); have n1_ := Z0.mk (hbox); have n2_ := Z0.mk ((by rw [hg]; exact (bZ (by repeat (first | (with_reducible first | exact HB.out | apply below_alloc | apply bN | apply bD) | exact HB.out))) : w.heap.size ≤ gb1121)); have n3_ := Z0.mk ((by rw [hg]; exact (bZ (by repeat (first | (with_reducible first | exact HB.out | apply below_alloc | apply bN | apply bD) | exact HB.out))) : w.heap.size ≤ gb1121)); clear HB; have HB := n0_; have BK1121 := n1_; have GW1121 := n2_; have GE1121 := n3_; clear n0_ n1_ n2_ n3_; clear hb hbox hg; have hcz6_0 : w5.cell? ⟨gb1121, 0, none⟩ = some (.int .i64 a0_0) := (kC BK1121.out 0).trans rfl; have hcz6_1 : w5.cell? ⟨gb1121, 1, none⟩ = some (.slice A0_1 l0_1.length c0_1) := (kC BK1121.out 1).trans rfl; have hfz6_0 := kF BK1121.out 0; have hfz6_1 := kF BK1121.out 1) | (go_at_call 72; (with_reducible refine (qr14In.calls k a0_0 _ _ l0_1 _ _ l1 t1122 _ ?side1 ?side2 ?side3 ?side4 A4.out).mono ?_); (case side1 => repeat (first | exact (Kd.C_below HR0_1.out HB.out) | (with_reducible refine Kd.C_alloc ?_ _) | (with_reducible refine Kd.C_drewN ?_ _) | (with_reducible refine Kd.C_drew ?_))); (case side2 => exact HC0_1.out); (case side3 => repeat (first | exact (Kd.C_below HR1.out HB.out) | (with_reducible refine Kd.C_alloc ?_ _) | (with_reducible refine Kd.C_drewN ?_ _) | (with_reducible refine Kd.C_drew ?_))); (case side4 => exact HC1.out); rintro e w7 ⟨v1123, rfl, ho0, hb⟩; have n0_ := Z0.mk (Kd.R_lower ho0 (bZ (by repeat (first | (with_reducible first | exact HB.out | apply below_alloc | apply bN | apply bD | refine bS ?_ GE1121.out) | exact HB.out)))); have n1_ := Z0.mk (kB (g := gb1121) (o := .cells #[.int .i64 a0_0, .slice A0_1 l0_1.length c0_1] 24 (0, 0)) (by (with_reducible repeat (first | refine kN ?_ _ | refine kD ?_ | refine kA ?_ _)); exact BK1121.out) hb); have n2_ := Z0.mk (bT (by repeat (first | (with_reducible first | exact HB.out | apply below_alloc | apply bN | apply bD | refine bS ?_ GE1121.out) | exact HB.out)) hb); clear BK1121; clear HB; have HO1124 := n0_; have BK1121 := n1_; have HB := n2_; clear n0_ n1_ n2_; (try clear hb); (try clear hb2); (try clear hk); (try clear hi); (try clear ho0)))
 repeat (go_quiet (first | ((with_reducible refine gate_dst (N := 3) rfl ?_); refine bE ?hg (N := 3) ?hd (cs := #[.int .i64 a0_0, .slice A0_1 l0_1.length c0_1]) (t := 24) ?hr ?_; (case hd => rfl); (case hg => rfl); (case hr => first | (go_simp; done) | (go_simp; rfl)); intro gb1121 hg w5 hbox hb; have n0_ := Z0.mk (bT (by repeat (first | (with_reducible first | exact HB.out | apply below_alloc | apply bN | apply bD) | exact HB.out)) hb); have n1_ := Z0.mk (hbox); have n2_ := Z0.mk ((by rw [hg]; exact (bZ (by repeat (first | (with_reducible first | exact HB.out | apply below_alloc | apply bN | apply bD) | exact HB.out))) : w.heap.size ≤ gb1121)); have n3_ := Z0.mk ((by rw [hg]; exact (bZ (by repeat (first | (with_reducible first | exact HB.out | apply below_alloc | apply bN | apply bD) | exact HB.out))) : w.heap.size ≤ gb1121)); clear HB; have HB := n0_; have BK1121 := n1_; have GW1121 := n2_; have GE1121 := n3_; clear n0_ n1_ n2_ n3_; clear hb hbox hg; have hcz6_0 : w5.cell? ⟨gb1121, 0, none⟩ = some (.int .i64 a0_0) := (kC BK1121.out 0).trans rfl; have hcz6_1 : w5.cell? ⟨gb1121, 1, none⟩ = some (.slice A0_1 l0_1.length c0_1) := (kC BK1121.out 1).trans rfl; have hfz6_0 := kF BK1121.out 0; have hfz6_1 := kF BK1121.out 1) | (go_at_call 72; (with_reducible refine (qr14In.calls k a0_0 _ _ l0_1 _ _ l1 t1122 _ ?side1 ?side2 ?side3 ?side4 A4.out).mono ?_); (case side1 => repeat (first | exact (Kd.C_below HR0_1.out HB.out) | (with_reducible refine Kd.C_alloc ?_ _) | (with_reducible refine Kd.C_drewN ?_ _) | (with_reducible refine Kd.C_drew ?_))); (case side2 => exact HC0_1.out); (case side3 => repeat (first | exact (Kd.C_below HR1.out HB.out) | (with_reducible refine Kd.C_alloc ?_ _) | (with_reducible refine Kd.C_drewN ?_ _) | (with_reducible refine Kd.C_drew ?_))); (case side4 => exact HC1.out); rintro e w7 ⟨v1123, rfl, ho0, hb⟩; have n0_ := Z0.mk (Kd.R_lower ho0 (bZ (by repeat (first | (with_reducible first | exact HB.out | apply below_alloc | apply bN | apply bD | refine bS ?_ GE1121.out) | exact HB.out)))); have n1_ := Z0.mk (kB (g := gb1121) (o := .cells #[.int .i64 a0_0, .slice A0_1 l0_1.length c0_1] 24 (0, 0)) (by (with_reducible repeat (first | refine kN ?_ _ | refine kD ?_ | refine kA ?_ _)); exact BK1121.out) hb); have n2_ := Z0.mk (bT (by repeat (first | (with_reducible first | exact HB.out | apply below_alloc | apply bN | apply bD | refine bS ?_ GE1121.out) | exact HB.out)) hb); clear BK1121; clear HB; have HO1124 := n0_; have BK1121 := n1_; have HB := n2_; clear n0_ n1_ n2_; (try clear hb); (try clear hb2); (try clear hk); (try clear hi); (try clear ho0))); try go_wp2_with (first | ((with_reducible refine gate_dst (N := 3) rfl ?_); refine bE ?hg (N := 3) ?hd (cs := #[.int .i64 a0_0, .slice A0_1 l0_1.length c0_1]) (t := 24) ?hr ?_; (case hd => rfl); (case hg => rfl); (case hr => first | (go_simp; done) | (go_simp; rfl)); intro gb1121 hg w5 hbox hb; have n0_ := Z0.mk (bT (by repeat (first | (with_reducible first | exact HB.out | apply below_alloc | apply bN | apply bD) | exact HB.out)) hb); have n1_ := Z0.mk (hbox); have n2_ := Z0.mk ((by rw [hg]; exact (bZ (by repeat (first | (with_reducible first | exact HB.out | apply below_alloc | apply bN | apply bD) | exact HB.out))) : w.heap.size ≤ gb1121)); have n3_ := Z0.mk ((by rw [hg]; exact (bZ (by repeat (first | (with_reducible first | exact HB.out | apply below_alloc | apply bN | apply bD) | exact HB.out))) : w.heap.size ≤ gb1121)); clear HB; have HB := n0_; have BK1121 := n1_; have GW1121 := n2_; have GE1121 := n3_; clear n0_ n1_ n2_ n3_; clear hb hbox hg; have hcz6_0 : w5.cell? ⟨gb1121, 0, none⟩ = some (.int .i64 a0_0) := (kC BK1121.out 0).trans rfl; have hcz6_1 : w5.cell? ⟨gb1121, 1, none⟩ = some (.slice A0_1 l0_1.length c0_1) := (kC BK1121.out 1).trans rfl; have hfz6_0 := kF BK1121.out 0; have hfz6_1 := kF BK1121.out 1) | (go_at_call 72; (with_reducible refine (qr14In.calls k a0_0 _ _ l0_1 _ _ l1 t1122 _ ?side1 ?side2 ?side3 ?side4 A4.out).mono ?_); (case side1 => repeat (first | exact (Kd.C_below HR0_1.out HB.out) | (with_reducible refine Kd.C_alloc ?_ _) | (with_reducible refine Kd.C_drewN ?_ _) | (with_reducible refine Kd.C_drew ?_))); (case side2 => exact HC0_1.out); (case side3 => repeat (first | exact (Kd.C_below HR1.out HB.out) | (with_reducible refine Kd.C_alloc ?_ _) | (with_reducible refine Kd.C_drewN ?_ _) | (with_reducible refine Kd.C_drew ?_))); (case side4 => exact HC1.out); rintro e w7 ⟨v1123, rfl, ho0, hb⟩; have n0_ := Z0.mk (Kd.R_lower ho0 (bZ (by repeat (first | (with_reducible first | exact HB.out | apply below_alloc | apply bN | apply bD | refine bS ?_ GE1121.out) | exact HB.out)))); have n1_ := Z0.mk (kB (g := gb1121) (o := .cells #[.int .i64 a0_0, .slice A0_1 l0_1.length c0_1] 24 (0, 0)) (by (with_reducible repeat (first | refine kN ?_ _ | refine kD ?_ | refine kA ?_ _)); exact BK1121.out) hb); have n2_ := Z0.mk (bT (by repeat (first | (with_reducible first | exact HB.out | apply below_alloc | apply bN | apply bD | refine bS ?_ GE1121.out) | exact HB.out)) hb); clear BK1121; clear HB; have HO1124 := n0_; have BK1121 := n1_; have HB := n2_; clear n0_ n1_ n2_; (try clear hb); (try clear hb2); (try clear hk); (try clear hi); (try clear ho0))))
 go_loopg [7, 9] k (fun kq v7 v9 w' => ∃ (x7_1 : List Int) (x9_1 : Int), v9 = .int .i64 x9_1 ∧ Z0 (qr14At.l0 kq a2 x7_1 t1122 x9_1 a0_0 l0_1 = some r) ∧ Z0 (kq ≤ k) ∧ Z0 (Kd.R (Kd.int .i64) 3 w' w.heap.size (fun k_ => some k_ ≠ (v1123 : Value).ownBlock) v7 x7_1) ∧ Z0 (Kd.R (Kd.int .i64) 3 w' w.heap.size (fun k_ => some k_ ≠ (v7 : Value).ownBlock) v1123 t1122) ∧ Z0 (w'.heap[gb1121]? = some (.cells #[.int .i64 a0_0, (.slice A0_1 l0_1.length c0_1)] 24 (0, 0))) ∧ Z0 (Below w.heap.size w w'))
 case atStart => exact ⟨(([] : List Int)), (0), (by first | rfl | (simp; done) | (simp [*]; done)), H', ⟨Nat.le_refl _⟩, ⟨by first | exact Kd.R_nil _ _ _ _ _ | exact Kd.N_nil _ _ _ _ _ | exact Kd.V_nil _ _ _ _ _ | exact Kd.Q_nil _ _ _ _ _ | exact Kd.S_nil _ _ _ _ _⟩, ⟨by (with_reducible repeat (first | apply Kd.R_alloc | apply Kd.R_drewN | apply Kd.R_drew)); exact Kd.R_mono HO1124.out (fun _ hk => (by simp [Value.ownBlock]))⟩, ⟨by (with_reducible repeat (first | refine kN ?_ _ | refine kD ?_ | refine kA ?_ _)); exact BK1121.out⟩, ⟨by repeat (first | (with_reducible first | exact HB.out | apply below_alloc | apply bN | apply bD | refine bS ?_ GE1121.out) | exact HB.out)⟩⟩
 case round =>
  clear H'; (try clear c1); (try clear p2); (try clear c7); (try clear hcz6_0); (try clear hcz6_1); (try clear hfz6_0); (try clear hfz6_1)
  obtain ⟨x7_1, x9_1, rfl, HA, HK1, HO_7, HO_8, BK1121, HB⟩ := hrel
  cases gk with
  | zero => exact absurd HA.out (by simp [qr14At.l0])
  | succ k1 =>
   have H := HA.out
   clear HA
   simp only [qr14At.l0] at H
   by_cases c8 : x9_1 < (t1122.length : Int)
   ·rw [if_pos c8] at H
    have c8b0 : decide (x9_1 < (t1122.length : Int)) = true := decide_eq_true c8
    clear c8
    by_cases c9 : 0 ≤ x9_1
    ·rw [if_pos c9] at H
     have c9b0 : decide (0 ≤ x9_1) = true := decide_eq_true c9
     clear c9
     by_cases c10 : 0 ≤ (rd t1122 x9_1)
     ·rw [if_pos c10] at H
      have c10b0 : decide (0 ≤ (rd t1122 x9_1)) = true := decide_eq_true c10
      clear c10
      by_cases c11 : (rd t1122 x9_1) < (l0_1.length : Int)
      ·rw [if_pos c11] at H
       have c11b0 : decide ((rd t1122 x9_1) < (l0_1.length : Int)) = true := decide_eq_true c11
       clear c11
       by_cases c12 : ((rd_T37 l0_1 (rd t1122 x9_1)).f0) = a2
       ·rw [if_pos c12] at H
        have c12b0 : (((rd_T37 l0_1 (rd t1122 x9_1)).f0) == a2) = true := beq_iff_eq.mpr c12
        have c12b1 : (((rd_T37 l0_1 (rd t1122 x9_1)).f0) != a2) = false := bne_eq_false_iff_eq.mpr c12
        clear c12
        by_cases c13 : x7_1.length < 17592186044416
        ·rw [if_pos c13] at H
         have LMc13 := Z0.mk c13
         clear c13
         obtain ⟨y1128, hy1128⟩ : ∃ y_ : List Int, y_ = (x7_1 ++ [rd t1122 x9_1]) := ⟨_, rfl⟩
         replace H : (qr14At.l0 k1 a2 y1128 t1122 (wrap64 (x9_1 + 1)) a0_0 l0_1) = some r := by first | (rw [hy1128]; with_reducible exact H) | (have H2_ := (Option.bind_some _ _).symm.trans H; rw [hy1128]; with_reducible exact H2_) | (have H2_ := (Option.bind_some _ _).symm.trans H; with_reducible exact H2_) | with_reducible exact H | (rw [hy1128]; exact H) | exact H
         have Ny1128 := Z0.mk hy1128
         clear hy1128
         have H' := Z0.mk H
         clear H
         obtain ⟨Ao14, co14, eo14⟩ := Kd.R_slice HO_8.out
         subst eo14
         have hcz15_0 : wr.cell? ⟨gb1121, 0, none⟩ = some (.int .i64 a0_0) := (kC BK1121.out 0).trans rfl
         have hcz15_1 : wr.cell? ⟨gb1121, 1, none⟩ = some (.slice A0_1 l0_1.length c0_1) := (kC BK1121.out 1).trans rfl
         have hfz15_0 := kF BK1121.out 0
         have hfz15_1 := kF BK1121.out 1
         have p1125 : 0 ≤ (x9_1 : Int) := of_decide_eq_true (by first | (with_reducible assumption) | assumption)
         have q1125 : x9_1 < (t1122.length : Int) := of_decide_eq_true (by first | (with_reducible assumption) | assumption)
         obtain ⟨ad1125, e1125, hx1125_0⟩ := Kd.at_int (Kd.R_reads' HO_8.out).2.2 x9_1 p1125 q1125
         cases e1125
         replace p1125 := eq_true p1125
         replace q1125 := eq_true q1125
         have p1126 : 0 ≤ ((rd t1122 x9_1) : Int) := of_decide_eq_true (by first | (with_reducible assumption) | assumption)
         have q1126 : (rd t1122 x9_1) < (l0_1.length : Int) := of_decide_eq_true (by first | (with_reducible assumption) | assumption)
         obtain ⟨ad1126, e1126, hx1126_0, hx1126_1, hx1126_2, hx1126_3⟩ := at_T37 HR0_1.out (rd t1122 x9_1) p1126 q1126
         cases e1126
         replace hx1126_0 := (HB.out.cell (World.block_lt_of_cell? w _ hx1126_0)).trans hx1126_0
         replace hx1126_1 := (HB.out.cell (World.block_lt_of_cell? w _ hx1126_1)).trans hx1126_1
         replace hx1126_2 := (HB.out.cell (World.block_lt_of_cell? w _ hx1126_2)).trans hx1126_2
         replace hx1126_3 := (HB.out.cell (World.block_lt_of_cell? w _ hx1126_3)).trans hx1126_3
         replace p1126 := eq_true p1126
         replace q1126 := eq_true q1126
         have p1127 : 0 ≤ (x9_1 : Int) := of_decide_eq_true (by first | (with_reducible assumption) | assumption)
         have q1127 : x9_1 < (t1122.length : Int) := of_decide_eq_true (by first | (with_reducible assumption) | assumption)
         obtain ⟨ad1127, e1127, hx1127_0⟩ := Kd.at_int (Kd.R_reads' HO_8.out).2.2 x9_1 p1127 q1127
         obtain rfl : ad1125 = ad1127 := (by injection e1127)
         replace p1127 := eq_true p1127
         replace q1127 := eq_true q1127
         go_wp2_with (first | ((with_reducible refine gate_builtin (b := .append) (xs := #[.tmp 43, .tmp 48]) rfl ?_); at_builtin; refine Kd.R_append (Kd.int .i64) (w0 := w) w.heap.size rfl (.tmp 43) (.tmp 48) 25 3 (.int .i64 0) 8 rfl Try.underlying25 info3 rfl (by decide) (by omega) u7 x7_1 (rd t1122 x9_1) [.int .i64 (rd t1122 x9_1)] (fun k_ => some k_ ≠ (.slice (some ad1125) t1122.length co14 : Value).ownBlock) (fun _ => False) rfl rfl ?aP (fun _ hk => hk.elim) ?aF ?aO ?aB ?aS ?aL ?_; (case aP => exact rfl); (case aB => exact (by repeat (first | (with_reducible first | exact HB.out | apply below_alloc | apply bN | apply bD | refine bS ?_ GE1121.out) | exact HB.out))); (case aF => exact (fun k_ hk => Kd.fresh' (Kd.R_lt (by (with_reducible repeat (first | apply Kd.R_alloc | apply Kd.R_drewN | apply Kd.R_drew)); exact HO_8.out)) k_ hk)); (case aO => exact (by (with_reducible repeat (first | apply Kd.R_alloc | apply Kd.R_drewN | apply Kd.R_drew)); exact HO_7.out)); (case aS => exact (bZ (by repeat (first | (with_reducible first | exact HB.out | apply below_alloc | apply bN | apply bD | refine bS ?_ GE1121.out) | exact HB.out)))); (case aL => have := LMc13.out; omega); intro v1129 w16 ho hb hg hat; rw [← Ny1128.out] at ho; have n0_ := Z0.mk (Kd.R_after (ok := (fun _ => True)) (by (with_reducible repeat (first | apply Kd.R_alloc | apply Kd.R_drewN | apply Kd.R_drew)); exact Kd.R_mono HO_8.out (fun _ hk => ⟨trivial, hk⟩)) hg hat); have n1_ := Z0.mk (blk_grown (g := gb1121) (o := .cells #[.int .i64 a0_0, .slice (some ad1126) l0_1.length c0_1] 24 (0, 0)) (by (with_reducible repeat (first | refine kN ?_ _ | refine kD ?_ | refine kA ?_ _)); exact BK1121.out) hg (Kd.R_ne HO_7.out BK1121.out (by decide))); have n2_ := Z0.mk (hb); have n3_ := Z0.mk (ho); clear HO_8; clear BK1121; clear HB; clear HO_7; have HO_8 := n0_; have BK1121 := n1_; have HB := n2_; have HO1130 := n3_; clear n0_ n1_ n2_ n3_; clear ho hb hg hat))
         repeat (go_quiet (first | ((with_reducible refine gate_builtin (b := .append) (xs := #[.tmp 43, .tmp 48]) rfl ?_); at_builtin; refine Kd.R_append (Kd.int .i64) (w0 := w) w.heap.size rfl (.tmp 43) (.tmp 48) 25 3 (.int .i64 0) 8 rfl Try.underlying25 info3 rfl (by decide) (by omega) u7 x7_1 (rd t1122 x9_1) [.int .i64 (rd t1122 x9_1)] (fun k_ => some k_ ≠ (.slice (some ad1125) t1122.length co14 : Value).ownBlock) (fun _ => False) rfl rfl ?aP (fun _ hk => hk.elim) ?aF ?aO ?aB ?aS ?aL ?_; (case aP => exact rfl); (case aB => exact (by repeat (first | (with_reducible first | exact HB.out | apply below_alloc | apply bN | apply bD | refine bS ?_ GE1121.out) | exact HB.out))); (case aF => exact (fun k_ hk => Kd.fresh' (Kd.R_lt (by (with_reducible repeat (first | apply Kd.R_alloc | apply Kd.R_drewN | apply Kd.R_drew)); exact HO_8.out)) k_ hk)); (case aO => exact (by (with_reducible repeat (first | apply Kd.R_alloc | apply Kd.R_drewN | apply Kd.R_drew)); exact HO_7.out)); (case aS => exact (bZ (by repeat (first | (with_reducible first | exact HB.out | apply below_alloc | apply bN | apply bD | refine bS ?_ GE1121.out) | exact HB.out)))); (case aL => have := LMc13.out; omega); intro v1129 w16 ho hb hg hat; rw [← Ny1128.out] at ho; have n0_ := Z0.mk (Kd.R_after (ok := (fun _ => True)) (by (with_reducible repeat (first | apply Kd.R_alloc | apply Kd.R_drewN | apply Kd.R_drew)); exact Kd.R_mono HO_8.out (fun _ hk => ⟨trivial, hk⟩)) hg hat); have n1_ := Z0.mk (blk_grown (g := gb1121) (o := .cells #[.int .i64 a0_0, .slice (some ad1126) l0_1.length c0_1] 24 (0, 0)) (by (with_reducible repeat (first | refine kN ?_ _ | refine kD ?_ | refine kA ?_ _)); exact BK1121.out) hg (Kd.R_ne HO_7.out BK1121.out (by decide))); have n2_ := Z0.mk (hb); have n3_ := Z0.mk (ho); clear HO_8; clear BK1121; clear HB; clear HO_7; have HO_8 := n0_; have BK1121 := n1_; have HB := n2_; have HO1130 := n3_; clear n0_ n1_ n2_ n3_; clear ho hb hg hat)); try go_wp2_with (first | ((with_reducible refine gate_builtin (b := .append) (xs := #[.tmp 43, .tmp 48]) rfl ?_); at_builtin; refine Kd.R_append (Kd.int .i64) (w0 := w) w.heap.size rfl (.tmp 43) (.tmp 48) 25 3 (.int .i64 0) 8 rfl Try.underlying25 info3 rfl (by decide) (by omega) u7 x7_1 (rd t1122 x9_1) [.int .i64 (rd t1122 x9_1)] (fun k_ => some k_ ≠ (.slice (some ad1125) t1122.length co14 : Value).ownBlock) (fun _ => False) rfl rfl ?aP (fun _ hk => hk.elim) ?aF ?aO ?aB ?aS ?aL ?_; (case aP => exact rfl); (case aB => exact (by repeat (first | (with_reducible first | exact HB.out | apply below_alloc | apply bN | apply bD | refine bS ?_ GE1121.out) | exact HB.out))); (case aF => exact (fun k_ hk => Kd.fresh' (Kd.R_lt (by (with_reducible repeat (first | apply Kd.R_alloc | apply Kd.R_drewN | apply Kd.R_drew)); exact HO_8.out)) k_ hk)); (case aO => exact (by (with_reducible repeat (first | apply Kd.R_alloc | apply Kd.R_drewN | apply Kd.R_drew)); exact HO_7.out)); (case aS => exact (bZ (by repeat (first | (with_reducible first | exact HB.out | apply below_alloc | apply bN | apply bD | refine bS ?_ GE1121.out) | exact HB.out)))); (case aL => have := LMc13.out; omega); intro v1129 w16 ho hb hg hat; rw [← Ny1128.out] at ho; have n0_ := Z0.mk (Kd.R_after (ok := (fun _ => True)) (by (with_reducible repeat (first | apply Kd.R_alloc | apply Kd.R_drewN | apply Kd.R_drew)); exact Kd.R_mono HO_8.out (fun _ hk => ⟨trivial, hk⟩)) hg hat); have n1_ := Z0.mk (blk_grown (g := gb1121) (o := .cells #[.int .i64 a0_0, .slice (some ad1126) l0_1.length c0_1] 24 (0, 0)) (by (with_reducible repeat (first | refine kN ?_ _ | refine kD ?_ | refine kA ?_ _)); exact BK1121.out) hg (Kd.R_ne HO_7.out BK1121.out (by decide))); have n2_ := Z0.mk (hb); have n3_ := Z0.mk (ho); clear HO_8; clear BK1121; clear HB; clear HO_7; have HO_8 := n0_; have BK1121 := n1_; have HB := n2_; have HO1130 := n3_; clear n0_ n1_ n2_ n3_; clear ho hb hg hat)))
         go_roundg k1
         case measure => have := HK1.out; omega
         case rel => exact ⟨(y1128), (wrap64 (x9_1 + 1)), (by first | rfl | (simp; done) | (simp [*]; done)), H', ⟨by have := HK1.out; omega⟩, ⟨by (with_reducible repeat (first | apply Kd.R_alloc | apply Kd.R_drewN | apply Kd.R_drew)); exact HO1130.out⟩, ⟨by (with_reducible repeat (first | apply Kd.R_alloc | apply Kd.R_drewN | apply Kd.R_drew)); exact Kd.R_mono HO_8.out (fun _ hk => hk.2)⟩, ⟨by (with_reducible repeat (first | refine kN ?_ _ | refine kD ?_ | refine kA ?_ _)); exact BK1121.out⟩, ⟨by repeat (first | (with_reducible first | exact HB.out | apply below_alloc | apply bN | apply bD | refine bS ?_ GE1121.out) | exact HB.out)⟩⟩
        ·rw [if_neg c13] at H
         exact absurd H (by simp)
       ·rw [if_neg c12] at H
        have c12b0 : (((rd_T37 l0_1 (rd t1122 x9_1)).f0) == a2) = false := beq_eq_false_iff_ne.mpr c12
        have c12b1 : (((rd_T37 l0_1 (rd t1122 x9_1)).f0) != a2) = true := bne_iff_ne.mpr c12
        by_cases c17 : ((rd_T37 l0_1 (rd t1122 x9_1)).f1) = a2
        ·rw [if_pos c17] at H
         have c17b0 : (((rd_T37 l0_1 (rd t1122 x9_1)).f1) == a2) = true := beq_iff_eq.mpr c17
         have c17b1 : (((rd_T37 l0_1 (rd t1122 x9_1)).f1) != a2) = false := bne_eq_false_iff_eq.mpr c17
         clear c17
         by_cases c18 : x7_1.length < 17592186044416
         ·rw [if_pos c18] at H
          have LMc18 := Z0.mk c18
          clear c18
          obtain ⟨y1134, hy1134⟩ : ∃ y_ : List Int, y_ = (x7_1 ++ [rd t1122 x9_1]) := ⟨_, rfl⟩
          replace H : (qr14At.l0 k1 a2 y1134 t1122 (wrap64 (x9_1 + 1)) a0_0 l0_1) = some r := by first | (rw [hy1134]; with_reducible exact H) | (have H2_ := (Option.bind_some _ _).symm.trans H; rw [hy1134]; with_reducible exact H2_) | (have H2_ := (Option.bind_some _ _).symm.trans H; with_reducible exact H2_) | with_reducible exact H | (rw [hy1134]; exact H) | exact H
          have Ny1134 := Z0.mk hy1134
          clear hy1134
          have H' := Z0.mk H
          clear H
          obtain ⟨Ao19, co19, eo19⟩ := Kd.R_slice HO_8.out
          subst eo19
          have hcz20_0 : wr.cell? ⟨gb1121, 0, none⟩ = some (.int .i64 a0_0) := (kC BK1121.out 0).trans rfl
          have hcz20_1 : wr.cell? ⟨gb1121, 1, none⟩ = some (.slice A0_1 l0_1.length c0_1) := (kC BK1121.out 1).trans rfl
          have hfz20_0 := kF BK1121.out 0
          have hfz20_1 := kF BK1121.out 1
          have p1125 : 0 ≤ (x9_1 : Int) := of_decide_eq_true (by first | (with_reducible assumption) | assumption)
          have q1125 : x9_1 < (t1122.length : Int) := of_decide_eq_true (by first | (with_reducible assumption) | assumption)
          obtain ⟨ad1125, e1125, hx1125_0⟩ := Kd.at_int (Kd.R_reads' HO_8.out).2.2 x9_1 p1125 q1125
          cases e1125
          replace p1125 := eq_true p1125
          replace q1125 := eq_true q1125
          have p1126 : 0 ≤ ((rd t1122 x9_1) : Int) := of_decide_eq_true (by first | (with_reducible assumption) | assumption)
          have q1126 : (rd t1122 x9_1) < (l0_1.length : Int) := of_decide_eq_true (by first | (with_reducible assumption) | assumption)
          obtain ⟨ad1126, e1126, hx1126_0, hx1126_1, hx1126_2, hx1126_3⟩ := at_T37 HR0_1.out (rd t1122 x9_1) p1126 q1126
          cases e1126
          replace hx1126_0 := (HB.out.cell (World.block_lt_of_cell? w _ hx1126_0)).trans hx1126_0
          replace hx1126_1 := (HB.out.cell (World.block_lt_of_cell? w _ hx1126_1)).trans hx1126_1
          replace hx1126_2 := (HB.out.cell (World.block_lt_of_cell? w _ hx1126_2)).trans hx1126_2
          replace hx1126_3 := (HB.out.cell (World.block_lt_of_cell? w _ hx1126_3)).trans hx1126_3
          replace p1126 := eq_true p1126
          replace q1126 := eq_true q1126
          have p1131 : 0 ≤ (x9_1 : Int) := of_decide_eq_true (by first | (with_reducible assumption) | assumption)
          have q1131 : x9_1 < (t1122.length : Int) := of_decide_eq_true (by first | (with_reducible assumption) | assumption)
          obtain ⟨ad1131, e1131, hx1131_0⟩ := Kd.at_int (Kd.R_reads' HO_8.out).2.2 x9_1 p1131 q1131
          obtain rfl : ad1125 = ad1131 := (by injection e1131)
          replace p1131 := eq_true p1131
          replace q1131 := eq_true q1131
          have p1132 : 0 ≤ ((rd t1122 x9_1) : Int) := of_decide_eq_true (by first | (with_reducible assumption) | assumption)
          have q1132 : (rd t1122 x9_1) < (l0_1.length : Int) := of_decide_eq_true (by first | (with_reducible assumption) | assumption)
          obtain ⟨ad1132, e1132, hx1132_0, hx1132_1, hx1132_2, hx1132_3⟩ := at_T37 HR0_1.out (rd t1122 x9_1) p1132 q1132
          obtain rfl : ad1126 = ad1132 := (by injection e1132)
          replace hx1132_0 := (HB.out.cell (World.block_lt_of_cell? w _ hx1132_0)).trans hx1132_0
          replace hx1132_1 := (HB.out.cell (World.block_lt_of_cell? w _ hx1132_1)).trans hx1132_1
          replace hx1132_2 := (HB.out.cell (World.block_lt_of_cell? w _ hx1132_2)).trans hx1132_2
          replace hx1132_3 := (HB.out.cell (World.block_lt_of_cell? w _ hx1132_3)).trans hx1132_3
          replace p1132 := eq_true p1132
          replace q1132 := eq_true q1132
          have p1133 : 0 ≤ (x9_1 : Int) := of_decide_eq_true (by first | (with_reducible assumption) | assumption)
          have q1133 : x9_1 < (t1122.length : Int) := of_decide_eq_true (by first | (with_reducible assumption) | assumption)
          obtain ⟨ad1133, e1133, hx1133_0⟩ := Kd.at_int (Kd.R_reads' HO_8.out).2.2 x9_1 p1133 q1133
          obtain rfl : ad1125 = ad1133 := (by injection e1133)
          replace p1133 := eq_true p1133
          replace q1133 := eq_true q1133
          go_wp2_with (first | ((with_reducible refine gate_builtin (b := .append) (xs := #[.tmp 43, .tmp 48]) rfl ?_); at_builtin; refine Kd.R_append (Kd.int .i64) (w0 := w) w.heap.size rfl (.tmp 43) (.tmp 48) 25 3 (.int .i64 0) 8 rfl Try.underlying25 info3 rfl (by decide) (by omega) u7 x7_1 (rd t1122 x9_1) [.int .i64 (rd t1122 x9_1)] (fun k_ => some k_ ≠ (.slice (some ad1125) t1122.length co19 : Value).ownBlock) (fun _ => False) rfl rfl ?aP (fun _ hk => hk.elim) ?aF ?aO ?aB ?aS ?aL ?_; (case aP => exact rfl); (case aB => exact (by repeat (first | (with_reducible first | exact HB.out | apply below_alloc | apply bN | apply bD | refine bS ?_ GE1121.out) | exact HB.out))); (case aF => exact (fun k_ hk => Kd.fresh' (Kd.R_lt (by (with_reducible repeat (first | apply Kd.R_alloc | apply Kd.R_drewN | apply Kd.R_drew)); exact HO_8.out)) k_ hk)); (case aO => exact (by (with_reducible repeat (first | apply Kd.R_alloc | apply Kd.R_drewN | apply Kd.R_drew)); exact HO_7.out)); (case aS => exact (bZ (by repeat (first | (with_reducible first | exact HB.out | apply below_alloc | apply bN | apply bD | refine bS ?_ GE1121.out) | exact HB.out)))); (case aL => have := LMc18.out; omega); intro v1135 w21 ho hb hg hat; rw [← Ny1134.out] at ho; have n0_ := Z0.mk (Kd.R_after (ok := (fun _ => True)) (by (with_reducible repeat (first | apply Kd.R_alloc | apply Kd.R_drewN | apply Kd.R_drew)); exact Kd.R_mono HO_8.out (fun _ hk => ⟨trivial, hk⟩)) hg hat); have n1_ := Z0.mk (blk_grown (g := gb1121) (o := .cells #[.int .i64 a0_0, .slice (some ad1126) l0_1.length c0_1] 24 (0, 0)) (by (with_reducible repeat (first | refine kN ?_ _ | refine kD ?_ | refine kA ?_ _)); exact BK1121.out) hg (Kd.R_ne HO_7.out BK1121.out (by decide))); have n2_ := Z0.mk (hb); have n3_ := Z0.mk (ho); clear HO_8; clear BK1121; clear HB; clear HO_7; have HO_8 := n0_; have BK1121 := n1_; have HB := n2_; have HO1136 := n3_; clear n0_ n1_ n2_ n3_; clear ho hb hg hat))
          repeat (go_quiet (first | ((with_reducible refine gate_builtin (b := .append) (xs := #[.tmp 43, .tmp 48]) rfl ?_); at_builtin; refine Kd.R_append (Kd.int .i64) (w0 := w) w.heap.size rfl (.tmp 43) (.tmp 48) 25 3 (.int .i64 0) 8 rfl Try.underlying25 info3 rfl (by decide) (by omega) u7 x7_1 (rd t1122 x9_1) [.int .i64 (rd t1122 x9_1)] (fun k_ => some k_ ≠ (.slice (some ad1125) t1122.length co19 : Value).ownBlock) (fun _ => False) rfl rfl ?aP (fun _ hk => hk.elim) ?aF ?aO ?aB ?aS ?aL ?_; (case aP => exact rfl); (case aB => exact (by repeat (first | (with_reducible first | exact HB.out | apply below_alloc | apply bN | apply bD | refine bS ?_ GE1121.out) | exact HB.out))); (case aF => exact (fun k_ hk => Kd.fresh' (Kd.R_lt (by (with_reducible repeat (first | apply Kd.R_alloc | apply Kd.R_drewN | apply Kd.R_drew)); exact HO_8.out)) k_ hk)); (case aO => exact (by (with_reducible repeat (first | apply Kd.R_alloc | apply Kd.R_drewN | apply Kd.R_drew)); exact HO_7.out)); (case aS => exact (bZ (by repeat (first | (with_reducible first | exact HB.out | apply below_alloc | apply bN | apply bD | refine bS ?_ GE1121.out) | exact HB.out)))); (case aL => have := LMc18.out; omega); intro v1135 w21 ho hb hg hat; rw [← Ny1134.out] at ho; have n0_ := Z0.mk (Kd.R_after (ok := (fun _ => True)) (by (with_reducible repeat (first | apply Kd.R_alloc | apply Kd.R_drewN | apply Kd.R_drew)); exact Kd.R_mono HO_8.out (fun _ hk => ⟨trivial, hk⟩)) hg hat); have n1_ := Z0.mk (blk_grown (g := gb1121) (o := .cells #[.int .i64 a0_0, .slice (some ad1126) l0_1.length c0_1] 24 (0, 0)) (by (with_reducible repeat (first | refine kN ?_ _ | refine kD ?_ | refine kA ?_ _)); exact BK1121.out) hg (Kd.R_ne HO_7.out BK1121.out (by decide))); have n2_ := Z0.mk (hb); have n3_ := Z0.mk (ho); clear HO_8; clear BK1121; clear HB; clear HO_7; have HO_8 := n0_; have BK1121 := n1_; have HB := n2_; have HO1136 := n3_; clear n0_ n1_ n2_ n3_; clear ho hb hg hat)); try go_wp2_with (first | ((with_reducible refine gate_builtin (b := .append) (xs := #[.tmp 43, .tmp 48]) rfl ?_); at_builtin; refine Kd.R_append (Kd.int .i64) (w0 := w) w.heap.size rfl (.tmp 43) (.tmp 48) 25 3 (.int .i64 0) 8 rfl Try.underlying25 info3 rfl (by decide) (by omega) u7 x7_1 (rd t1122 x9_1) [.int .i64 (rd t1122 x9_1)] (fun k_ => some k_ ≠ (.slice (some ad1125) t1122.length co19 : Value).ownBlock) (fun _ => False) rfl rfl ?aP (fun _ hk => hk.elim) ?aF ?aO ?aB ?aS ?aL ?_; (case aP => exact rfl); (case aB => exact (by repeat (first | (with_reducible first | exact HB.out | apply below_alloc | apply bN | apply bD | refine bS ?_ GE1121.out) | exact HB.out))); (case aF => exact (fun k_ hk => Kd.fresh' (Kd.R_lt (by (with_reducible repeat (first | apply Kd.R_alloc | apply Kd.R_drewN | apply Kd.R_drew)); exact HO_8.out)) k_ hk)); (case aO => exact (by (with_reducible repeat (first | apply Kd.R_alloc | apply Kd.R_drewN | apply Kd.R_drew)); exact HO_7.out)); (case aS => exact (bZ (by repeat (first | (with_reducible first | exact HB.out | apply below_alloc | apply bN | apply bD | refine bS ?_ GE1121.out) | exact HB.out)))); (case aL => have := LMc18.out; omega); intro v1135 w21 ho hb hg hat; rw [← Ny1134.out] at ho; have n0_ := Z0.mk (Kd.R_after (ok := (fun _ => True)) (by (with_reducible repeat (first | apply Kd.R_alloc | apply Kd.R_drewN | apply Kd.R_drew)); exact Kd.R_mono HO_8.out (fun _ hk => ⟨trivial, hk⟩)) hg hat); have n1_ := Z0.mk (blk_grown (g := gb1121) (o := .cells #[.int .i64 a0_0, .slice (some ad1126) l0_1.length c0_1] 24 (0, 0)) (by (with_reducible repeat (first | refine kN ?_ _ | refine kD ?_ | refine kA ?_ _)); exact BK1121.out) hg (Kd.R_ne HO_7.out BK1121.out (by decide))); have n2_ := Z0.mk (hb); have n3_ := Z0.mk (ho); clear HO_8; clear BK1121; clear HB; clear HO_7; have HO_8 := n0_; have BK1121 := n1_; have HB := n2_; have HO1136 := n3_; clear n0_ n1_ n2_ n3_; clear ho hb hg hat)))
          go_roundg k1
          case measure => have := HK1.out; omega
          case rel => exact ⟨(y1134), (wrap64 (x9_1 + 1)), (by first | rfl | (simp; done) | (simp [*]; done)), H', ⟨by have := HK1.out; omega⟩, ⟨by (with_reducible repeat (first | apply Kd.R_alloc | apply Kd.R_drewN | apply Kd.R_drew)); exact HO1136.out⟩, ⟨by (with_reducible repeat (first | apply Kd.R_alloc | apply Kd.R_drewN | apply Kd.R_drew)); exact Kd.R_mono HO_8.out (fun _ hk => hk.2)⟩, ⟨by (with_reducible repeat (first | refine kN ?_ _ | refine kD ?_ | refine kA ?_ _)); exact BK1121.out⟩, ⟨by repeat (first | (with_reducible first | exact HB.out | apply below_alloc | apply bN | apply bD | refine bS ?_ GE1121.out) | exact HB.out)⟩⟩
         ·rw [if_neg c18] at H
          exact absurd H (by simp)
        ·rw [if_neg c17] at H
         have c17b0 : (((rd_T37 l0_1 (rd t1122 x9_1)).f1) == a2) = false := beq_eq_false_iff_ne.mpr c17
         have c17b1 : (((rd_T37 l0_1 (rd t1122 x9_1)).f1) != a2) = true := bne_iff_ne.mpr c17
         have H' := Z0.mk H
         clear H
         obtain ⟨Ao22, co22, eo22⟩ := Kd.R_slice HO_8.out
         subst eo22
         have hcz23_0 : wr.cell? ⟨gb1121, 0, none⟩ = some (.int .i64 a0_0) := (kC BK1121.out 0).trans rfl
         have hcz23_1 : wr.cell? ⟨gb1121, 1, none⟩ = some (.slice A0_1 l0_1.length c0_1) := (kC BK1121.out 1).trans rfl
         have hfz23_0 := kF BK1121.out 0
         have hfz23_1 := kF BK1121.out 1
         have p1125 : 0 ≤ (x9_1 : Int) := of_decide_eq_true (by first | (with_reducible assumption) | assumption)
         have q1125 : x9_1 < (t1122.length : Int) := of_decide_eq_true (by first | (with_reducible assumption) | assumption)
         obtain ⟨ad1125, e1125, hx1125_0⟩ := Kd.at_int (Kd.R_reads' HO_8.out).2.2 x9_1 p1125 q1125
         cases e1125
         replace p1125 := eq_true p1125
         replace q1125 := eq_true q1125
         have p1126 : 0 ≤ ((rd t1122 x9_1) : Int) := of_decide_eq_true (by first | (with_reducible assumption) | assumption)
         have q1126 : (rd t1122 x9_1) < (l0_1.length : Int) := of_decide_eq_true (by first | (with_reducible assumption) | assumption)
         obtain ⟨ad1126, e1126, hx1126_0, hx1126_1, hx1126_2, hx1126_3⟩ := at_T37 HR0_1.out (rd t1122 x9_1) p1126 q1126
         cases e1126
         replace hx1126_0 := (HB.out.cell (World.block_lt_of_cell? w _ hx1126_0)).trans hx1126_0
         replace hx1126_1 := (HB.out.cell (World.block_lt_of_cell? w _ hx1126_1)).trans hx1126_1
         replace hx1126_2 := (HB.out.cell (World.block_lt_of_cell? w _ hx1126_2)).trans hx1126_2
         replace hx1126_3 := (HB.out.cell (World.block_lt_of_cell? w _ hx1126_3)).trans hx1126_3
         replace p1126 := eq_true p1126
         replace q1126 := eq_true q1126
         have p1131 : 0 ≤ (x9_1 : Int) := of_decide_eq_true (by first | (with_reducible assumption) | assumption)
         have q1131 : x9_1 < (t1122.length : Int) := of_decide_eq_true (by first | (with_reducible assumption) | assumption)
         obtain ⟨ad1131, e1131, hx1131_0⟩ := Kd.at_int (Kd.R_reads' HO_8.out).2.2 x9_1 p1131 q1131
         obtain rfl : ad1125 = ad1131 := (by injection e1131)
         replace p1131 := eq_true p1131
         replace q1131 := eq_true q1131
         have p1132 : 0 ≤ ((rd t1122 x9_1) : Int) := of_decide_eq_true (by first | (with_reducible assumption) | assumption)
         have q1132 : (rd t1122 x9_1) < (l0_1.length : Int) := of_decide_eq_true (by first | (with_reducible assumption) | assumption)
         obtain ⟨ad1132, e1132, hx1132_0, hx1132_1, hx1132_2, hx1132_3⟩ := at_T37 HR0_1.out (rd t1122 x9_1) p1132 q1132
         obtain rfl : ad1126 = ad1132 := (by injection e1132)
         replace hx1132_0 := (HB.out.cell (World.block_lt_of_cell? w _ hx1132_0)).trans hx1132_0
         replace hx1132_1 := (HB.out.cell (World.block_lt_of_cell? w _ hx1132_1)).trans hx1132_1
         replace hx1132_2 := (HB.out.cell (World.block_lt_of_cell? w _ hx1132_2)).trans hx1132_2
         replace hx1132_3 := (HB.out.cell (World.block_lt_of_cell? w _ hx1132_3)).trans hx1132_3
         replace p1132 := eq_true p1132
         replace q1132 := eq_true q1132
         go_wp2
         repeat (go_quiet (fail); try go_wp2)
         go_roundg k1
         case measure => have := HK1.out; omega
         case rel => exact ⟨(x7_1), (wrap64 (x9_1 + 1)), (by first | rfl | (simp; done) | (simp [*]; done)), H', ⟨by have := HK1.out; omega⟩, ⟨by (with_reducible repeat (first | apply Kd.R_alloc | apply Kd.R_drewN | apply Kd.R_drew)); exact HO_7.out⟩, ⟨by (with_reducible repeat (first | apply Kd.R_alloc | apply Kd.R_drewN | apply Kd.R_drew)); exact HO_8.out⟩, ⟨by (with_reducible repeat (first | refine kN ?_ _ | refine kD ?_ | refine kA ?_ _)); exact BK1121.out⟩, ⟨by repeat (first | (with_reducible first | exact HB.out | apply below_alloc | apply bN | apply bD | refine bS ?_ GE1121.out) | exact HB.out)⟩⟩
      ·rw [if_neg c11] at H
       exact absurd H (by simp)
     ·rw [if_neg c10] at H
      exact absurd H (by simp)
    ·rw [if_neg c9] at H
     exact absurd H (by simp)
   ·rw [if_neg c8] at H
    have c8b0 : decide (x9_1 < (t1122.length : Int)) = false := decide_eq_false c8
    clear c8
    obtain rfl := Option.some.inj H
    obtain ⟨Ao24, co24, eo24⟩ := Kd.R_slice HO_8.out
    subst eo24
    go_wp2
    repeat (go_quiet (fail); try go_wp2)
    go_ret
    exact ⟨_, by first | rfl | (simp [errW_none, errW_some] <;> rfl) | (simp [*, errW_none, errW_some] <;> rfl), by (with_reducible repeat (first | apply Kd.R_alloc | apply Kd.R_drewN | apply Kd.R_drew)); exact Kd.R_mono HO_7.out (fun _ hk => trivial), by repeat (first | (with_reducible first | exact HB.out | apply below_alloc | apply bN | apply bD | refine bS ?_ GE1121.out) | exact HB.out)⟩
/-- A row of ints that may be written, in a block of S. -/
def RowOk (S : Nat → Prop) (w : World) (v : Value) : Prop := ∃ (A : Option Addr) (n c : Nat), v = .slice A n c ∧ n ≤ 9223372036854775807 ∧ ∀ j, j < n → ∃ (g : Nat) (z : Int), A = some ⟨g, 0, none⟩ ∧ S g ∧ w.cell? ⟨g, j, none⟩ = some (.int .i64 z) ∧ w.frozen? ⟨g, j, none⟩ = false
theorem RowOk.set {S : Nat → Prop} {w : World} {v : Value} (h : RowOk S w v) (g j : Nat) (x : Int) : RowOk S (w.setCell ⟨g, j, none⟩ (.int .i64 x)) v := by
  obtain ⟨A, n, c, rfl, hn, hc⟩ := h
  refine ⟨A, n, c, rfl, hn, fun i hi => ?_⟩
  obtain ⟨g', z, hA, hS, h1, h2⟩ := hc i hi
  by_cases he : (⟨g, j, none⟩ : Addr) = ⟨g', i, none⟩
  · refine ⟨g', x, hA, hS, ?_, by rw [World.frozen?_setCell]; exact h2⟩
    rw [he]; exact World.cell?_setCell_same _ _ _ h1
  · refine ⟨g', z, hA, hS, ?_, by rw [World.frozen?_setCell]; exact h2⟩
    rw [World.cell?_setCell_other _ _ _ _ he]; exact h1
theorem RowOk.mono {S S' : Nat → Prop} {w : World} {v : Value} (h : RowOk S w v) (hs : ∀ k, S k → S' k) : RowOk S' w v := by
  obtain ⟨A, n, c, rfl, hn, hc⟩ := h
  refine ⟨A, n, c, rfl, hn, fun i hi => ?_⟩
  obtain ⟨g', z, hA, hS, h1, h2⟩ := hc i hi
  exact ⟨g', z, hA, hs _ hS, h1, h2⟩
theorem RowOk.below {S : Nat → Prop} {w w' : World} {v : Value} (h : RowOk S w v) (hb : Below w.heap.size w w') : RowOk S w' v := by
  obtain ⟨A, n, c, rfl, hn, hc⟩ := h
  refine ⟨A, n, c, rfl, hn, fun i hi => ?_⟩
  obtain ⟨g', z, hA, hS, h1, h2⟩ := hc i hi
  have hlt := World.block_lt_of_cell? w _ h1
  exact ⟨g', z, hA, hS, by rw [hb.cell hlt]; exact h1, by rw [hb.frozen hlt]; exact h2⟩
theorem RowOk.of_R {w : World} {base : Nat} {ok : Nat → Prop} {v : Value} {xs : List Int} (h : Kd.R (Kd.int .i64) 3 w base ok v xs) : RowOk (fun k => some k = v.ownBlock) w v := by
  by_cases hp : 0 < xs.length
  · obtain ⟨g, cap, rfl, hb, hg, cells, hc⟩ := Kd.R_form h hp
    have hC := (Kd.R_reads' h).2.2
    refine ⟨some ⟨g, 0, none⟩, xs.length, cap, rfl, ?_, fun j hj => ?_⟩
    · have := Kd.C_max hC; omega
    · obtain ⟨h1, h2⟩ := Kd.R_celln 0 h (j : Int) (by omega) (by omega)
      rw [Int.toNat_natCast] at h1 h2
      exact ⟨g, _, rfl, rfl, h1, h2⟩
  · obtain ⟨A, c, rfl⟩ := Kd.R_slice h
    exact ⟨A, xs.length, c, rfl, by omega, fun j hj => absurd hj (by omega)⟩
/-- What a call that writes only in S leaves. -/
def SpoilKept (S : Nat → Prop) (w w' : World) : Prop := Kept w w' S ∧ Below 0 w w'
theorem SpoilKept.refl (S : Nat → Prop) (w : World) : SpoilKept S w w := ⟨Kept.refl _ _, Below.refl _ _⟩
theorem SpoilKept.set {S : Nat → Prop} {w w' : World} (h : SpoilKept S w w') {g : Nat} (hg : S g) (j : Nat) (u : Value) : SpoilKept S w (w'.setCell ⟨g, j, none⟩ u) := ⟨h.1.setCell (.inl hg) u, h.2.setCell (Nat.zero_le _) u⟩
theorem SpoilKept.below {S : Nat → Prop} {w0 w w' : World} {B : Nat} (h : SpoilKept S w w') (hb : Below B w0 w) (hB : B ≤ w.heap.size) (hs : ∀ k, S k → B ≤ k) : Below B w0 w' := by
  refine hb.trans ⟨h.2.os, h.2.tape, h.2.output, h.2.size, fun k hk => ?_⟩
  exact h.1.2 k (Nat.lt_of_lt_of_le hk hB) (fun hS => by have := hs k hS; omega)
/-- The rows of a literal, or of a result, that a call may overwrite. -/
structure RowsOk (S : Nat → Prop) (w : World) (A : Option Addr) (vs : List Value) : Prop where
  no : 0 < vs.length → ∃ G : Nat, A = some ⟨G, 0, none⟩ ∧ ¬ S G
  at_ : ∀ G i, (h : i < vs.length) → A = some ⟨G, 0, none⟩ → w.cell? ⟨G, i, none⟩ = some vs[i]
  ok : ∀ v ∈ vs, RowOk S w v
theorem RowsOk.set {S : Nat → Prop} {w : World} {A : Option Addr} {vs : List Value} (h : RowsOk S w A vs) {g : Nat} (hg : S g) (j : Nat) (x : Int) : RowsOk S (w.setCell ⟨g, j, none⟩ (.int .i64 x)) A vs := by
  refine ⟨h.no, fun G i hi hA => ?_, fun v hv => (h.ok v hv).set g j x⟩
  rw [World.cell?_setCell_other]
  · exact h.at_ G i hi hA
  · intro e
    have e2 : g = G := congrArg Addr.block e
    obtain ⟨G', hA', hn⟩ := h.no (by omega)
    rw [hA] at hA'
    have e3 : G = G' := by injection hA' with e; injection e
    exact hn (e3 ▸ e2 ▸ hg)
theorem RowsOk.below {S : Nat → Prop} {w w' : World} {A : Option Addr} {vs : List Value} (h : RowsOk S w A vs) (hb : Below w.heap.size w w') : RowsOk S w' A vs := by
  refine ⟨h.no, fun G i hi hA => ?_, fun v hv => (h.ok v hv).below hb⟩
  have h1 := h.at_ G i hi hA
  rw [hb.cell (World.block_lt_of_cell? w _ h1)]; exact h1
theorem RowOk.kept {S S1 : Nat → Prop} {w w' : World} {v : Value} (h : RowOk S w v) (hk : SpoilKept S1 w w') (hs : ∀ k, S k → ¬ S1 k) : RowOk S w' v := by
  obtain ⟨A, n, c, rfl, hn, hc⟩ := h
  refine ⟨A, n, c, rfl, hn, fun i hi => ?_⟩
  obtain ⟨g', z, hA, hS, h1, h2⟩ := hc i hi
  have hlt := World.block_lt_of_cell? w _ h1
  have hb := hk.1.2 g' hlt (hs _ hS)
  exact ⟨g', z, hA, hS, by rw [World.cell?_of_block (w := w) hb]; exact h1, by rw [World.frozen?_of_block (w := w) hb]; exact h2⟩
theorem RowsOk.kept {S S1 : Nat → Prop} {w w' : World} {A : Option Addr} {vs : List Value} (h : RowsOk S w A vs) (hk : SpoilKept S1 w w') (hs : ∀ k, S k → ¬ S1 k) (hA1 : ∀ G, A = some ⟨G, 0, none⟩ → ¬ S1 G) : RowsOk S w' A vs := by
  refine ⟨h.no, fun G i hi hA => ?_, fun v hv => (h.ok v hv).kept hk hs⟩
  have h1 := h.at_ G i hi hA
  have hb := hk.1.2 G (World.block_lt_of_cell? w _ h1) (hA1 G hA)
  rw [World.cell?_of_block (w := w) hb]; exact h1
section
variable {P : Program} {ops : Array Oper} {rest : List Oper} {o : Oper} {a : Act} {Q : Exit → Act → World → Prop}
theorem rows_event {W : World} (hgd : o.guard = none) {N : Tmp} (_hd : o.dst = some N) {n : Nat} {inner : List Value} {e : TypeId}
    (hrun : (execOp a.eval o).run P W = .ok (.value (.slice (some ⟨W.heap.size, 0, none⟩) n n)) (W.alloc (.cells inner.toArray e (0, 0))))
    (h : ∀ g, g = W.heap.size → ∀ w1, w1.heap[g]? = some (.cells inner.toArray e (0, 0)) → Below W.heap.size W w1 → wpList P ops Q rest (a.put o.dst (.slice (some ⟨g, 0, none⟩) n n)) w1) : wpList P ops Q (o :: rest) a W :=
  Kd.event_run hgd hrun (h _ rfl _ (blk_new W _) (below_alloc (Below.refl _ _) _))
end
theorem rows_lit {S : Nat → Prop} {w : World} {g : Nat} {vs : List Value} {e : TypeId} (hg : w.heap[g]? = some (.cells vs.toArray e (0, 0))) (hn : ¬ S g) (hok : ∀ v ∈ vs, RowOk S w v) : RowsOk S w (some ⟨g, 0, none⟩) vs := by
  refine ⟨fun _ => ⟨g, rfl, hn⟩, fun G i hi hA => ?_, hok⟩
  have e3 : g = G := by injection hA with e; injection e
  subst e3
  rw [kC hg i]; simp [hi]
def ql14spoil.f (a0_0 : Int) (l0_1 : List (S37)) (l1 : List (List Int)) : Option (Unit) := some ()
set_option maxRecDepth 100000 in
set_option maxHeartbeats 4000000 in
theorem ql14spoil.real0 (a0 : Int) (S : Nat → Prop) (A0 : Option Addr) (vs : List Value) (c : Nat) (w : World) (hl : vs.length ≤ 9223372036854775807) (h : RowsOk S w A0 vs) :
  Calls Try.prog 74 #[.agg #[.int .i64 a0, .slice none 0 0], .slice A0 vs.length c] w fun e w' => e = .returned (.tuple #[]) ∧ SpoilKept S w w' := by
 have hu24 := Try.underlying24
 have H := Lib.hid h
 have HL := Lib.hid hl
 clear h hl
 go_enter Try.func74, Try.ntmps74
 go_wp2_with (first | ((with_reducible refine gate_dst (N := 2) rfl ?_); (try (refine gG (by rfl) ?_; dsimp only)); refine bE ?hg (N := 2) ?hd (cs := #[.int .i64 a0, .slice none 0 0]) (t := 24) ?hr ?_; (case hd => rfl); (case hg => rfl); (case hr => first | (go_simp; done) | (go_simp; rfl)); intro gb hg w2 hbox hb; have HBX := Lib.hid hbox; have HBB := Lib.hid hb; clear hbox hb hg))
 have cb0 : w2.cell? ⟨gb, 0, none⟩ = some (.int .i64 a0) := (kC HBX.out 0).trans rfl
 have cb1 : w2.cell? ⟨gb, 1, none⟩ = some (.slice none 0 0) := (kC HBX.out 1).trans rfl
 go_loopg [4] 1 (fun kq v4 wr => v4 = .int .i64 0 ∧ wr = w2)
 case atStart => exact ⟨rfl, rfl⟩
 case round =>
 obtain ⟨rfl, rfl⟩ := hrel
 go_wp2_with fail
 go_loopg [5] vs.length (fun kq v5 wr => ∃ i : Nat, i ≤ vs.length ∧ v5 = .int .i64 (i : Int) ∧ Hid (kq = vs.length - i) ∧ Hid (RowsOk S wr A0 vs ∧ SpoilKept S w wr))
 case atStart => exact ⟨0, Nat.zero_le _, rfl, rfl, H.out.below HBB.out, ⟨Kept.of_below HBB.out _, HBB.out.mono (Nat.zero_le _)⟩⟩
 case round =>
  obtain ⟨i, hi, rfl, HK, HR⟩ := hrel
  have hL := HL.out
  by_cases hlt : i < vs.length
  ·have q2 : decide ((i : Int) < (vs.length : Int)) = true := decide_eq_true (by omega)
   have q3 : decide (0 ≤ (i : Int)) = true := decide_eq_true (by omega)
   have i1 : (0 ≤ (i : Int)) = True := eq_true (by omega)
   have i2 : ((i : Int) < (vs.length : Int)) = True := eq_true (by omega)
   obtain ⟨G, hA0, _⟩ := HR.out.1.no (by omega)
   subst hA0
   have hcell0 := HR.out.1.at_ G i hlt rfl
   obtain ⟨A, n, c', hv, hn, hc⟩ := HR.out.1.ok _ (List.getElem_mem hlt)
   have HC := Lib.hid hc
   rw [hv] at hcell0
   have HV := Lib.hid hv
   clear hc hv
   go_wp2_with fail
   go_loopg [6] n (fun kq v6 w2 => ∃ j : Nat, j ≤ n ∧ v6 = .int .i64 (j : Int) ∧ Hid (kq = n - j) ∧ Hid (RowsOk S w2 (some ⟨G, 0, none⟩) vs ∧ SpoilKept S w w2))
   case atStart => exact ⟨0, Nat.zero_le _, rfl, rfl, HR.out⟩
   case round =>
    obtain ⟨j, hj, rfl, HK2, HR2⟩ := hrel
    have hcell := HR2.out.1.at_ G i hlt rfl
    rw [HV.out] at hcell
    by_cases hjt : j < n
    ·have q4 : decide ((j : Int) < (n : Int)) = true := decide_eq_true (by omega)
     have i3 : (0 ≤ (j : Int)) = True := eq_true (by omega)
     have i4 : ((j : Int) < (n : Int)) = True := eq_true (by omega)
     have hrow := HR2.out.1.ok _ (List.getElem_mem hlt)
     rw [HV.out] at hrow
     obtain ⟨A2, n2, c2, hv2, _, hc2⟩ := hrow
     injection hv2 with e1 e2 e3
     subst e1 e2 e3
     obtain ⟨g, z, hA, hS, hx, hf⟩ := hc2 j hjt
     have HS := Lib.hid hS
     subst hA
     clear hc2 hS
     go_wp2_with fail
     go_roundg (n - (j + 1))
     case measure => have := HK2.out; omega
     case rel => exact ⟨j + 1, by omega, rfl, rfl, HR2.out.1.set HS.out j _, HR2.out.2.set HS.out j _⟩
    ·have q4 : decide ((j : Int) < (n : Int)) = false := decide_eq_false (by omega)
     go_wp2_with fail
     go_roundg (vs.length - (i + 1))
     case measure => have := HK.out; omega
     case rel => exact ⟨i + 1, by omega, rfl, rfl, HR2.out⟩
  ·have q2 : decide ((i : Int) < (vs.length : Int)) = false := decide_eq_false (by omega)
   go_wp2_with fail
   exact ⟨rfl, .tuple #[], by simp [results, Try.f74, go_sem], rfl, HR.out.2⟩
mutual
def ql14NetMatches.j0 : Nat → List Int → Int → List Int → Int → Bool → Int → List (S37) → Int → List (S37) → Option (Bool)
 | 0, _, _, _, _, _, _, _, _, _ => none
 | k + 1, x1, x2, x8, x9, x39, x1138000, x1138001, x1151000, x1151001 => if x39 = true then (some false) else (if x9 = 0 then (if x2 < 0 then (ql14NetMatches.j1 k x1 x2 x8 x9 x9 true x1138000 x1138001 x1151000 x1151001) else (ql14NetMatches.j1 k x1 x2 x8 x9 x9 (decide (x2 ≥ x1138000)) x1138000 x1138001 x1151000 x1151001)) else (ql14NetMatches.j1 k x1 x2 x8 x9 x9 false x1138000 x1138001 x1151000 x1151001))
def ql14NetMatches.j1 : Nat → List Int → Int → List Int → Int → Int → Bool → Int → List (S37) → Int → List (S37) → Option (Bool)
 | 0, _, _, _, _, _, _, _, _, _, _ => none
 | k + 1, x1, x2, x8, x9, x10, x52, x1138000, x1138001, x1151000, x1151001 => if x52 = true then (ql14NetMatches.j2 k x1 x2 x8 x9 1 x1138000 x1138001 x1151000 x1151001) else (ql14NetMatches.j2 k x1 x2 x8 x9 x10 x1138000 x1138001 x1151000 x1151001)
def ql14NetMatches.j2 : Nat → List Int → Int → List Int → Int → Int → Int → List (S37) → Int → List (S37) → Option (Bool)
 | 0, _, _, _, _, _, _, _, _, _ => none
 | k + 1, x1, x2, x8, x9, x10, x1138000, x1138001, x1151000, x1151001 => ql14NetMatches.l0 k x1 x2 x8 x9 x10 0 x1138000 x1138001 x1151000 x1151001
def ql14NetMatches.l0 : Nat → List Int → Int → List Int → Int → Int → Int → Int → List (S37) → Int → List (S37) → Option (Bool)
 | 0, _, _, _, _, _, _, _, _, _, _ => none
 | k + 1, x1, x2, x8, x9, x10, x11, x1138000, x1138001, x1151000, x1151001 => if x11 < 2 then ((net_In.f x1151000 x1151001 x8).bind fun bt1156 => ((net_At.f x1151000 x1151001 x8 x2).bind fun bt1160 => (if bt1156.2 = x9 then (if bt1160.2 = x10 then (if x9 = 0 then (if x10 = 0 then (ql14NetMatches.j4 k x1 x2 x8 x9 x10 x11 bt1156.1 bt1160.1 false x1138000 x1138001 x1151000 x1151001) else (ql14NetMatches.j4 k x1 x2 x8 x9 x10 x11 bt1156.1 bt1160.1 ((bt1160.1.length : Int) != 0) x1138000 x1138001 x1151000 x1151001)) else (if (bt1156.1.length : Int) = 0 then (if x10 = 0 then (ql14NetMatches.j4 k x1 x2 x8 x9 x10 x11 bt1156.1 bt1160.1 false x1138000 x1138001 x1151000 x1151001) else (ql14NetMatches.j4 k x1 x2 x8 x9 x10 x11 bt1156.1 bt1160.1 ((bt1160.1.length : Int) != 0) x1138000 x1138001 x1151000 x1151001)) else (ql14NetMatches.j4 k x1 x2 x8 x9 x10 x11 bt1156.1 bt1160.1 true x1138000 x1138001 x1151000 x1151001))) else (ql14NetMatches.j4 k x1 x2 x8 x9 x10 x11 bt1156.1 bt1160.1 true x1138000 x1138001 x1151000 x1151001)) else (ql14NetMatches.j4 k x1 x2 x8 x9 x10 x11 bt1156.1 bt1160.1 true x1138000 x1138001 x1151000 x1151001)))) else ((ql14awake.f).bind fun t1155 => (some t1155))
def ql14NetMatches.j4 : Nat → List Int → Int → List Int → Int → Int → Int → List Int → List Int → Bool → Int → List (S37) → Int → List (S37) → Option (Bool)
 | 0, _, _, _, _, _, _, _, _, _, _, _, _, _ => none
 | k + 1, x1, x2, x8, x9, x10, x11, x12, x14, x95, x1138000, x1138001, x1151000, x1151001 => if x95 = true then (some false) else (if x9 = 0 then ((qr14In.f k x1138000 x1138001 x1).bind fun t1164 => ((qr14Ints.f k x12 t1164).bind fun t1167 => (if t1167 = true then (if x10 = 0 then ((qr14At.f k x1138000 x1138001 x1 x2).bind fun t1168 => ((qr14Ints.f k x14 t1168).bind fun t1171 => (if t1171 = true then ((qr14Same.f k x1151000 x1151001 x1138000 x1138001).bind fun t1172 => (if t1172 = true then ((qr14Ints.f k x8 x1).bind fun t1173 => (if t1173 = true then ((ql14spoil.f 0 ([] : List (S37)) (([x12, x14] : List (List Int)))).bind fun _ => (ql14NetMatches.l0 k x1 x2 x8 x9 x10 (wrap64 (x11 + 1)) x1138000 x1138001 x1151000 x1151001)) else (some false))) else (some false))) else (some false)))) else ((qr14Same.f k x1151000 x1151001 x1138000 x1138001).bind fun t1177 => (if t1177 = true then ((qr14Ints.f k x8 x1).bind fun t1178 => (if t1178 = true then ((ql14spoil.f 0 ([] : List (S37)) (([x12, x14] : List (List Int)))).bind fun _ => (ql14NetMatches.l0 k x1 x2 x8 x9 x10 (wrap64 (x11 + 1)) x1138000 x1138001 x1151000 x1151001)) else (some false))) else (some false)))) else (some false)))) else (if x10 = 0 then ((qr14At.f k x1138000 x1138001 x1 x2).bind fun t1182 => ((qr14Ints.f k x14 t1182).bind fun t1185 => (if t1185 = true then ((qr14Same.f k x1151000 x1151001 x1138000 x1138001).bind fun t1186 => (if t1186 = true then ((qr14Ints.f k x8 x1).bind fun t1187 => (if t1187 = true then ((ql14spoil.f 0 ([] : List (S37)) (([x12, x14] : List (List Int)))).bind fun _ => (ql14NetMatches.l0 k x1 x2 x8 x9 x10 (wrap64 (x11 + 1)) x1138000 x1138001 x1151000 x1151001)) else (some false))) else (some false))) else (some false)))) else ((qr14Same.f k x1151000 x1151001 x1138000 x1138001).bind fun t1191 => (if t1191 = true then ((qr14Ints.f k x8 x1).bind fun t1192 => (if t1192 = true then ((ql14spoil.f 0 ([] : List (S37)) (([x12, x14] : List (List Int)))).bind fun _ => (ql14NetMatches.l0 k x1 x2 x8 x9 x10 (wrap64 (x11 + 1)) x1138000 x1138001 x1151000 x1151001)) else (some false))) else (some false)))))
end
def ql14NetMatches.f (k : Nat) (a0_0 : Int) (l0_1 : List (S37)) (l1 : List Int) (a2 : Int) : Option (Bool) := (ql14Long.f k a0_0 l0_1 (([l1] : List (List Int)))).bind fun t1141 => (if t1141 = true then ((ql14awake.f).bind fun t1142 => (some t1142)) else ((ql14own.f a0_0 l0_1).bind fun bt1143 => ((ql14ints.f l1).bind fun t1147 => ((qr14Outs.f k a0_0 l0_1 l1).bind fun t1151 => ((net_Check.f bt1143.1 bt1143.2).bind fun t1152 => ((qr14Check.f k a0_0 l0_1).bind fun t1153 => (if t1152 = t1153 then ((net_Outs.f k bt1143.1 bt1143.2 t1147).bind fun t1154 => (ql14NetMatches.j0 k l1 a2 t1147 t1151 (t1154 != t1151) a0_0 l0_1 bt1143.1 bt1143.2)) else (ql14NetMatches.j0 k l1 a2 t1147 t1151 true a0_0 l0_1 bt1143.1 bt1143.2))))))))
def ql14NetMatches.T5 : Bool × List (List Nat × List Nat) := (true, [([], []), ([0], [0]), ([], []), ([2, 1], [2]), ([1, 3], [1, 3]), ([4, 3], [4]), ([5], [5]), ([5], [5]), ([6, 7, 5, 5], [5, 6, 7]), ([5], [5]), ([8, 9, 5], [5, 8, 9]), ([5, 10], [5, 10])])
def ql14NetMatches.B5 : List Nat := [0, 1, 0, 7, 15, 31, 63, 63, 255, 63, 1023, 2047]
theorem ql14NetMatches.tab5 : rtab .any (opsOf Try.f19 5) = ql14NetMatches.T5 := by kernel_rfl
theorem ql14NetMatches.bits5 : waitsOk ql14NetMatches.T5.2 ql14NetMatches.B5 = true := by kernel_rfl
end Go.Proofs.Ytdpgdelimffjpaa.P
