-- Written by wip/drive.py (a prover's driver over the kit's print.py); hand-proved contracts stand among the printed ones. Lean checks it.
import Derived.Test.YtdpgdelimffjpaaFBase
import Derived.Test.YtdpgdelimffjpaaF31
import Derived.Test.YtdpgdelimffjpaaF35
import Derived.Test.YtdpgdelimffjpaaF49
import Derived.Test.YtdpgdelimffjpaaF59
import Derived.Test.YtdpgdelimffjpaaF71
import Derived.Test.YtdpgdelimffjpaaF77
import Derived.Test.YtdpgdelimffjpaaFA
import Derived.Test.YtdpgdelimffjpaaHLit
import Derived.Outline
import Derived.Lib.Hide
namespace Go.Proofs.Ytdpgdelimffjpaa.P
open Go.RowKit Go.Proofs.YtdpgdelimffjpaaW.PrintWords Go.Proofs.YtdpgdelimffjpaaW.PrintLast Go.Proofs.YtdpgdelimffjpaaW.PrintMore
attribute [local go_sem] max2_int min2_int max_two min_two max_three min_three max_four min_four   -- for this text's walks alone
set_option linter.unusedVariables false
set_option linter.unusedSimpArgs false

/-! ### pylonlaw14_awake: function 66: by hand -/
-- import Derived.Test.YtdpgdelimffjpaaHLit
-- import Derived.Outline
-- import Derived.Lib.Hide
def three14 : List S37 := [(⟨0, 1, 10, 100⟩ : S37), (⟨1, 2, 5, 50⟩ : S37), (⟨0, 2, 10, 70⟩ : S37)]
theorem a14_three : pylonlaw14_three.f = some (3, three14) := rfl
theorem a14_in : net_In.f 3 three14 [1] = some ([0, 2], 0) := by kernel_rfl
theorem a14_at : net_At.f 3 three14 [1] 2 = some ([2], 0) := by kernel_rfl
theorem a14_un : net_Union.f [0, 2] [1, 2] = some ([0, 1, 2], 0) := by
  rw [net_Union.f, if_pos (by decide), if_pos (by decide), if_pos (by decide), show uni [0, 2] [1, 2] = [0, 1, 2] from inc_ext (uni_inc _ _) (by decide) (fun x => by rw [mem_uni]; simp; omega)]
theorem a14_check : net_Check.f 3 three14 = some 0 := by kernel_rfl
theorem a14_check0 : net_Check.f 0 [] = some 1 := by kernel_rfl
theorem a14_outs1 : net_Outs.f 20 3 three14 [1, 1] = some 1 := by kernel_rfl
theorem a14_outs2 : net_Outs.f 20 3 three14 [3] = some 1 := by kernel_rfl
theorem a14_ints1 : pylonref14_Ints.f 20 [0, 2] [0, 2] = some true := by kernel_rfl
theorem a14_ints2 : pylonref14_Ints.f 20 [2] [2] = some true := by kernel_rfl
theorem a14_ints3 : pylonref14_Ints.f 20 [0, 1, 2] [0, 1, 2] = some true := by kernel_rfl
def pylonlaw14_awake.f : Option (Bool) := some true
set_option maxRecDepth 100000 in
set_option maxHeartbeats 4000000 in
theorem pylonlaw14_awake.calls  (r : Bool) (w : World) (h : pylonlaw14_awake.f  = some r) :
    Calls Try.prog 66 #[] w fun e w' => e = .returned (.bool r) ∧ Below w.heap.size w w' := by
  have hr : true = r := Option.some.inj h
  subst hr
  clear h
  go_enter Try.func66, Try.ntmps66
  go_wp2_with fail
  go_at_call 77
  refine (pylonlaw14_three.calls  3 three14 _  a14_three).mono ?_
  rintro e w1 ⟨v1, rfl, h1, b1⟩
  obtain ⟨A1, c1, rfl⟩ := Kd.R_slice h1
  obtain ⟨_, hc1, hC1⟩ := Kd.R_reads' h1
  have X1_0 := Lib.hid hC1
  clear h1 hC1
  have d1 := b1
  have B1 := Lib.hid (d1)
  clear d1
  go_wp2_with fail
  go_at_call 59
  refine (net_In.calls 3 A1 c1 three14 (some ⟨w1.heap.size + 1, 0, none⟩) 1 [1] [0, 2] 0 _ (Kd.C_alloc (Kd.C_alloc X1_0.out _) _) hc1 (C_litS (w1.alloc (.cells #[.int .i64 3, .slice A1 three14.length c1] 24)) (w1.heap.size + 1) (by simp) [1] 3 (by decide)) (Nat.le_refl _) a14_in).mono ?_
  rintro e w2 ⟨v2, rfl, h2, b2⟩
  obtain ⟨A2, c2, rfl⟩ := Kd.R_slice h2
  obtain ⟨_, hc2, hC2⟩ := Kd.R_reads' h2
  have X2_0 := Lib.hid hC2
  clear h2 hC2
  have d2 : Below w1.heap.size w1 w2 := (below_alloc (below_alloc (Below.refl w1.heap.size w1) _) _).trans (b2.mono (by simp <;> omega))
  have K2 : RowKit.Hid (w2.heap[w1.heap.size]? = some (.cells #[.int .i64 3, .slice A1 three14.length c1] 24 (0, 0))) := Lib.hid ((b2.block _ (by simp <;> omega)).trans (blk_alloc (blk_newS w1 (w1.heap.size) (by simp) _) _))
  have K2c0 : w2.cell? ⟨w1.heap.size, 0, none⟩ = some (.int .i64 3) := (blk_cell K2.out 0).trans rfl
  have K2c1 : w2.cell? ⟨w1.heap.size, 1, none⟩ = some (.slice A1 three14.length c1) := (blk_cell K2.out 1).trans rfl
  have K2l : w1.heap.size < w2.heap.size := blk_lt K2.out
  have X_3 := Lib.hid (Kd.C_below X1_0.out d2)
  clear X1_0
  have B4 := Lib.hid (B1.out.trans (d2.mono B1.out.size))
  clear d2 B1
  go_wp2_with fail
  go_at_call 71
  refine (net_At.calls 3 A1 c1 three14 (some ⟨w2.heap.size, 0, none⟩) 1 [1] 2 [2] 0 _ (Kd.C_alloc X_3.out _) hc1 (C_litS w2 (w2.heap.size) (by simp) [1] 3 (by decide)) (Nat.le_refl _) a14_at).mono ?_
  rintro e w3 ⟨v3, rfl, h3, b3⟩
  obtain ⟨A3, c3, rfl⟩ := Kd.R_slice h3
  obtain ⟨_, hc3, hC3⟩ := Kd.R_reads' h3
  have X3_0 := Lib.hid hC3
  clear h3 hC3
  have d3 : Below w2.heap.size w2 w3 := (below_alloc (Below.refl w2.heap.size w2) _).trans (b3.mono (by simp <;> omega))
  have K5 : RowKit.Hid (w3.heap[w1.heap.size]? = some (.cells #[.int .i64 3, .slice A1 three14.length c1] 24 (0, 0))) := Lib.hid ((d3.block _ (by omega)).trans K2.out)
  have K5c0 : w3.cell? ⟨w1.heap.size, 0, none⟩ = some (.int .i64 3) := (blk_cell K5.out 0).trans rfl
  have K5c1 : w3.cell? ⟨w1.heap.size, 1, none⟩ = some (.slice A1 three14.length c1) := (blk_cell K5.out 1).trans rfl
  have K5l : w1.heap.size < w3.heap.size := blk_lt K5.out
  clear K2 K2l K2c0 K2c1
  have X_6 := Lib.hid (Kd.C_below X_3.out d3)
  clear X_3
  have X_7 := Lib.hid (Kd.C_below X2_0.out d3)
  clear X2_0
  have B8 := Lib.hid (B4.out.trans (d3.mono B4.out.size))
  clear d3 B4
  go_wp2_with fail
  go_at_call 49
  refine (net_Union.calls (some ⟨w3.heap.size, 0, none⟩) 2 [0, 2] (some ⟨w3.heap.size + 1, 0, none⟩) 2 [1, 2] [0, 1, 2] 0 _ (Kd.C_alloc (C_litS w3 (w3.heap.size) (by simp) [0, 2] 3 (by decide)) _) (Nat.le_refl _) (C_litS (w3.alloc (.cells (([0, 2] : List Int).map (Value.int .i64)).toArray 3)) (w3.heap.size + 1) (by simp) [1, 2] 3 (by decide)) (Nat.le_refl _) a14_un).mono ?_
  rintro e w4 ⟨v4, rfl, h4, b4⟩
  obtain ⟨A4, c4, rfl⟩ := Kd.R_slice h4
  obtain ⟨_, hc4, hC4⟩ := Kd.R_reads' h4
  have X4_0 := Lib.hid hC4
  clear h4 hC4
  have d4 : Below w3.heap.size w3 w4 := (below_alloc (below_alloc (Below.refl w3.heap.size w3) _) _).trans (b4.mono (by simp <;> omega))
  have K9 : RowKit.Hid (w4.heap[w1.heap.size]? = some (.cells #[.int .i64 3, .slice A1 three14.length c1] 24 (0, 0))) := Lib.hid ((d4.block _ (by omega)).trans K5.out)
  have K9c0 : w4.cell? ⟨w1.heap.size, 0, none⟩ = some (.int .i64 3) := (blk_cell K9.out 0).trans rfl
  have K9c1 : w4.cell? ⟨w1.heap.size, 1, none⟩ = some (.slice A1 three14.length c1) := (blk_cell K9.out 1).trans rfl
  have K9l : w1.heap.size < w4.heap.size := blk_lt K9.out
  clear K5 K5l K5c0 K5c1
  have X_10 := Lib.hid (Kd.C_below X_6.out d4)
  clear X_6
  have X_11 := Lib.hid (Kd.C_below X_7.out d4)
  clear X_7
  have X_12 := Lib.hid (Kd.C_below X3_0.out d4)
  clear X3_0
  have B13 := Lib.hid (B8.out.trans (d4.mono B8.out.size))
  clear d4 B8
  go_wp2_with fail
  go_at_call 35
  refine (net_Check.calls 3 A1 c1 three14 0 _ X_10.out hc1 a14_check).mono ?_
  rintro e w5 ⟨rfl, b5⟩
  have d5 := b5
  have K14 : RowKit.Hid (w5.heap[w1.heap.size]? = some (.cells #[.int .i64 3, .slice A1 three14.length c1] 24 (0, 0))) := Lib.hid ((d5.block _ (by omega)).trans K9.out)
  have K14c0 : w5.cell? ⟨w1.heap.size, 0, none⟩ = some (.int .i64 3) := (blk_cell K14.out 0).trans rfl
  have K14c1 : w5.cell? ⟨w1.heap.size, 1, none⟩ = some (.slice A1 three14.length c1) := (blk_cell K14.out 1).trans rfl
  have K14l : w1.heap.size < w5.heap.size := blk_lt K14.out
  clear K9 K9l K9c0 K9c1
  have X_15 := Lib.hid (Kd.C_below X_10.out d5)
  clear X_10
  have X_16 := Lib.hid (Kd.C_below X_11.out d5)
  clear X_11
  have X_17 := Lib.hid (Kd.C_below X_12.out d5)
  clear X_12
  have X_18 := Lib.hid (Kd.C_below X4_0.out d5)
  clear X4_0
  have B19 := Lib.hid (B13.out.trans (d5.mono B13.out.size))
  clear d5 B13
  go_wp2_with fail
  go_at_call 36
  refine (pylonref14_Ints.calls 20 A2 c2 [0, 2] (some ⟨w5.heap.size, 0, none⟩) 2 [0, 2] true _ (Kd.C_alloc X_16.out _) hc2 (C_litS w5 (w5.heap.size) (by simp) [0, 2] 3 (by decide)) (Nat.le_refl _) a14_ints1).mono ?_
  rintro e w' ⟨rfl, ⟨m, rfl⟩⟩
  have b6 : Below w5.heap.size w5 ((w5.alloc (.cells (([0, 2] : List Int).map (Value.int .i64)).toArray 3)).drewN m) := pw_below_drewN (below_alloc (Below.refl _ _) _) m
  generalize (w5.alloc (.cells (([0, 2] : List Int).map (Value.int .i64)).toArray 3)).drewN m = w6 at b6 ⊢
  have d6 := b6
  have K20 : RowKit.Hid (w6.heap[w1.heap.size]? = some (.cells #[.int .i64 3, .slice A1 three14.length c1] 24 (0, 0))) := Lib.hid ((d6.block _ (by omega)).trans K14.out)
  have K20c0 : w6.cell? ⟨w1.heap.size, 0, none⟩ = some (.int .i64 3) := (blk_cell K20.out 0).trans rfl
  have K20c1 : w6.cell? ⟨w1.heap.size, 1, none⟩ = some (.slice A1 three14.length c1) := (blk_cell K20.out 1).trans rfl
  have K20l : w1.heap.size < w6.heap.size := blk_lt K20.out
  clear K14 K14l K14c0 K14c1
  have X_21 := Lib.hid (Kd.C_below X_15.out d6)
  clear X_15
  have X_22 := Lib.hid (Kd.C_below X_16.out d6)
  clear X_16
  have X_23 := Lib.hid (Kd.C_below X_17.out d6)
  clear X_17
  have X_24 := Lib.hid (Kd.C_below X_18.out d6)
  clear X_18
  have B25 := Lib.hid (B19.out.trans (d6.mono B19.out.size))
  clear d6 B19
  clear X_22
  go_wp2_with fail
  go_at_call 36
  refine (pylonref14_Ints.calls 20 A3 c3 [2] (some ⟨w6.heap.size, 0, none⟩) 1 [2] true _ (Kd.C_alloc X_23.out _) hc3 (C_litS w6 (w6.heap.size) (by simp) [2] 3 (by decide)) (Nat.le_refl _) a14_ints2).mono ?_
  rintro e w' ⟨rfl, ⟨m, rfl⟩⟩
  have b7 : Below w6.heap.size w6 ((w6.alloc (.cells (([2] : List Int).map (Value.int .i64)).toArray 3)).drewN m) := pw_below_drewN (below_alloc (Below.refl _ _) _) m
  generalize (w6.alloc (.cells (([2] : List Int).map (Value.int .i64)).toArray 3)).drewN m = w7 at b7 ⊢
  have d7 := b7
  have K26 : RowKit.Hid (w7.heap[w1.heap.size]? = some (.cells #[.int .i64 3, .slice A1 three14.length c1] 24 (0, 0))) := Lib.hid ((d7.block _ (by omega)).trans K20.out)
  have K26c0 : w7.cell? ⟨w1.heap.size, 0, none⟩ = some (.int .i64 3) := (blk_cell K26.out 0).trans rfl
  have K26c1 : w7.cell? ⟨w1.heap.size, 1, none⟩ = some (.slice A1 three14.length c1) := (blk_cell K26.out 1).trans rfl
  have K26l : w1.heap.size < w7.heap.size := blk_lt K26.out
  clear K20 K20l K20c0 K20c1
  have X_27 := Lib.hid (Kd.C_below X_21.out d7)
  clear X_21
  have X_28 := Lib.hid (Kd.C_below X_23.out d7)
  clear X_23
  have X_29 := Lib.hid (Kd.C_below X_24.out d7)
  clear X_24
  have B30 := Lib.hid (B25.out.trans (d7.mono B25.out.size))
  clear d7 B25
  clear X_28
  go_wp2_with fail
  go_at_call 36
  refine (pylonref14_Ints.calls 20 A4 c4 [0, 1, 2] (some ⟨w7.heap.size, 0, none⟩) 3 [0, 1, 2] true _ (Kd.C_alloc X_29.out _) hc4 (C_litS w7 (w7.heap.size) (by simp) [0, 1, 2] 3 (by decide)) (Nat.le_refl _) a14_ints3).mono ?_
  rintro e w' ⟨rfl, ⟨m, rfl⟩⟩
  have b8 : Below w7.heap.size w7 ((w7.alloc (.cells (([0, 1, 2] : List Int).map (Value.int .i64)).toArray 3)).drewN m) := pw_below_drewN (below_alloc (Below.refl _ _) _) m
  generalize (w7.alloc (.cells (([0, 1, 2] : List Int).map (Value.int .i64)).toArray 3)).drewN m = w8 at b8 ⊢
  have d8 := b8
  have K31 : RowKit.Hid (w8.heap[w1.heap.size]? = some (.cells #[.int .i64 3, .slice A1 three14.length c1] 24 (0, 0))) := Lib.hid ((d8.block _ (by omega)).trans K26.out)
  have K31c0 : w8.cell? ⟨w1.heap.size, 0, none⟩ = some (.int .i64 3) := (blk_cell K31.out 0).trans rfl
  have K31c1 : w8.cell? ⟨w1.heap.size, 1, none⟩ = some (.slice A1 three14.length c1) := (blk_cell K31.out 1).trans rfl
  have K31l : w1.heap.size < w8.heap.size := blk_lt K31.out
  clear K26 K26l K26c0 K26c1
  have X_32 := Lib.hid (Kd.C_below X_27.out d8)
  clear X_27
  have X_33 := Lib.hid (Kd.C_below X_29.out d8)
  clear X_29
  have B34 := Lib.hid (B30.out.trans (d8.mono B30.out.size))
  clear d8 B30
  clear X_33
  go_wp2_with fail
  go_at_call 31
  refine (net_Outs.calls 20 3 A1 c1 three14 (some ⟨w8.heap.size, 0, none⟩) 2 [1, 1] 1 _ (Kd.C_alloc X_32.out _) hc1 (C_litS w8 (w8.heap.size) (by simp) [1, 1] 3 (by decide)) (Nat.le_refl _) a14_outs1).mono ?_
  rintro e w9 ⟨rfl, b9⟩
  have d9 : Below w8.heap.size w8 w9 := (below_alloc (Below.refl w8.heap.size w8) _).trans (b9.mono (by simp <;> omega))
  have K35 : RowKit.Hid (w9.heap[w1.heap.size]? = some (.cells #[.int .i64 3, .slice A1 three14.length c1] 24 (0, 0))) := Lib.hid ((d9.block _ (by omega)).trans K31.out)
  have K35c0 : w9.cell? ⟨w1.heap.size, 0, none⟩ = some (.int .i64 3) := (blk_cell K35.out 0).trans rfl
  have K35c1 : w9.cell? ⟨w1.heap.size, 1, none⟩ = some (.slice A1 three14.length c1) := (blk_cell K35.out 1).trans rfl
  have K35l : w1.heap.size < w9.heap.size := blk_lt K35.out
  clear K31 K31l K31c0 K31c1
  have X_36 := Lib.hid (Kd.C_below X_32.out d9)
  clear X_32
  have B37 := Lib.hid (B34.out.trans (d9.mono B34.out.size))
  clear d9 B34
  go_wp2_with fail
  go_at_call 31
  refine (net_Outs.calls 20 3 A1 c1 three14 (some ⟨w9.heap.size, 0, none⟩) 1 [3] 1 _ (Kd.C_alloc X_36.out _) hc1 (C_litS w9 (w9.heap.size) (by simp) [3] 3 (by decide)) (Nat.le_refl _) a14_outs2).mono ?_
  rintro e w10 ⟨rfl, b10⟩
  have d10 : Below w9.heap.size w9 w10 := (below_alloc (Below.refl w9.heap.size w9) _).trans (b10.mono (by simp <;> omega))
  have K38 : RowKit.Hid (w10.heap[w1.heap.size]? = some (.cells #[.int .i64 3, .slice A1 three14.length c1] 24 (0, 0))) := Lib.hid ((d10.block _ (by omega)).trans K35.out)
  have K38c0 : w10.cell? ⟨w1.heap.size, 0, none⟩ = some (.int .i64 3) := (blk_cell K38.out 0).trans rfl
  have K38c1 : w10.cell? ⟨w1.heap.size, 1, none⟩ = some (.slice A1 three14.length c1) := (blk_cell K38.out 1).trans rfl
  have K38l : w1.heap.size < w10.heap.size := blk_lt K38.out
  clear K35 K35l K35c0 K35c1
  have X_39 := Lib.hid (Kd.C_below X_36.out d10)
  clear X_36
  have B40 := Lib.hid (B37.out.trans (d10.mono B37.out.size))
  clear d10 B37
  go_wp2_with fail
  go_at_call 35
  refine (net_Check.calls 0 none 0 [] 1 _ (Kd.C_nil _ _) (Nat.le_refl _) a14_check0).mono ?_
  rintro e w11 ⟨rfl, b11⟩
  have d11 := b11
  have K41 : RowKit.Hid (w11.heap[w1.heap.size]? = some (.cells #[.int .i64 3, .slice A1 three14.length c1] 24 (0, 0))) := Lib.hid ((d11.block _ (by omega)).trans K38.out)
  have K41c0 : w11.cell? ⟨w1.heap.size, 0, none⟩ = some (.int .i64 3) := (blk_cell K41.out 0).trans rfl
  have K41c1 : w11.cell? ⟨w1.heap.size, 1, none⟩ = some (.slice A1 three14.length c1) := (blk_cell K41.out 1).trans rfl
  have K41l : w1.heap.size < w11.heap.size := blk_lt K41.out
  clear K38 K38l K38c0 K38c1
  have X_42 := Lib.hid (Kd.C_below X_39.out d11)
  clear X_39
  have B43 := Lib.hid (B40.out.trans (d11.mono B40.out.size))
  clear d11 B40
  go_wp2_with fail
  go_ret
  exact ⟨rfl, B43.out⟩

end Go.Proofs.Ytdpgdelimffjpaa.P
