-- Written by wip/drive.py (a prover's driver over the kit's print.py); hand-proved contracts stand among the printed ones. Lean checks it.
import Derived.Test.YtdpgdelimffjpaaFBase
import Derived.Test.YtdpgdelimffjpaaF44
import Derived.Test.YtdpgdelimffjpaaF55
import Derived.Test.YtdpgdelimffjpaaF56
import Derived.Test.YtdpgdelimffjpaaF57
import Derived.Test.YtdpgdelimffjpaaF62
import Derived.Test.YtdpgdelimffjpaaFA
import Derived.Test.YtdpgdelimffjpaaFB
import Derived.Test.YtdpgdelimffjpaaHLit
import Derived.Outline
import Derived.Lib.Hide
namespace Go.Proofs.Ytdpgdelimffjpaa.P
open Go.RowKit Go.Proofs.YtdpgdelimffjpaaW.PrintWords Go.Proofs.YtdpgdelimffjpaaW.PrintLast Go.Proofs.YtdpgdelimffjpaaW.PrintMore
attribute [local go_sem] max2_int min2_int max_two min_two max_three min_three max_four min_four   -- for this text's walks alone
set_option linter.unusedVariables false
set_option linter.unusedSimpArgs false

/-! ### pylonlaw16_awake: function 51: by hand -/
-- import Derived.Test.YtdpgdelimffjpaaHLit
-- import Derived.Outline
-- import Derived.Lib.Hide
def three16 : List S37 := [(⟨0, 1, 10, 100⟩ : S37), (⟨1, 2, 5, 50⟩ : S37), (⟨0, 2, 10, 70⟩ : S37)]
theorem a16_three : pylonlaw16_three.f = some (3, three16) := rfl
theorem a16_tree : tree_Tree.f 60 3 three16 [] = some ([0, 1], 0) := by kernel_rfl
theorem a16_br : tree_Bridges.f 60 3 three16 [] = some ([], 0) := by kernel_rfl
theorem a16_path : tree_Path.f 60 3 three16 [] 2 0 = some ([-1, -1, 0], 0) := by kernel_rfl
theorem a16_cyc : tree_Cycles.f 60 3 three16 [] = some ([[-1, -1, 1]], 0) := by kernel_rfl
theorem a16_br2 : tree_Bridges.f 60 3 three16 [2] = some ([0, 1], 0) := by kernel_rfl
theorem a16_cyc2 : tree_Cycles.f 60 3 three16 [2] = some ([], 0) := by kernel_rfl
theorem a16_i1 : pylonref14_Ints.f 20 [0, 1] [0, 1] = some true := by kernel_rfl
theorem a16_i2 : pylonref14_Ints.f 20 [-1, -1, 0] [-1, -1, 0] = some true := by kernel_rfl
theorem a16_rows : pylonref15_Rows.f 20 [[-1, -1, 1]] [[-1, -1, 1]] = some true := by kernel_rfl
/-- A fresh row of one fresh list of ints. -/
theorem C_row1S (W : World) (s : Nat) (hs : W.heap.size = s) (xs : List Int) (h : xs.length ≤ 9223372036854775807) : Kd.C (Kd.slice 3 (Kd.int .i64)) ((W.alloc (.cells (xs.map (Value.int .i64)).toArray 3)).alloc (.cells #[.slice (some ⟨s, 0, none⟩) xs.length xs.length] 25)) (some ⟨s + 1, 0, none⟩) 1 [xs] := by
  have hC := Kd.C_alloc (C_litS W s hs xs 3 h) (.cells #[.slice (some ⟨s, 0, none⟩) xs.length xs.length] 25)
  have hb := blk_newS (W.alloc (.cells (xs.map (Value.int .i64)).toArray 3)) (s + 1) (by simp [hs]) (.cells #[.slice (some ⟨s, 0, none⟩) xs.length xs.length] 25)
  refine ⟨rfl, by decide, fun _ => ⟨_, rfl, fun j p hj => ?_⟩⟩
  have hj0 : j = 0 := by
    rcases Nat.lt_or_ge j 1 with h | h
    · omega
    · rw [List.getElem?_eq_none (by simpa using h)] at hj; cases hj
  subst hj0
  cases hj
  refine ⟨[.slice (some ⟨s, 0, none⟩) xs.length xs.length], rfl, ⟨_, _, rfl, Nat.le_refl _, hC⟩, fun i u hu => ?_⟩
  have hi0 : i = 0 := by
    rcases Nat.lt_or_ge i 1 with h | h
    · omega
    · rw [List.getElem?_eq_none (by simpa using h)] at hu; cases hu
  subst hi0
  have e := blk_cell hb 0
  rw [show ((⟨s + 1, 0, none⟩ : Addr).add (0 * (Kd.slice 3 (Kd.int .i64)).sz + 0)) = ⟨s + 1, 0, none⟩ by simp [Addr.add]]
  rw [e]; exact hu
def pylonlaw16_awake.f : Option (Bool) := some true
set_option maxRecDepth 100000 in
set_option maxHeartbeats 8000000 in
theorem pylonlaw16_awake.calls  (r : Bool) (w : World) (h : pylonlaw16_awake.f  = some r) :
    Calls Try.prog 51 #[] w fun e w' => e = .returned (.bool r) ∧ Below w.heap.size w w' := by
  have hr : true = r := Option.some.inj h
  subst hr
  clear h
  go_enter Try.func51, Try.ntmps51
  go_wp2_with fail
  go_at_call 63
  refine (pylonlaw16_three.calls  3 three16 _  a16_three).mono ?_
  rintro e w1 ⟨v1, rfl, h1, b1⟩
  obtain ⟨A1, c1, rfl⟩ := Kd.R_slice h1
  obtain ⟨_, hc1, hC1⟩ := Kd.R_reads' h1
  have X1_0 := Lib.hid hC1
  clear h1 hC1
  have d1 := b1
  have B1 := Lib.hid (d1)
  clear d1
  go_wp2_with fail
  go_at_call 56
  refine (tree_Tree.calls 60 3 A1 c1 three16 none 0 [] [0, 1] 0 _ X1_0.out hc1 (Kd.C_nil _ _) (Nat.le_refl _) a16_tree).mono ?_
  rintro e w2 ⟨v2, rfl, h2, b2⟩
  obtain ⟨A2, c2, rfl⟩ := Kd.R_slice h2
  obtain ⟨_, hc2, hC2⟩ := Kd.R_reads' h2
  have X2_0 := Lib.hid hC2
  clear h2 hC2
  have d2 := b2
  have X_2 := Lib.hid (Kd.C_below X1_0.out d2)
  clear X1_0
  have B3 := Lib.hid (B1.out.trans (d2.mono B1.out.size))
  clear d2 B1
  clear X_2
  go_wp2_with fail
  go_at_call 63
  refine (pylonlaw16_three.calls  3 three16 _  a16_three).mono ?_
  rintro e w3 ⟨v3, rfl, h3, b3⟩
  obtain ⟨A3, c3, rfl⟩ := Kd.R_slice h3
  obtain ⟨_, hc3, hC3⟩ := Kd.R_reads' h3
  have X3_0 := Lib.hid hC3
  clear h3 hC3
  have d3 := b3
  have X_4 := Lib.hid (Kd.C_below X2_0.out d3)
  clear X2_0
  have B5 := Lib.hid (B3.out.trans (d3.mono B3.out.size))
  clear d3 B3
  go_wp2_with fail
  go_at_call 55
  refine (tree_Bridges.calls 60 3 A3 c3 three16 none 0 [] [] 0 _ X3_0.out hc3 (Kd.C_nil _ _) (Nat.le_refl _) a16_br).mono ?_
  rintro e w4 ⟨v4, rfl, h4, b4⟩
  obtain ⟨A4, c4, rfl⟩ := Kd.R_slice h4
  obtain ⟨_, hc4, hC4⟩ := Kd.R_reads' h4
  have X4_0 := Lib.hid hC4
  clear h4 hC4
  have d4 := b4
  have X_6 := Lib.hid (Kd.C_below X_4.out d4)
  clear X_4
  have X_7 := Lib.hid (Kd.C_below X3_0.out d4)
  clear X3_0
  have B8 := Lib.hid (B5.out.trans (d4.mono B5.out.size))
  clear d4 B5
  clear X_7
  go_wp2_with fail
  go_at_call 63
  refine (pylonlaw16_three.calls  3 three16 _  a16_three).mono ?_
  rintro e w5 ⟨v5, rfl, h5, b5⟩
  obtain ⟨A5, c5, rfl⟩ := Kd.R_slice h5
  obtain ⟨_, hc5, hC5⟩ := Kd.R_reads' h5
  have X5_0 := Lib.hid hC5
  clear h5 hC5
  have d5 := b5
  have X_9 := Lib.hid (Kd.C_below X_6.out d5)
  clear X_6
  have X_10 := Lib.hid (Kd.C_below X4_0.out d5)
  clear X4_0
  have B11 := Lib.hid (B8.out.trans (d5.mono B8.out.size))
  clear d5 B8
  go_wp2_with fail
  go_at_call 62
  refine (tree_Path.calls 60 3 A5 c5 three16 none 0 [] 2 0 [-1, -1, 0] 0 _ X5_0.out hc5 (Kd.C_nil _ _) (Nat.le_refl _) a16_path).mono ?_
  rintro e w6 ⟨v6, rfl, h6, b6⟩
  obtain ⟨A6, c6, rfl⟩ := Kd.R_slice h6
  obtain ⟨_, hc6, hC6⟩ := Kd.R_reads' h6
  have X6_0 := Lib.hid hC6
  clear h6 hC6
  have d6 := b6
  have X_12 := Lib.hid (Kd.C_below X_9.out d6)
  clear X_9
  have X_13 := Lib.hid (Kd.C_below X_10.out d6)
  clear X_10
  have X_14 := Lib.hid (Kd.C_below X5_0.out d6)
  clear X5_0
  have B15 := Lib.hid (B11.out.trans (d6.mono B11.out.size))
  clear d6 B11
  clear X_14
  go_wp2_with fail
  go_at_call 63
  refine (pylonlaw16_three.calls  3 three16 _  a16_three).mono ?_
  rintro e w7 ⟨v7, rfl, h7, b7⟩
  obtain ⟨A7, c7, rfl⟩ := Kd.R_slice h7
  obtain ⟨_, hc7, hC7⟩ := Kd.R_reads' h7
  have X7_0 := Lib.hid hC7
  clear h7 hC7
  have d7 := b7
  have X_16 := Lib.hid (Kd.C_below X_12.out d7)
  clear X_12
  have X_17 := Lib.hid (Kd.C_below X_13.out d7)
  clear X_13
  have X_18 := Lib.hid (Kd.C_below X6_0.out d7)
  clear X6_0
  have B19 := Lib.hid (B15.out.trans (d7.mono B15.out.size))
  clear d7 B15
  go_wp2_with fail
  go_at_call 57
  refine (tree_Cycles.calls 60 3 A7 c7 three16 none 0 [] [[-1, -1, 1]] 0 _ X7_0.out hc7 (Kd.C_nil _ _) (Nat.le_refl _) a16_cyc).mono ?_
  rintro e w8 ⟨v8, rfl, g8, b8⟩
  have h8 := Kd.S_R g8
  obtain ⟨A8, c8, rfl⟩ := Kd.R_slice h8
  obtain ⟨_, hc8, hC8⟩ := Kd.R_reads' h8
  have X8_0 := Lib.hid hC8
  clear g8 h8 hC8
  have d8 := b8
  have X_20 := Lib.hid (Kd.C_below X_16.out d8)
  clear X_16
  have X_21 := Lib.hid (Kd.C_below X_17.out d8)
  clear X_17
  have X_22 := Lib.hid (Kd.C_below X_18.out d8)
  clear X_18
  have X_23 := Lib.hid (Kd.C_below X7_0.out d8)
  clear X7_0
  have B24 := Lib.hid (B19.out.trans (d8.mono B19.out.size))
  clear d8 B19
  clear X_23
  go_wp2_with fail
  go_at_call 63
  refine (pylonlaw16_three.calls  3 three16 _  a16_three).mono ?_
  rintro e w9 ⟨v9, rfl, h9, b9⟩
  obtain ⟨A9, c9, rfl⟩ := Kd.R_slice h9
  obtain ⟨_, hc9, hC9⟩ := Kd.R_reads' h9
  have X9_0 := Lib.hid hC9
  clear h9 hC9
  have d9 := b9
  have X_25 := Lib.hid (Kd.C_below X_20.out d9)
  clear X_20
  have X_26 := Lib.hid (Kd.C_below X_21.out d9)
  clear X_21
  have X_27 := Lib.hid (Kd.C_below X_22.out d9)
  clear X_22
  have X_28 := Lib.hid (Kd.C_below X8_0.out d9)
  clear X8_0
  have B29 := Lib.hid (B24.out.trans (d9.mono B24.out.size))
  clear d9 B24
  go_wp2_with fail
  go_at_call 55
  refine (tree_Bridges.calls 60 3 A9 c9 three16 (some ⟨w9.heap.size, 0, none⟩) 1 [2] [0, 1] 0 _ (Kd.C_alloc X9_0.out _) hc9 (C_litS w9 (w9.heap.size) (by simp) [2] 3 (by decide)) (Nat.le_refl _) a16_br2).mono ?_
  rintro e w10 ⟨v10, rfl, h10, b10⟩
  obtain ⟨A10, c10, rfl⟩ := Kd.R_slice h10
  obtain ⟨_, hc10, hC10⟩ := Kd.R_reads' h10
  have X10_0 := Lib.hid hC10
  clear h10 hC10
  have d10 : Below w9.heap.size w9 w10 := (below_alloc (Below.refl w9.heap.size w9) _).trans (b10.mono (by simp <;> omega))
  have X_30 := Lib.hid (Kd.C_below X_25.out d10)
  clear X_25
  have X_31 := Lib.hid (Kd.C_below X_26.out d10)
  clear X_26
  have X_32 := Lib.hid (Kd.C_below X_27.out d10)
  clear X_27
  have X_33 := Lib.hid (Kd.C_below X_28.out d10)
  clear X_28
  have X_34 := Lib.hid (Kd.C_below X9_0.out d10)
  clear X9_0
  have B35 := Lib.hid (B29.out.trans (d10.mono B29.out.size))
  clear d10 B29
  clear X_34
  go_wp2_with fail
  go_at_call 63
  refine (pylonlaw16_three.calls  3 three16 _  a16_three).mono ?_
  rintro e w11 ⟨v11, rfl, h11, b11⟩
  obtain ⟨A11, c11, rfl⟩ := Kd.R_slice h11
  obtain ⟨_, hc11, hC11⟩ := Kd.R_reads' h11
  have X11_0 := Lib.hid hC11
  clear h11 hC11
  have d11 := b11
  have X_36 := Lib.hid (Kd.C_below X_30.out d11)
  clear X_30
  have X_37 := Lib.hid (Kd.C_below X_31.out d11)
  clear X_31
  have X_38 := Lib.hid (Kd.C_below X_32.out d11)
  clear X_32
  have X_39 := Lib.hid (Kd.C_below X_33.out d11)
  clear X_33
  have X_40 := Lib.hid (Kd.C_below X10_0.out d11)
  clear X10_0
  have B41 := Lib.hid (B35.out.trans (d11.mono B35.out.size))
  clear d11 B35
  go_wp2_with fail
  go_at_call 57
  refine (tree_Cycles.calls 60 3 A11 c11 three16 (some ⟨w11.heap.size, 0, none⟩) 1 [2] [] 0 _ (Kd.C_alloc X11_0.out _) hc11 (C_litS w11 (w11.heap.size) (by simp) [2] 3 (by decide)) (Nat.le_refl _) a16_cyc2).mono ?_
  rintro e w12 ⟨v12, rfl, g12, b12⟩
  have h12 := Kd.S_R g12
  obtain ⟨A12, c12, rfl⟩ := Kd.R_slice h12
  obtain ⟨_, hc12, hC12⟩ := Kd.R_reads' h12
  have X12_0 := Lib.hid hC12
  clear g12 h12 hC12
  have d12 : Below w11.heap.size w11 w12 := (below_alloc (Below.refl w11.heap.size w11) _).trans (b12.mono (by simp <;> omega))
  have X_42 := Lib.hid (Kd.C_below X_36.out d12)
  clear X_36
  have X_43 := Lib.hid (Kd.C_below X_37.out d12)
  clear X_37
  have X_44 := Lib.hid (Kd.C_below X_38.out d12)
  clear X_38
  have X_45 := Lib.hid (Kd.C_below X_39.out d12)
  clear X_39
  have X_46 := Lib.hid (Kd.C_below X_40.out d12)
  clear X_40
  have X_47 := Lib.hid (Kd.C_below X11_0.out d12)
  clear X11_0
  have B48 := Lib.hid (B41.out.trans (d12.mono B41.out.size))
  clear d12 B41
  clear X_47
  go_wp2_with fail
  go_at_call 36
  refine (pylonref14_Ints.calls 20 A2 c2 [0, 1] (some ⟨w12.heap.size, 0, none⟩) 2 [0, 1] true _ (Kd.C_alloc X_42.out _) hc2 (C_litS w12 (w12.heap.size) (by simp) [0, 1] 3 (by decide)) (Nat.le_refl _) a16_i1).mono ?_
  rintro e w' ⟨rfl, ⟨m, rfl⟩⟩
  have b13 : Below w12.heap.size w12 ((w12.alloc (.cells (([0, 1] : List Int).map (Value.int .i64)).toArray 3)).drewN m) := pw_below_drewN (below_alloc (Below.refl _ _) _) m
  generalize (w12.alloc (.cells (([0, 1] : List Int).map (Value.int .i64)).toArray 3)).drewN m = w13 at b13 ⊢
  have d13 := b13
  have X_49 := Lib.hid (Kd.C_below X_42.out d13)
  clear X_42
  have X_50 := Lib.hid (Kd.C_below X_43.out d13)
  clear X_43
  have X_51 := Lib.hid (Kd.C_below X_44.out d13)
  clear X_44
  have X_52 := Lib.hid (Kd.C_below X_45.out d13)
  clear X_45
  have X_53 := Lib.hid (Kd.C_below X_46.out d13)
  clear X_46
  have X_54 := Lib.hid (Kd.C_below X12_0.out d13)
  clear X12_0
  have B55 := Lib.hid (B48.out.trans (d13.mono B48.out.size))
  clear d13 B48
  clear X_49
  go_wp2_with fail
  go_at_call 36
  refine (pylonref14_Ints.calls 20 A6 c6 [-1, -1, 0] (some ⟨w13.heap.size, 0, none⟩) 3 [-1, -1, 0] true _ (Kd.C_alloc X_51.out _) hc6 (C_litS w13 (w13.heap.size) (by simp) [-1, -1, 0] 3 (by decide)) (Nat.le_refl _) a16_i2).mono ?_
  rintro e w' ⟨rfl, ⟨m, rfl⟩⟩
  have b14 : Below w13.heap.size w13 ((w13.alloc (.cells (([-1, -1, 0] : List Int).map (Value.int .i64)).toArray 3)).drewN m) := pw_below_drewN (below_alloc (Below.refl _ _) _) m
  generalize (w13.alloc (.cells (([-1, -1, 0] : List Int).map (Value.int .i64)).toArray 3)).drewN m = w14 at b14 ⊢
  have d14 := b14
  have X_56 := Lib.hid (Kd.C_below X_50.out d14)
  clear X_50
  have X_57 := Lib.hid (Kd.C_below X_51.out d14)
  clear X_51
  have X_58 := Lib.hid (Kd.C_below X_52.out d14)
  clear X_52
  have X_59 := Lib.hid (Kd.C_below X_53.out d14)
  clear X_53
  have X_60 := Lib.hid (Kd.C_below X_54.out d14)
  clear X_54
  have B61 := Lib.hid (B55.out.trans (d14.mono B55.out.size))
  clear d14 B55
  clear X_57
  go_wp2_with fail
  go_at_call 44
  refine (pylonref15_Rows.calls 20 A8 c8 [[-1, -1, 1]] (some ⟨w14.heap.size + 1, 0, none⟩) 1 [[-1, -1, 1]] true _ (Kd.C_alloc (Kd.C_alloc X_58.out _) _) hc8 (C_row1S w14 (w14.heap.size) (by simp) [-1, -1, 1] (by decide)) (Nat.le_refl _) a16_rows).mono ?_
  rintro e w' ⟨rfl, ⟨m, rfl⟩⟩
  have b15 : Below w14.heap.size w14 (((w14.alloc (.cells (([-1, -1, 1] : List Int).map (Value.int .i64)).toArray 3)).alloc (.cells #[.slice (some ⟨w14.heap.size, 0, none⟩) 3 3] 25)).drewN m) := pw_below_drewN (below_alloc (below_alloc (Below.refl _ _) _) _) m
  generalize ((w14.alloc (.cells (([-1, -1, 1] : List Int).map (Value.int .i64)).toArray 3)).alloc (.cells #[.slice (some ⟨w14.heap.size, 0, none⟩) 3 3] 25)).drewN m = w15 at b15 ⊢
  have d15 := b15
  have X_62 := Lib.hid (Kd.C_below X_56.out d15)
  clear X_56
  have X_63 := Lib.hid (Kd.C_below X_58.out d15)
  clear X_58
  have X_64 := Lib.hid (Kd.C_below X_59.out d15)
  clear X_59
  have X_65 := Lib.hid (Kd.C_below X_60.out d15)
  clear X_60
  have B66 := Lib.hid (B61.out.trans (d15.mono B61.out.size))
  clear d15 B61
  clear X_63
  go_wp2_with fail
  go_at_call 36
  refine (pylonref14_Ints.calls 20 A10 c10 [0, 1] (some ⟨w15.heap.size, 0, none⟩) 2 [0, 1] true _ (Kd.C_alloc X_64.out _) hc10 (C_litS w15 (w15.heap.size) (by simp) [0, 1] 3 (by decide)) (Nat.le_refl _) a16_i1).mono ?_
  rintro e w' ⟨rfl, ⟨m, rfl⟩⟩
  have b16 : Below w15.heap.size w15 ((w15.alloc (.cells (([0, 1] : List Int).map (Value.int .i64)).toArray 3)).drewN m) := pw_below_drewN (below_alloc (Below.refl _ _) _) m
  generalize (w15.alloc (.cells (([0, 1] : List Int).map (Value.int .i64)).toArray 3)).drewN m = w16 at b16 ⊢
  have d16 := b16
  have X_67 := Lib.hid (Kd.C_below X_62.out d16)
  clear X_62
  have X_68 := Lib.hid (Kd.C_below X_64.out d16)
  clear X_64
  have X_69 := Lib.hid (Kd.C_below X_65.out d16)
  clear X_65
  have B70 := Lib.hid (B66.out.trans (d16.mono B66.out.size))
  clear d16 B66
  clear X_68
  go_wp2_with fail
  go_ret
  exact ⟨rfl, B70.out⟩

end Go.Proofs.Ytdpgdelimffjpaa.P
