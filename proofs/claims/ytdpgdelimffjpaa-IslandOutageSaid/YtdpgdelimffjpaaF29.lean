-- Written by wip/drive.py (a prover's driver over the kit's print.py); hand-proved contracts stand among the printed ones. Lean checks it.
import Derived.Test.YtdpgdelimffjpaaFBase
import Derived.Test.YtdpgdelimffjpaaF30
import Derived.Test.YtdpgdelimffjpaaF41
import Derived.Test.YtdpgdelimffjpaaF50
import Derived.Test.YtdpgdelimffjpaaFA
import Derived.Test.YtdpgdelimffjpaaHLit
import Derived.Outline
import Derived.Lib.Hide
namespace Go.Proofs.Ytdpgdelimffjpaa.P
open Go.RowKit Go.Proofs.YtdpgdelimffjpaaW.PrintWords Go.Proofs.YtdpgdelimffjpaaW.PrintLast Go.Proofs.YtdpgdelimffjpaaW.PrintMore
attribute [local go_sem] max2_int min2_int max_two min_two max_three min_three max_four min_four   -- for this text's walks alone
set_option linter.unusedVariables false
set_option linter.unusedSimpArgs false

/-! ### pylonlaw15_awake: function 29: by hand -/
-- import Derived.Test.YtdpgdelimffjpaaHLit
-- import Derived.Outline
-- import Derived.Lib.Hide
def five : List S37 := [(⟨0, 3, 1, 0⟩ : S37), (⟨3, 1, 1, 0⟩ : S37), (⟨2, 4, 1, 0⟩ : S37)]
theorem five_f : pylonlaw15_five.f = some (5, five) := rfl
theorem five_of : island_Of.f 20 5 five [] = some ([0, 0, 1, 0, 1], 0) := by kernel_rfl
theorem five_refs : island_Refs.f 20 5 five [] = some ([0, 2], 0) := by kernel_rfl
theorem five_of1 : island_Of.f 20 5 five [1] = some ([0, 1, 2, 0, 2], 0) := by kernel_rfl
theorem five_refs1 : island_Refs.f 20 5 five [1] = some ([0, 1, 2], 0) := by kernel_rfl
theorem ints1 : pylonref14_Ints.f 20 [0, 0, 1, 0, 1] [0, 0, 1, 0, 1] = some true := by kernel_rfl
theorem ints2 : pylonref14_Ints.f 20 [0, 2] [0, 2] = some true := by kernel_rfl
theorem ints3 : pylonref14_Ints.f 20 [0, 1, 2, 0, 2] [0, 1, 2, 0, 2] = some true := by kernel_rfl
theorem ints4 : pylonref14_Ints.f 20 [0, 1, 2] [0, 1, 2] = some true := by kernel_rfl
def pylonlaw15_awake.f : Option (Bool) := some true
set_option maxRecDepth 100000 in
set_option maxHeartbeats 4000000 in
theorem pylonlaw15_awake.calls  (r : Bool) (w : World) (h : pylonlaw15_awake.f  = some r) :
    Calls Try.prog 29 #[] w fun e w' => e = .returned (.bool r) ∧ Below w.heap.size w w' := by
  have hr : true = r := Option.some.inj h
  subst hr
  clear h
  go_enter Try.func29, Try.ntmps29
  go_wp2_with fail
  -- Of
  go_at_call 50
  refine (pylonlaw15_five.calls _ _ w five_f).mono ?_
  rintro e w1 ⟨v1, rfl, h1, b1⟩
  obtain ⟨A1, c1, rfl⟩ := Kd.R_slice h1
  obtain ⟨_, hc1, hC1⟩ := Kd.R_reads' h1
  clear h1
  have B1 := Lib.hid b1
  clear b1
  go_wp2_with fail
  go_at_call 30
  refine (island_Of.calls 20 5 A1 c1 five none 0 [] _ _ w1 hC1 hc1 (Kd.C_nil _ _) (Nat.le_refl _) five_of).mono ?_
  rintro e w2 ⟨v2, rfl, h2, b2⟩
  obtain ⟨A2, c2, rfl⟩ := Kd.R_slice h2
  obtain ⟨_, hc2, hC2⟩ := Kd.R_reads' h2
  have X2 := Lib.hid hC2
  have B2 := Lib.hid (B1.out.trans (b2.mono B1.out.size))
  clear h2 b2 B1 hC1 hC2
  go_wp2_with fail
  -- Refs
  go_at_call 50
  refine (pylonlaw15_five.calls _ _ w2 five_f).mono ?_
  rintro e w3 ⟨v3, rfl, h3, b3⟩
  obtain ⟨A3, c3, rfl⟩ := Kd.R_slice h3
  obtain ⟨_, hc3, hC3⟩ := Kd.R_reads' h3
  have X3 := Lib.hid (Kd.C_below X2.out b3)
  have B3 := Lib.hid (B2.out.trans (b3.mono B2.out.size))
  clear h3 b3 B2 X2
  go_wp2_with fail
  go_at_call 41
  refine (island_Refs.calls 20 5 A3 c3 five none 0 [] _ _ w3 hC3 hc3 (Kd.C_nil _ _) (Nat.le_refl _) five_refs).mono ?_
  rintro e w4 ⟨v4, rfl, h4, b4⟩
  obtain ⟨A4, c4, rfl⟩ := Kd.R_slice h4
  obtain ⟨_, hc4, hC4⟩ := Kd.R_reads' h4
  have X4 := Lib.hid (Kd.C_below X3.out b4)
  have Y4 := Lib.hid hC4
  have B4 := Lib.hid (B3.out.trans (b4.mono B3.out.size))
  clear h4 b4 B3 X3 hC3 hC4
  go_wp2_with fail
  -- Of, line 1 out
  go_at_call 50
  refine (pylonlaw15_five.calls _ _ w4 five_f).mono ?_
  rintro e w5 ⟨v5, rfl, h5, b5⟩
  obtain ⟨A5, c5, rfl⟩ := Kd.R_slice h5
  obtain ⟨_, hc5, hC5⟩ := Kd.R_reads' h5
  have X5 := Lib.hid (Kd.C_below X4.out b5)
  have Y5 := Lib.hid (Kd.C_below Y4.out b5)
  have B5 := Lib.hid (B4.out.trans (b5.mono B4.out.size))
  clear h5 b5 B4 X4 Y4
  go_wp2_with fail
  have C5 := C_lit w5 [1] 3 (by decide)
  go_at_call 30
  refine (island_Of.calls 20 5 A5 c5 five (some ⟨w5.heap.size, 0, none⟩) 1 [1] _ _ _ (Kd.C_alloc hC5 _) hc5 C5 (Nat.le_refl _) five_of1).mono ?_
  rintro e w6 ⟨v6, rfl, h6, b6⟩
  obtain ⟨A6, c6, rfl⟩ := Kd.R_slice h6
  obtain ⟨_, hc6, hC6⟩ := Kd.R_reads' h6
  have b6' := (below_alloc (Below.refl w5.heap.size w5) _).trans (b6.mono (by simp))
  have X6 := Lib.hid (Kd.C_below X5.out b6')
  have Y6 := Lib.hid (Kd.C_below Y5.out b6')
  have Z6 := Lib.hid hC6
  have B6 := Lib.hid (B5.out.trans (b6'.mono B5.out.size))
  clear h6 b6 b6' B5 X5 Y5 hC5 hC6 C5
  go_wp2_with fail
  -- Refs, line 1 out
  go_at_call 50
  refine (pylonlaw15_five.calls _ _ w6 five_f).mono ?_
  rintro e w7 ⟨v7, rfl, h7, b7⟩
  obtain ⟨A7, c7, rfl⟩ := Kd.R_slice h7
  obtain ⟨_, hc7, hC7⟩ := Kd.R_reads' h7
  have X7 := Lib.hid (Kd.C_below X6.out b7)
  have Y7 := Lib.hid (Kd.C_below Y6.out b7)
  have Z7 := Lib.hid (Kd.C_below Z6.out b7)
  have B7 := Lib.hid (B6.out.trans (b7.mono B6.out.size))
  clear h7 b7 B6 X6 Y6 Z6
  go_wp2_with fail
  have C7 := C_lit w7 [1] 3 (by decide)
  go_at_call 41
  refine (island_Refs.calls 20 5 A7 c7 five (some ⟨w7.heap.size, 0, none⟩) 1 [1] _ _ _ (Kd.C_alloc hC7 _) hc7 C7 (Nat.le_refl _) five_refs1).mono ?_
  rintro e w8 ⟨v8, rfl, h8, b8⟩
  obtain ⟨A8, c8, rfl⟩ := Kd.R_slice h8
  obtain ⟨_, hc8, hC8⟩ := Kd.R_reads' h8
  have b8' := (below_alloc (Below.refl w7.heap.size w7) _).trans (b8.mono (by simp))
  have X8 := Lib.hid (Kd.C_below X7.out b8')
  have Y8 := Lib.hid (Kd.C_below Y7.out b8')
  have Z8 := Lib.hid (Kd.C_below Z7.out b8')
  have U8 := Lib.hid hC8
  have B8 := Lib.hid (B7.out.trans (b8'.mono B7.out.size))
  clear h8 b8 b8' B7 X7 Y7 Z7 hC7 hC8 C7
  go_wp2_with fail
  -- the comparisons
  go_at_call 36
  refine (pylonref14_Ints.calls 20 A2 c2 [0, 0, 1, 0, 1] (some ⟨w8.heap.size, 0, none⟩) 5 [0, 0, 1, 0, 1] true _ (Kd.C_alloc X8.out _) hc2 (C_lit w8 [0, 0, 1, 0, 1] 3 (by decide)) (Nat.le_refl _) ints1).mono ?_
  rintro e w' ⟨rfl, ⟨m, rfl⟩⟩
  have b9 : Below w8.heap.size w8 ((w8.alloc (.cells (([0, 0, 1, 0, 1] : List Int).map (Value.int .i64)).toArray 3)).drewN m) := pw_below_drewN (below_alloc (Below.refl _ _) _) m
  generalize (w8.alloc (.cells (([0, 0, 1, 0, 1] : List Int).map (Value.int .i64)).toArray 3)).drewN m = w9 at b9 ⊢
  have Y9 := Lib.hid (Kd.C_below Y8.out b9)
  have Z9 := Lib.hid (Kd.C_below Z8.out b9)
  have U9 := Lib.hid (Kd.C_below U8.out b9)
  have B9 := Lib.hid (B8.out.trans (b9.mono B8.out.size))
  clear b9 B8
  go_wp2_with fail
  go_at_call 36
  refine (pylonref14_Ints.calls 20 A4 c4 [0, 2] (some ⟨w9.heap.size, 0, none⟩) 2 [0, 2] true _ (Kd.C_alloc Y9.out _) hc4 (C_lit w9 [0, 2] 3 (by decide)) (Nat.le_refl _) ints2).mono ?_
  rintro e w' ⟨rfl, ⟨m, rfl⟩⟩
  have b10 : Below w9.heap.size w9 ((w9.alloc (.cells (([0, 2] : List Int).map (Value.int .i64)).toArray 3)).drewN m) := pw_below_drewN (below_alloc (Below.refl _ _) _) m
  generalize (w9.alloc (.cells (([0, 2] : List Int).map (Value.int .i64)).toArray 3)).drewN m = w10 at b10 ⊢
  have Z10 := Lib.hid (Kd.C_below Z9.out b10)
  have U10 := Lib.hid (Kd.C_below U9.out b10)
  have B10 := Lib.hid (B9.out.trans (b10.mono B9.out.size))
  clear b10 B9
  go_wp2_with fail
  go_at_call 36
  refine (pylonref14_Ints.calls 20 A6 c6 [0, 1, 2, 0, 2] (some ⟨w10.heap.size, 0, none⟩) 5 [0, 1, 2, 0, 2] true _ (Kd.C_alloc Z10.out _) hc6 (C_lit w10 [0, 1, 2, 0, 2] 3 (by decide)) (Nat.le_refl _) ints3).mono ?_
  rintro e w' ⟨rfl, ⟨m, rfl⟩⟩
  have b11 : Below w10.heap.size w10 ((w10.alloc (.cells (([0, 1, 2, 0, 2] : List Int).map (Value.int .i64)).toArray 3)).drewN m) := pw_below_drewN (below_alloc (Below.refl _ _) _) m
  generalize (w10.alloc (.cells (([0, 1, 2, 0, 2] : List Int).map (Value.int .i64)).toArray 3)).drewN m = w11 at b11 ⊢
  have U11 := Lib.hid (Kd.C_below U10.out b11)
  have B11 := Lib.hid (B10.out.trans (b11.mono B10.out.size))
  clear b11 B10
  go_wp2_with fail
  go_at_call 36
  refine (pylonref14_Ints.calls 20 A8 c8 [0, 1, 2] (some ⟨w11.heap.size, 0, none⟩) 3 [0, 1, 2] true _ (Kd.C_alloc U11.out _) hc8 (C_lit w11 [0, 1, 2] 3 (by decide)) (Nat.le_refl _) ints4).mono ?_
  rintro e w' ⟨rfl, ⟨m, rfl⟩⟩
  have b12 : Below w11.heap.size w11 ((w11.alloc (.cells (([0, 1, 2] : List Int).map (Value.int .i64)).toArray 3)).drewN m) := pw_below_drewN (below_alloc (Below.refl _ _) _) m
  generalize (w11.alloc (.cells (([0, 1, 2] : List Int).map (Value.int .i64)).toArray 3)).drewN m = w12 at b12 ⊢
  have B12 := Lib.hid (B11.out.trans (b12.mono B11.out.size))
  clear b12 B11
  go_wp2_with fail
  go_ret
  exact ⟨rfl, B12.out⟩

end Go.Proofs.Ytdpgdelimffjpaa.P
