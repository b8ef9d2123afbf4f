-- Written by wip/drive.py (a prover's driver over the kit's print.py); hand-proved contracts stand among the printed ones. Lean checks it.
import Derived.Test.YtdpgdelimffjpaaFBase
import Derived.Test.YtdpgdelimffjpaaFA
import Derived.Test.YtdpgdelimffjpaaHSort
import Derived.Test.YtdpgdelimffjpaaHBoxes
import Derived.Lib.Hide
namespace Go.Proofs.Ytdpgdelimffjpaa.P
open Go.RowKit Go.Proofs.YtdpgdelimffjpaaW.PrintWords Go.Proofs.YtdpgdelimffjpaaW.PrintLast Go.Proofs.YtdpgdelimffjpaaW.PrintMore
attribute [local go_sem] max2_int min2_int max_two min_two max_three min_three max_four min_four   -- for this text's walks alone
set_option linter.unusedVariables false
set_option linter.unusedSimpArgs false

/-! ### net_Union: function 49: by hand -/
-- import Derived.Test.YtdpgdelimffjpaaHSort
-- import Derived.Test.YtdpgdelimffjpaaHBoxes
-- import Derived.Lib.Hide
def net_Union.f (l0 : List Int) (l1 : List Int) : Option (List Int × Int) :=
  if l0.length ≤ 1000000 ∧ l1.length ≤ 1000000 then (if risesFrom (-1) l0 = true then (if risesFrom (-1) l1 = true then some (uni l0 l1, 0) else some ([], 1)) else some ([], 1)) else none
set_option maxRecDepth 100000 in
set_option maxHeartbeats 4000000 in
theorem net_Union.calls (A0 : Option Addr) (c0 : Nat) (l0 : List Int) (A1 : Option Addr) (c1 : Nat) (l1 : List Int) (r1 : List Int) (r2 : Int) (w : World) (hr0 : Kd.C (Kd.int .i64) w A0 l0.length l0) (hc0 : l0.length ≤ c0) (hr1 : Kd.C (Kd.int .i64) w A1 l1.length l1) (hc1 : l1.length ≤ c1) (h : net_Union.f l0 l1 = some (r1, r2)) :
    Calls Try.prog 49 #[.slice A0 l0.length c0, .slice A1 l1.length c1] w fun e w' => ∃ v0_ : Value, e = .returned (.tuple #[v0_, .int .i64 r2]) ∧ Kd.R (Kd.int .i64) 3 w' w.heap.size (fun _ => True) v0_ r1 ∧ Below w.heap.size w w' := by
  rw [net_Union.f] at h
  by_cases hlen : l0.length ≤ 1000000 ∧ l1.length ≤ 1000000
  · rw [if_pos hlen] at h
    have HL := Lib.hid hlen
    have F0 := Lib.hid (rises_f l0 (by omega) (l0.length + 1) (by omega))
    have F1 := Lib.hid (rises_f l1 (by omega) (l1.length + 1) (by omega))
    have HR0 := Lib.hid hr0
    have HR1 := Lib.hid hr1
    have HC0 := Lib.hid hc0
    have HC1 := Lib.hid hc1
    clear hr0 hr1 hc0 hc1 hlen
    by_cases h0 : risesFrom (-1) l0 = true
    · rw [if_pos h0] at h
      rw [h0] at F0
      by_cases h1 : risesFrom (-1) l1 = true
      · rw [if_pos h1] at h
        rw [h1] at F1
        simp only [Option.some.injEq, Prod.mk.injEq] at h
        obtain ⟨rfl, rfl⟩ := h
        clear h0 h1
        go_enter Try.func49, Try.ntmps49
        obtain ⟨X, hX⟩ : ∃ X, X = l0 ++ l1 := ⟨_, rfl⟩
        have hXl : X.length ≤ 2000000 := by rw [hX, List.length_append]; have := HL.out; omega
        have hU : uni l0 l1 = Lib.compact (X.mergeSort fun x y => decide (x ≤ y)) := by rw [hX]; rfl
        obtain ⟨Y, hY⟩ : ∃ Y, Y = (X.mergeSort fun x y => decide (x ≤ y)) := ⟨_, rfl⟩
        have hYl : Y.length ≤ 2000000 := by rw [hY, List.length_mergeSort]; exact hXl
        rw [← hY] at hU
        rw [hU]
        have HX := Lib.hid hX
        have HXL := Lib.hid hXl
        have HY := Lib.hid hY
        have HYL := Lib.hid hYl
        clear hU hX hXl hY hYl
        go_wp2_with (first | (go_at_call 83; refine (net_rises.calls (l0.length + 1) A0 c0 l0 true w HR0.out HC0.out F0.out).mono ?_; rintro e w1 ⟨rfl, n1, rfl⟩; clear F0) | (go_at_call 83; refine (net_rises.calls (l1.length + 1) A1 c1 l1 true _ (Kd.C_below HR1.out (pw_below_drewN (Below.refl _ _) _)) HC1.out F1.out).mono ?_; rintro e w1 ⟨rfl, n2, rfl⟩) | (go_at_call 92; refine (cloneI_calls A0 c0 l0 _ (Kd.C_below HR0.out (pw_below_drewN (Below.refl _ _) _)) HL.out.1).mono ?_; rintro e w3 ⟨v3, rfl, r3, b3⟩; obtain ⟨A3, c3, rfl⟩ := Kd.R_slice r3; have R3 : RowKit.Hid (Kd.R (Kd.int .i64) 3 w3 w.heap.size (fun _ => True) (.slice A3 l0.length c3) l0) := Lib.hid r3; have B3 : RowKit.Hid (Below w.heap.size w w3) := Lib.hid ((pw_below_drewN (Below.refl _ _) _).trans b3); clear r3 b3) | ((with_reducible refine gate_builtin (b := .append) (xs := #[.tmp 16, .tmp 17]) rfl ?_); at_builtin; go_loud (refine Kd.R_append_row (Value.int .i64) (0 : Int) (h1 := fun _ => rfl) (w0 := w) w.heap.size rfl (.tmp 16) (.tmp 17) 25 3 (.int .i64 0) 8 rfl Try.underlying25 info3 rfl (by decide) (.slice A3 l0.length c3) l0 l1 A1 l1.length c1 (fun _ => True) rfl rfl (fun _ _ => trivial) ?aO ?aR ?aB ?ab ?al ?_; (case aO => exact R3.out); (case aR => exact Kd.C_below HR1.out B3.out); (case aB => exact B3.out); (case ab => exact B3.out.size); (case al => have := HL.out; omega); intro v4 w4 r4 b4 g4 at4; rw [← HX.out] at r4; obtain ⟨A4, c4, rfl⟩ := Kd.R_slice r4; have R4 := Lib.hid r4; have B4 := Lib.hid b4; clear r4 b4 g4 at4)) | (go_at_call 93; refine (sort_calls R4.out HXL.out).mono ?_; rintro e w5 ⟨rfl, r5, g5⟩; rw [← HY.out] at r5; have R5 := Lib.hid r5; have B5 : RowKit.Hid (Below w.heap.size w w5) := Lib.hid (B4.out.grown g5 B4.out.size (Kd.R_base R4.out)); clear r5 g5) | (go_at_call 94; refine (compact_calls R5.out HYL.out).mono ?_; rintro e w6 ⟨v6, rfl, r6, b6⟩; have R6 := Lib.hid r6; have B6 : RowKit.Hid (Below w.heap.size w w6) := Lib.hid (B5.out.trans b6); clear r6 b6))
        exact bodyPost_ret (v := .tuple #[v6, .int .i64 0]) (by simp [results, Try.f49, go_sem]) rfl ⟨_, rfl, R6.out, B6.out⟩
      · rw [if_neg h1] at h
        simp only [Option.some.injEq, Prod.mk.injEq] at h
        obtain ⟨rfl, rfl⟩ := h
        rw [Bool.eq_false_iff.2 h1] at F1
        clear h0 h1
        go_enter Try.func49, Try.ntmps49
        go_wp2_with (first | (go_at_call 83; refine (net_rises.calls (l0.length + 1) A0 c0 l0 true w HR0.out HC0.out F0.out).mono ?_; rintro e w1 ⟨rfl, n1, rfl⟩; clear F0) | (go_at_call 83; refine (net_rises.calls (l1.length + 1) A1 c1 l1 false _ (Kd.C_below HR1.out (pw_below_drewN (Below.refl _ _) _)) HC1.out F1.out).mono ?_; rintro e w1 ⟨rfl, n2, rfl⟩))
        exact bodyPost_ret (v := .tuple #[.slice none 0 0, .int .i64 1]) (by simp [results, Try.f49, go_sem]) rfl ⟨_, rfl, Kd.R_nil _ _ _ _ _, pw_below_drewN (Below.refl _ _) _⟩
    · rw [if_neg h0] at h
      simp only [Option.some.injEq, Prod.mk.injEq] at h
      obtain ⟨rfl, rfl⟩ := h
      rw [Bool.eq_false_iff.2 h0] at F0
      clear h0
      go_enter Try.func49, Try.ntmps49
      go_wp2_with (go_at_call 83; refine (net_rises.calls (l0.length + 1) A0 c0 l0 false w HR0.out HC0.out F0.out).mono ?_; rintro e w1 ⟨rfl, n1, rfl⟩; clear F0)
      exact bodyPost_ret (v := .tuple #[.slice none 0 0, .int .i64 1]) (by simp [results, Try.f49, go_sem]) rfl ⟨_, rfl, Kd.R_nil _ _ _ _ _, pw_below_drewN (Below.refl _ _) _⟩
  · rw [if_neg hlen] at h; cases h

end Go.Proofs.Ytdpgdelimffjpaa.P
