-- Written by wip/drive.py (a prover's driver over the kit's print.py); hand-proved contracts stand among the printed ones. Lean checks it.
import Derived.Test.YtdpgdelimffjpaaFBase
import Derived.Test.YtdpgdelimffjpaaHBoxes
import Derived.Outline
import Derived.Lib.Hide
namespace Go.Proofs.Ytdpgdelimffjpaa.P
open Go.RowKit Go.Proofs.YtdpgdelimffjpaaW.PrintWords Go.Proofs.YtdpgdelimffjpaaW.PrintLast Go.Proofs.YtdpgdelimffjpaaW.PrintMore
attribute [local go_sem] max2_int min2_int max_two min_two max_three min_three max_four min_four   -- for this text's walks alone
set_option linter.unusedVariables false
set_option linter.unusedSimpArgs false

/-! ### slices_Max_int_int: function 90: by hand -/
-- import Derived.Test.YtdpgdelimffjpaaHBoxes
-- import Derived.Outline
-- import Derived.Lib.Hide
def slices_Max_int_int.f (l0 : List Int) : Option (Int) := if l0.length = 0 then none else some (l0.foldl max (rd l0 0))
theorem foldl_take_succ (l : List Int) (z : Int) (i : Nat) (hi : i < l.length) : (l.take (i + 1)).foldl max z = max ((l.take i).foldl max z) (rd l (i : Int)) := by
  rw [List.take_succ_eq_append_getElem hi, List.foldl_append, rd_nat l i hi]; rfl
set_option maxRecDepth 100000 in
set_option maxHeartbeats 4000000 in
theorem slices_Max_int_int.calls (A0 : Option Addr) (c0 : Nat) (l0 : List Int) (r : Int) (w : World) (hr0 : Kd.C (Kd.int .i64) w A0 l0.length l0) (hc0 : l0.length ≤ c0) (h : slices_Max_int_int.f l0 = some r) :
    Calls Try.prog 90 #[.slice A0 l0.length c0] w fun e w' => e = .returned (.int .i64 r) ∧ Below w.heap.size w w' := by
  unfold slices_Max_int_int.f at h
  by_cases h0 : l0.length = 0
  · rw [if_pos h0] at h; cases h
  rw [if_neg h0] at h
  have hr : l0.foldl max (rd l0 0) = r := Option.some.inj h
  have HRR := Lib.hid hr
  have HC := Lib.hid hr0
  have HLM := Lib.hid (Kd.C_max hr0)
  have q1 : decide ((l0.length : Int) < 1) = false := decide_eq_false (by omega)
  obtain ⟨ad, e0, e1⟩ := Kd.at_int hr0 0 (by omega) (by omega)
  subst e0
  have hz0 : ad.add 0 = ad := by cases ad; simp [Addr.add]
  simp only [Int.toNat_zero, hz0] at e1
  clear hz0
  clear h hr hr0
  generalize hz : rd l0 0 = z at HRR e1
  have HZ := Lib.hid hz
  clear hz
  go_enter Try.func90, Try.ntmps90
  go_wp2_with fail
  go_loopg [3, 4] (l0.length - 1) (fun kq v3 v4 wr => ∃ i : Nat, 1 ≤ i ∧ i ≤ l0.length ∧ v4 = .int .i64 (i : Int) ∧ ∃ m : Int, v3 = .int .i64 m ∧ Hid (kq = l0.length - i ∧ m = (l0.take i).foldl max z) ∧ wr = w)
  case atStart =>
    refine ⟨1, Nat.le_refl _, by omega, rfl, z, rfl, ⟨rfl, ?_⟩, rfl⟩
    have e := foldl_take_succ l0 z 0 (by omega)
    have e2 : rd l0 ((0 : Nat) : Int) = z := HZ.out
    rw [e2, List.take_zero, List.foldl_nil] at e
    rw [e]; omega
  case round =>
    obtain ⟨i, hi1, hi, rfl, m, rfl, HM, rfl⟩ := hrel
    by_cases hlt : i < l0.length
    · have q2 : decide ((i : Int) < (l0.length : Int)) = true := decide_eq_true (by omega)
      obtain ⟨ad2, e2, e3⟩ := Kd.at_int HC.out (i : Int) (by omega) (by omega)
      cases e2
      rw [Int.toNat_natCast] at e3
      obtain ⟨x, hx⟩ : ∃ x, x = rd l0 (i : Int) := ⟨_, rfl⟩
      rw [← hx] at e3
      have HX := Lib.hid hx
      clear hx
      have hL := HLM.out
      go_wp2_with fail
      all_goals (go_roundg (l0.length - (i + 1)); (case measure => have := HM.out.1; omega); (case rel => exact ⟨i + 1, by omega, by omega, rfl, _, rfl, ⟨rfl, by have e := foldl_take_succ l0 z i hlt; rw [← HM.out.2, ← HX.out] at e; rw [e]; omega⟩, rfl⟩))
    · have q2 : decide ((i : Int) < (l0.length : Int)) = false := decide_eq_false (by omega)
      have hiL : i = l0.length := by omega
      go_wp2_with fail
      go_ret
      have e := HM.out.2
      rw [hiL, List.take_length, HRR.out] at e
      subst e
      exact ⟨rfl, Below.refl _ _⟩

end Go.Proofs.Ytdpgdelimffjpaa.P
