/- Texts of this claim, merged: the words that print.sh and the prover's driver wrote, and hand-proved contracts and lemmas, less what this claim does not name. Lean checks them. -/
import Derived.Lib.SmallJoins
import Derived.Deep.Slices
import Derived.Deep.Fields
import Derived.ChangeSame
import Derived.WalkKit
import Derived.ProofKit
import Derived.OpenShut
import Derived.ChangeOld
import Derived.Test.YtdpgdelimffjpaaRows
import Derived.KernelRfl
import Derived.JoinedOf
import Derived.Outline
import Derived.Lib.Hide
import Derived.Deep.QuietTactic
import Derived.BigQuiet
import Derived.BigRegion
import Derived.Test.YtdpgdelimffjpaaK20a
import Derived.Test.YtdpgdelimffjpaaK20b
namespace Go.Proofs.Ytdpgdelimffjpaa.P
open Go.RowKit Go.Proofs.YtdpgdelimffjpaaW.PrintWords Go.Proofs.YtdpgdelimffjpaaW.PrintLast Go.Proofs.YtdpgdelimffjpaaW.PrintMore
attribute [local go_sem] max2_int min2_int max_two min_two max_three min_three max_four min_four   -- for this text's walks alone
set_option linter.unusedVariables false
set_option linter.unusedSimpArgs false

/-! ### pylonref14_Rises: function 75 -/
def pylonref14_Rises.l0 : Nat → List Int → Int → Option (Bool)
 | 0, _, _ => none
 | k + 1, x0, x3 => if x3 < (x0.length : Int) then (if 0 ≤ x3 then (if (rd x0 x3) < 0 then (some false) else (if x3 > 0 then (if 0 ≤ (wrap64 (x3 - 1)) then (if (wrap64 (x3 - 1)) < (x0.length : Int) then (if (rd x0 x3) ≤ (rd x0 (wrap64 (x3 - 1))) then (some false) else (pylonref14_Rises.l0 k x0 (wrap64 (x3 + 1)))) else (none)) else (none)) else (pylonref14_Rises.l0 k x0 (wrap64 (x3 + 1))))) else (none)) else (some true)
def pylonref14_Rises.f (k : Nat) (l0 : List Int) : Option (Bool) := pylonref14_Rises.l0 k l0 0
set_option maxHeartbeats 8000000 in
set_option maxRecDepth 100000 in
theorem pylonref14_Rises.calls (k : Nat) (A0 : Option Addr) (c0 : Nat) (l0 : List Int) (r : Bool) (w : World) (hr0 : Kd.C (Kd.int .i64) w A0 l0.length l0) (hc0 : l0.length ≤ c0) (h : pylonref14_Rises.f k l0 = some r) :
  Calls Try.prog 75 #[.slice A0 l0.length c0] w fun e w' => e = .returned (.bool r) ∧ Drawn0 w w' := by
 have HR0 := Aside0.mk hr0
 have HC0 := Aside0.mk hc0
 clear hr0 hc0
 have H : (pylonref14_Rises.l0 k l0 0) = some r := h
 clear h
 have H' := Aside0.mk H
 clear H
 go_enter Try.func75, Try.ntmps75
 go_wp2
 repeat (go_quiet (fail); try go_wp2)
 go_loopg [3] k (fun kq v3 w' => ∃ (x3_1 : Int), v3 = .int .i64 x3_1 ∧ Aside0 (pylonref14_Rises.l0 kq l0 x3_1 = some r) ∧ Aside0 (kq ≤ k) ∧ Drawn0 w w')
 case atStart => exact ⟨(0), (by first | rfl | (simp; done) | (simp [*]; done)), H', ⟨Nat.le_refl _⟩, by repeat (first | exact Drawn0.refl _ | apply Drawn0.step)⟩
 case round =>
  clear H'
  obtain ⟨x3_1, rfl, HA, HK1, ⟨m1, rfl⟩⟩ := hrel
  cases gk with
  | zero => exact absurd HA.out (by simp [pylonref14_Rises.l0])
  | succ k1 =>
   have H := HA.out
   clear HA
   simp only [pylonref14_Rises.l0] at H
   by_cases c2 : x3_1 < (l0.length : Int)
   ·rw [if_pos c2] at H
    have c2b0 : decide (x3_1 < (l0.length : Int)) = true := decide_eq_true c2
    clear c2
    by_cases c3 : 0 ≤ x3_1
    ·rw [if_pos c3] at H
     have c3b0 : decide (0 ≤ x3_1) = true := decide_eq_true c3
     clear c3
     by_cases c4 : (rd l0 x3_1) < 0
     ·rw [if_pos c4] at H
      have c4b0 : decide ((rd l0 x3_1) < 0) = true := decide_eq_true c4
      clear c4
      obtain rfl := Option.some.inj H
      have p1196 : 0 ≤ (x3_1 : Int) := of_decide_eq_true (by first | (with_reducible assumption) | assumption)
      have q1196 : x3_1 < (l0.length : Int) := of_decide_eq_true (by first | (with_reducible assumption) | assumption)
      obtain ⟨ad1196, e1196, hx1196_0⟩ := Kd.at_int HR0.out x3_1 p1196 q1196
      cases e1196
      replace p1196 := eq_true p1196
      replace q1196 := eq_true q1196
      go_wp2
      repeat (go_quiet (fail); try go_wp2)
      go_ret
      exact ⟨by first | rfl | (simp; done) | (simp [*]; done), by repeat (first | exact Drawn0.refl _ | apply Drawn0.step)⟩
     ·rw [if_neg c4] at H
      have c4b0 : decide ((rd l0 x3_1) < 0) = false := decide_eq_false c4
      clear c4
      by_cases c5 : x3_1 > 0
      ·rw [if_pos c5] at H
       have c5b0 : decide (0 < x3_1) = true := decide_eq_true c5
       clear c5
       obtain ⟨ji6, hji6⟩ : ∃ j_ : Int, (wrap64 (x3_1 - 1)) = j_ := ⟨_, rfl⟩
       replace H : (if 0 ≤ (ji6) then (if (ji6) < (l0.length : Int) then (if (rd l0 x3_1) ≤ (rd l0 (ji6)) then (some false) else (pylonref14_Rises.l0 k1 l0 (wrap64 (x3_1 + 1)))) else (none)) else (none)) = some r := by first | (rw [hji6] at H; exact H) | (simp only [hji6] at H ⊢; exact H)
       have hji6w : (IntKind.i64.wrap (x3_1 - 1)) = ji6 := (i64_w _).trans hji6
       by_cases c7 : 0 ≤ (ji6)
       ·rw [if_pos c7] at H
        have c7b0 : decide (0 ≤ (ji6)) = true := decide_eq_true c7
        clear c7
        by_cases c8 : (ji6) < (l0.length : Int)
        ·rw [if_pos c8] at H
         have c8b0 : decide ((ji6) < (l0.length : Int)) = true := decide_eq_true c8
         clear c8
         by_cases c9 : (rd l0 x3_1) ≤ (rd l0 (ji6))
         ·rw [if_pos c9] at H
          have c9b0 : decide ((rd l0 x3_1) ≤ (rd l0 (ji6))) = true := decide_eq_true c9
          clear c9
          obtain rfl := Option.some.inj H
          have p1196 : 0 ≤ (x3_1 : Int) := of_decide_eq_true (by first | (with_reducible assumption) | assumption)
          have q1196 : x3_1 < (l0.length : Int) := of_decide_eq_true (by first | (with_reducible assumption) | assumption)
          obtain ⟨ad1196, e1196, hx1196_0⟩ := Kd.at_int HR0.out x3_1 p1196 q1196
          cases e1196
          replace p1196 := eq_true p1196
          replace q1196 := eq_true q1196
          have p1197 : 0 ≤ (x3_1 : Int) := of_decide_eq_true (by first | (with_reducible assumption) | assumption)
          have q1197 : x3_1 < (l0.length : Int) := of_decide_eq_true (by first | (with_reducible assumption) | assumption)
          obtain ⟨ad1197, e1197, hx1197_0⟩ := Kd.at_int HR0.out x3_1 p1197 q1197
          obtain rfl : ad1196 = ad1197 := (by injection e1197)
          replace p1197 := eq_true p1197
          replace q1197 := eq_true q1197
          have p1198 : 0 ≤ ((ji6) : Int) := of_decide_eq_true (by first | (with_reducible assumption) | assumption)
          have q1198 : (ji6) < (l0.length : Int) := of_decide_eq_true (by first | (with_reducible assumption) | assumption)
          obtain ⟨ad1198, e1198, hx1198_0⟩ := Kd.at_int HR0.out (ji6) p1198 q1198
          obtain rfl : ad1196 = ad1198 := (by injection e1198)
          replace p1198 := eq_true p1198
          replace q1198 := eq_true q1198
          go_wp2
          repeat (go_quiet (fail); try go_wp2)
          go_ret
          exact ⟨by first | rfl | (simp; done) | (simp only [← hji6] <;> (first | rfl | simp)) | (simp [*]; done), by repeat (first | exact Drawn0.refl _ | apply Drawn0.step)⟩
         ·rw [if_neg c9] at H
          have c9b0 : decide ((rd l0 x3_1) ≤ (rd l0 (ji6))) = false := decide_eq_false c9
          clear c9
          have H' := Aside0.mk H
          clear H
          have p1196 : 0 ≤ (x3_1 : Int) := of_decide_eq_true (by first | (with_reducible assumption) | assumption)
          have q1196 : x3_1 < (l0.length : Int) := of_decide_eq_true (by first | (with_reducible assumption) | assumption)
          obtain ⟨ad1196, e1196, hx1196_0⟩ := Kd.at_int HR0.out x3_1 p1196 q1196
          cases e1196
          replace p1196 := eq_true p1196
          replace q1196 := eq_true q1196
          have p1197 : 0 ≤ (x3_1 : Int) := of_decide_eq_true (by first | (with_reducible assumption) | assumption)
          have q1197 : x3_1 < (l0.length : Int) := of_decide_eq_true (by first | (with_reducible assumption) | assumption)
          obtain ⟨ad1197, e1197, hx1197_0⟩ := Kd.at_int HR0.out x3_1 p1197 q1197
          obtain rfl : ad1196 = ad1197 := (by injection e1197)
          replace p1197 := eq_true p1197
          replace q1197 := eq_true q1197
          have p1198 : 0 ≤ ((ji6) : Int) := of_decide_eq_true (by first | (with_reducible assumption) | assumption)
          have q1198 : (ji6) < (l0.length : Int) := of_decide_eq_true (by first | (with_reducible assumption) | assumption)
          obtain ⟨ad1198, e1198, hx1198_0⟩ := Kd.at_int HR0.out (ji6) p1198 q1198
          obtain rfl : ad1196 = ad1198 := (by injection e1198)
          replace p1198 := eq_true p1198
          replace q1198 := eq_true q1198
          go_wp2
          repeat (go_quiet (fail); try go_wp2)
          go_roundg k1
          case measure => have := HK1.out; omega
          case rel => exact ⟨(wrap64 (x3_1 + 1)), (by first | rfl | (simp; done) | (simp [*]; done)), H', ⟨by have := HK1.out; omega⟩, by repeat (first | exact Drawn0.refl _ | apply Drawn0.step)⟩
        ·rw [if_neg c8] at H
         exact absurd H (by simp)
       ·rw [if_neg c7] at H
        exact absurd H (by simp)
      ·rw [if_neg c5] at H
       have c5b0 : decide (0 < x3_1) = false := decide_eq_false c5
       clear c5
       have H' := Aside0.mk H
       clear H
       have p1196 : 0 ≤ (x3_1 : Int) := of_decide_eq_true (by first | (with_reducible assumption) | assumption)
       have q1196 : x3_1 < (l0.length : Int) := of_decide_eq_true (by first | (with_reducible assumption) | assumption)
       obtain ⟨ad1196, e1196, hx1196_0⟩ := Kd.at_int HR0.out x3_1 p1196 q1196
       cases e1196
       replace p1196 := eq_true p1196
       replace q1196 := eq_true q1196
       go_wp2
       repeat (go_quiet (fail); try go_wp2)
       go_roundg k1
       case measure => have := HK1.out; omega
       case rel => exact ⟨(wrap64 (x3_1 + 1)), (by first | rfl | (simp; done) | (simp [*]; done)), H', ⟨by have := HK1.out; omega⟩, by repeat (first | exact Drawn0.refl _ | apply Drawn0.step)⟩
    ·rw [if_neg c3] at H
     exact absurd H (by simp)
   ·rw [if_neg c2] at H
    have c2b0 : decide (x3_1 < (l0.length : Int)) = false := decide_eq_false c2
    clear c2
    obtain rfl := Option.some.inj H
    go_wp2
    repeat (go_quiet (fail); try go_wp2)
    go_ret
    exact ⟨by first | rfl | (simp; done) | (simp [*]; done), by repeat (first | exact Drawn0.refl _ | apply Drawn0.step)⟩

end Go.Proofs.Ytdpgdelimffjpaa.P

namespace Go.Proofs.Ytdpgdelimffjpaa.P
open Go.RowKit Go.Proofs.YtdpgdelimffjpaaW.PrintWords Go.Proofs.YtdpgdelimffjpaaW.PrintLast Go.Proofs.YtdpgdelimffjpaaW.PrintMore
attribute [local go_sem] max2_int min2_int max_two min_two max_three min_three max_four min_four   -- for this text's walks alone
set_option linter.unusedVariables false
set_option linter.unusedSimpArgs false

/-! ### pylonref14_Both: function 76 -/
mutual
def pylonref14_Both.l0 : Nat → List Int → List Int → List Int → Option (List Int)
 | 0, _, _, _ => none
 | k + 1, x0, x1, x5 => if (wrap64 ((x0.length : Int) + (x1.length : Int))) > 0 then (if (x1.length : Int) = 0 then (pylonref14_Both.j1 k x0 x1 x5 true) else (if (x0.length : Int) > 0 then (if 0 < (x0.length : Int) then (if 0 < (x1.length : Int) then (pylonref14_Both.j1 k x0 x1 x5 (decide ((rd x0 0) < (rd x1 0)))) else (none)) else (none)) else (pylonref14_Both.j1 k x0 x1 x5 false))) else (some x5)
def pylonref14_Both.j1 : Nat → List Int → List Int → List Int → Bool → Option (List Int)
 | 0, _, _, _, _ => none
 | k + 1, x0, x1, x5, x22 => if x22 = true then (if 0 < (x0.length : Int) then (if x5.length < 17592186044416 then (if 1 ≤ (x0.length : Int) then (pylonref14_Both.l0 k (x0.drop 1) x1 (x5 ++ [rd x0 0])) else (none)) else (none)) else (none)) else (if (x0.length : Int) = 0 then (if 0 < (x1.length : Int) then (if x5.length < 17592186044416 then (if 1 ≤ (x1.length : Int) then (pylonref14_Both.l0 k x0 (x1.drop 1) (x5 ++ [rd x1 0])) else (none)) else (none)) else (none)) else (if 0 < (x1.length : Int) then (if 0 < (x0.length : Int) then (if (rd x1 0) < (rd x0 0) then (if x5.length < 17592186044416 then (if 1 ≤ (x1.length : Int) then (pylonref14_Both.l0 k x0 (x1.drop 1) (x5 ++ [rd x1 0])) else (none)) else (none)) else (if x5.length < 17592186044416 then (if 1 ≤ (x0.length : Int) then (if 1 ≤ (x1.length : Int) then (pylonref14_Both.l0 k (x0.drop 1) (x1.drop 1) (x5 ++ [rd x0 0])) else (none)) else (none)) else (none))) else (none)) else (none)))
end
def pylonref14_Both.f (k : Nat) (l0 : List Int) (l1 : List Int) : Option (List Int) := pylonref14_Both.l0 k l0 l1 ([] : List Int)
set_option maxHeartbeats 8000000 in
set_option maxRecDepth 100000 in
theorem pylonref14_Both.calls (k : Nat) (P0_ : Nat → Prop) (A0 : Option Addr) (c0 : Nat) (l0 : List Int) (P1_ : Nat → Prop) (A1 : Option Addr) (c1 : Nat) (l1 : List Int) (r : List Int) (w : World) (hs0 : Kd.V (Kd.int .i64) 3 w w.heap.size (fun k_ => P0_ k_) (.slice A0 l0.length c0) l0) (hs1 : Kd.V (Kd.int .i64) 3 w w.heap.size (fun k_ => P1_ k_) (.slice A1 l1.length c1) l1) (h : pylonref14_Both.f k l0 l1 = some r) :
  Calls Try.prog 76 #[.slice A0 l0.length c0, .slice A1 l1.length c1] w fun e w' => ∃ v0_ : Value, e = .returned (v0_) ∧ Kd.R (Kd.int .i64) 3 w' w.heap.size (fun k_ => (w.heap.size ≤ k_)) v0_ r ∧ Below w.heap.size w w' := by
 have HO0 := Aside0.mk (show Kd.V (Kd.int .i64) 3 w w.heap.size (fun k_ => ((P0_ k_ ∨ P1_ k_) ∨ w.heap.size ≤ k_)) (.slice A0 l0.length c0) l0 from Kd.V_mono hs0 (fun k_ hk => .inl (.inl hk)))
 have HO1 := Aside0.mk (show Kd.V (Kd.int .i64) 3 w w.heap.size (fun k_ => ((P0_ k_ ∨ P1_ k_) ∨ w.heap.size ≤ k_)) (.slice A1 l1.length c1) l1 from Kd.V_mono hs1 (fun k_ hk => .inl (.inr hk)))
 have HB := Aside0.mk (Below.refl w.heap.size w)
 have H : (pylonref14_Both.l0 k l0 l1 ([] : List Int)) = some r := h
 clear h
 have H' := Aside0.mk H
 clear H
 go_enter Try.func76, Try.ntmps76
 go_wp2
 repeat (go_quiet (fail); try go_wp2)
 go_loopg [0, 1, 5] k (fun kq v0 v1 v5 w' => ∃ (x0_1 : List Int) (x1_1 : List Int) (x5_1 : List Int), Aside0 (pylonref14_Both.l0 kq x0_1 x1_1 x5_1 = some r) ∧ Aside0 (kq ≤ k) ∧ Aside0 (Kd.V (Kd.int .i64) 3 w' w.heap.size (fun k_ => ((P0_ k_ ∨ P1_ k_) ∨ w.heap.size ≤ k_) ∧ some k_ ≠ (v5 : Value).ownBlock) v0 x0_1) ∧ Aside0 (Kd.V (Kd.int .i64) 3 w' w.heap.size (fun k_ => ((P0_ k_ ∨ P1_ k_) ∨ w.heap.size ≤ k_) ∧ some k_ ≠ (v5 : Value).ownBlock) v1 x1_1) ∧ Aside0 (Kd.R (Kd.int .i64) 3 w' w.heap.size (fun k_ => (w.heap.size ≤ k_)) v5 x5_1) ∧ Aside0 (Below w.heap.size w w'))
 case atStart => exact ⟨(l0), (l1), (([] : List Int)), H', ⟨Nat.le_refl _⟩, ⟨by (with_reducible repeat (first | apply Kd.V_alloc | apply Kd.V_drewN | apply Kd.V_drew)); exact Kd.V_mono HO0.out (fun _ hk => ⟨hk, (by simp [Value.ownBlock])⟩)⟩, ⟨by (with_reducible repeat (first | apply Kd.V_alloc | apply Kd.V_drewN | apply Kd.V_drew)); exact Kd.V_mono HO1.out (fun _ hk => ⟨hk, (by simp [Value.ownBlock])⟩)⟩, ⟨by first | exact Kd.R_nil _ _ _ _ _ | exact Kd.N_nil _ _ _ _ _ | exact Kd.V_nil _ _ _ _ _ | exact Kd.Q_nil _ _ _ _ _ | exact Kd.S_nil _ _ _ _ _⟩, ⟨by repeat (first | (with_reducible first | exact HB.out | apply below_alloc | apply pw_below_drewN | apply below_drew1) | exact HB.out)⟩⟩
 case round =>
  clear H'; (try clear c1); (try clear p2)
  obtain ⟨x0_1, x1_1, x5_1, HA, HK1, HO_0, HO_1, HO_5, HB⟩ := hrel
  cases gk with
  | zero => exact absurd HA.out (by simp [pylonref14_Both.l0])
  | succ k1 =>
   have H := HA.out
   clear HA
   simp only [pylonref14_Both.l0] at H
   by_cases c3 : (wrap64 ((x0_1.length : Int) + (x1_1.length : Int))) > 0
   ·rw [if_pos c3] at H
    have c3b0 : decide (0 < (wrap64 ((x0_1.length : Int) + (x1_1.length : Int)))) = true := decide_eq_true c3
    clear c3
    have HC4 := Aside0.mk H
    clear H
    obtain ⟨Ao5, co5, eo5⟩ := Kd.V_slice HO_0.out
    subst eo5
    obtain ⟨Ao6, co6, eo6⟩ := Kd.V_slice HO_1.out
    subst eo6
    go_upto_region 6 with (fail)
    repeat (go_quiet (fail); go_upto_region 6 with (fail))
    go_cut [22] (fun v22 wc => ∃ (kq : Nat) (x22_3 : Bool), v22 = .bool x22_3 ∧ Aside0 (pylonref14_Both.j1 kq x0_1 x1_1 x5_1 x22_3 = some r) ∧ Aside0 (kq ≤ k1) ∧ Aside0 (Kd.V (Kd.int .i64) 3 wc w.heap.size (fun k_ => ((P0_ k_ ∨ P1_ k_) ∨ w.heap.size ≤ k_) ∧ some k_ ≠ (u5 : Value).ownBlock) (.slice Ao5 x0_1.length co5) x0_1) ∧ Aside0 (Kd.V (Kd.int .i64) 3 wc w.heap.size (fun k_ => ((P0_ k_ ∨ P1_ k_) ∨ w.heap.size ≤ k_) ∧ some k_ ≠ (u5 : Value).ownBlock) (.slice Ao6 x1_1.length co6) x1_1) ∧ Aside0 (Kd.R (Kd.int .i64) 3 wc w.heap.size (fun k_ => (w.heap.size ≤ k_)) u5 x5_1) ∧ Aside0 (Below w.heap.size w wc))
    case first =>
     have H := HC4.out
     clear HC4
     by_cases c7 : (x1_1.length : Int) = 0
     ·rw [if_pos c7] at H
      have c7b0 : ((x1_1.length : Int) == 0) = true := beq_iff_eq.mpr c7
      have c7b1 : ((x1_1.length : Int) != 0) = false := bne_eq_false_iff_eq.mpr c7
      clear c7
      (first | rw [c7b0] | (simp only [i64_w, i32_w]; rw [c7b0]) | skip)
      have H' := Aside0.mk H
      clear H
      go_wp2
      repeat (go_quiet (fail); try go_wp2)
      go_meet
      case rel => exact ⟨_, (true), (by first | rfl | (simp; done) | (simp [*]; done)), H', ⟨by have := HK1.out; first | omega | exact Nat.le_refl _⟩, ⟨by (with_reducible repeat (first | apply Kd.V_alloc | apply Kd.V_drewN | apply Kd.V_drew)); exact HO_0.out⟩, ⟨by (with_reducible repeat (first | apply Kd.V_alloc | apply Kd.V_drewN | apply Kd.V_drew)); exact HO_1.out⟩, ⟨by (with_reducible repeat (first | apply Kd.R_alloc | apply Kd.R_drewN | apply Kd.R_drew)); exact HO_5.out⟩, ⟨by repeat (first | (with_reducible first | exact HB.out | apply below_alloc | apply pw_below_drewN | apply below_drew1) | exact HB.out)⟩⟩
     ·rw [if_neg c7] at H
      have c7b0 : ((x1_1.length : Int) == 0) = false := beq_eq_false_iff_ne.mpr c7
      have c7b1 : ((x1_1.length : Int) != 0) = true := bne_iff_ne.mpr c7
      have c7b2 : ¬ (x1_1 = []) := fun h_ => c7 (by rw [h_]; rfl)
      (first | rw [c7b0] | (simp only [i64_w, i32_w]; rw [c7b0]) | skip)
      by_cases c8 : (x0_1.length : Int) > 0
      ·rw [if_pos c8] at H
       have c8b0 : decide (0 < (x0_1.length : Int)) = true := decide_eq_true c8
       have c8b1 : decide (0 < x0_1.length) = true := decide_eq_true (by omega)
       clear c8
       by_cases c9 : 0 < (x0_1.length : Int)
       ·rw [if_pos c9] at H
        have c9b0 : decide (0 < (x0_1.length : Int)) = true := decide_eq_true c9
        have c9b1 : decide (0 < x0_1.length) = true := decide_eq_true (by omega)
        clear c9
        by_cases c10 : 0 < (x1_1.length : Int)
        ·rw [if_pos c10] at H
         have c10b0 : decide (0 < (x1_1.length : Int)) = true := decide_eq_true c10
         have c10b1 : decide (0 < x1_1.length) = true := decide_eq_true (by omega)
         clear c10
         have H' := Aside0.mk H
         clear H
         have p1199 : 0 ≤ (0 : Int) := (by omega)
         have q1199 : 0 < (x0_1.length : Int) := of_decide_eq_true (by first | (with_reducible assumption) | assumption)
         obtain ⟨ad1199, e1199, hx1199_0⟩ := Kd.at_int (Kd.V_reads' HO_0.out).2.2 0 p1199 q1199
         cases e1199
         have qi1199 : (0 < x0_1.length) = True := eq_true (by omega)
         (try rw [show ((0 : Int)).toNat = 0 from rfl] at hx1199_0)
         (try rw [Addr.add_zero'] at hx1199_0)
         replace p1199 := eq_true p1199
         replace q1199 := eq_true q1199
         have p1200 : 0 ≤ (0 : Int) := (by omega)
         have q1200 : 0 < (x1_1.length : Int) := of_decide_eq_true (by first | (with_reducible assumption) | assumption)
         obtain ⟨ad1200, e1200, hx1200_0⟩ := Kd.at_int (Kd.V_reads' HO_1.out).2.2 0 p1200 q1200
         cases e1200
         have qi1200 : (0 < x1_1.length) = True := eq_true (by omega)
         (try rw [show ((0 : Int)).toNat = 0 from rfl] at hx1200_0)
         (try rw [Addr.add_zero'] at hx1200_0)
         replace p1200 := eq_true p1200
         replace q1200 := eq_true q1200
         go_wp2
         repeat (go_quiet (fail); try go_wp2)
         go_meet
         case rel => exact ⟨_, (decide ((rd x0_1 0) < (rd x1_1 0))), (by first | rfl | (simp; done) | (simp [*]; done)), H', ⟨by have := HK1.out; first | omega | exact Nat.le_refl _⟩, ⟨by (with_reducible repeat (first | apply Kd.V_alloc | apply Kd.V_drewN | apply Kd.V_drew)); exact HO_0.out⟩, ⟨by (with_reducible repeat (first | apply Kd.V_alloc | apply Kd.V_drewN | apply Kd.V_drew)); exact HO_1.out⟩, ⟨by (with_reducible repeat (first | apply Kd.R_alloc | apply Kd.R_drewN | apply Kd.R_drew)); exact HO_5.out⟩, ⟨by repeat (first | (with_reducible first | exact HB.out | apply below_alloc | apply pw_below_drewN | apply below_drew1) | exact HB.out)⟩⟩
        ·rw [if_neg c10] at H
         exact absurd H (by simp)
       ·rw [if_neg c9] at H
        exact absurd H (by simp)
      ·rw [if_neg c8] at H
       have c8b0 : decide (0 < (x0_1.length : Int)) = false := decide_eq_false c8
       have c8b1 : decide (0 < x0_1.length) = false := decide_eq_false (by omega)
       clear c8
       have H' := Aside0.mk H
       clear H
       go_wp2
       repeat (go_quiet (fail); try go_wp2)
       go_meet
       case rel => exact ⟨_, (false), (by first | rfl | (simp; done) | (simp [*]; done)), H', ⟨by have := HK1.out; first | omega | exact Nat.le_refl _⟩, ⟨by (with_reducible repeat (first | apply Kd.V_alloc | apply Kd.V_drewN | apply Kd.V_drew)); exact HO_0.out⟩, ⟨by (with_reducible repeat (first | apply Kd.V_alloc | apply Kd.V_drewN | apply Kd.V_drew)); exact HO_1.out⟩, ⟨by (with_reducible repeat (first | apply Kd.R_alloc | apply Kd.R_drewN | apply Kd.R_drew)); exact HO_5.out⟩, ⟨by repeat (first | (with_reducible first | exact HB.out | apply below_alloc | apply pw_below_drewN | apply below_drew1) | exact HB.out)⟩⟩
    case rest =>
     clear HC4; (try clear c1); (try clear p1); (try clear q1); (try clear hx1); (try clear qi1); (try clear p2); (try clear c3); (try clear c3b0); (try clear p6); (try clear c7); (try clear c7b0); (try clear c7b1); (try clear c7b2); (try clear c8); (try clear c8b0); (try clear c8b1); (try clear c9); (try clear c9b0); (try clear c9b1); (try clear c10); (try clear c10b0); (try clear c10b1); (try clear hx1199_0); (try clear hx1200_0); (try clear p1199); (try clear p1200); (try clear p2); (try clear q1199); (try clear q1200)
     obtain ⟨kq, x22_3, rfl, HA, HJ3, HO_0, HO_1, HO_5, HB⟩ := hcut
     cases kq with
     | zero => exact absurd HA.out (by simp [pylonref14_Both.j1])
     | succ kj3 =>
      have H := HA.out
      clear HA
      simp only [pylonref14_Both.j1] at H
      by_cases c11 : x22_3 = true
      ·subst c11
       have H1 : (if 0 < (x0_1.length : Int) then (if x5_1.length < 17592186044416 then (if 1 ≤ (x0_1.length : Int) then (pylonref14_Both.l0 kj3 (x0_1.drop 1) x1_1 (x5_1 ++ [rd x0_1 0])) else (none)) else (none)) else (none)) = some r := by rw [if_pos rfl] at H; exact H
       clear H
       have H := H1
       clear H1
       by_cases c12 : 0 < (x0_1.length : Int)
       ·rw [if_pos c12] at H
        have c12b0 : decide (0 < (x0_1.length : Int)) = true := decide_eq_true c12
        have c12b1 : decide (0 < x0_1.length) = true := decide_eq_true (by omega)
        clear c12
        by_cases c13 : x5_1.length < 17592186044416
        ·rw [if_pos c13] at H
         have LMc13 := Aside0.mk c13
         clear c13
         obtain ⟨y1202, hy1202⟩ : ∃ y_ : List Int, y_ = (x5_1 ++ [rd x0_1 0]) := ⟨_, rfl⟩
         replace H : (if 1 ≤ (x0_1.length : Int) then (pylonref14_Both.l0 kj3 (x0_1.drop 1) x1_1 y1202) else (none)) = some r := by first | (rw [hy1202]; with_reducible exact H) | (have H2_ := (Option.bind_some _ _).symm.trans H; rw [hy1202]; with_reducible exact H2_) | (have H2_ := (Option.bind_some _ _).symm.trans H; with_reducible exact H2_) | with_reducible exact H | (rw [hy1202]; exact H) | exact H
         have Ny1202 := Aside0.mk hy1202
         clear hy1202
         by_cases c14 : 1 ≤ (x0_1.length : Int)
         ·rw [if_pos c14] at H
          have c14b0 := eq_true c14
          have c14b1 : decide (1 ≤ (x0_1.length : Int)) = true := decide_eq_true c14
          clear c14
          obtain ⟨y1205, hy1205⟩ : ∃ y_ : List Int, y_ = (x0_1.drop 1) := ⟨_, rfl⟩
          replace H : (pylonref14_Both.l0 kj3 y1205 x1_1 y1202) = some r := by first | (rw [hy1205]; with_reducible exact H) | (have H2_ := (Option.bind_some _ _).symm.trans H; rw [hy1205]; with_reducible exact H2_) | (have H2_ := (Option.bind_some _ _).symm.trans H; with_reducible exact H2_) | with_reducible exact H | (rw [hy1205]; exact H) | exact H
          have Ny1205 := Aside0.mk hy1205
          clear hy1205
          have H' := Aside0.mk H
          clear H
          have p1201 : 0 ≤ (0 : Int) := (by omega)
          have q1201 : 0 < (x0_1.length : Int) := of_decide_eq_true (by first | (with_reducible assumption) | assumption)
          obtain ⟨ad1201, e1201, hx1201_0⟩ := Kd.at_int (Kd.V_reads' HO_0.out).2.2 0 p1201 q1201
          cases e1201
          have qi1201 : (0 < x0_1.length) = True := eq_true (by omega)
          (try rw [show ((0 : Int)).toNat = 0 from rfl] at hx1201_0)
          (try rw [Addr.add_zero'] at hx1201_0)
          replace p1201 := eq_true p1201
          replace q1201 := eq_true q1201
          go_wp2_with (first | ((with_reducible refine gate_builtin (b := .append) (xs := #[.tmp 40, .tmp 44]) rfl ?_); (try (refine gate_guard (by rfl) ?_; dsimp only)); at_builtin; refine Kd.R_append (Kd.int .i64) (w0 := w) w.heap.size rfl (.tmp 40) (.tmp 44) 25 3 (.int .i64 0) 8 rfl Try.underlying25 info3 rfl (by decide) (by omega) u5 x5_1 (rd x0_1 0) [.int .i64 (rd x0_1 0)] (fun k_ => (w.heap.size ≤ k_)) (fun _ => False) rfl rfl ?aP (fun _ hk => hk.elim) ?aF ?aO ?aB ?aS ?aL ?_; (case aP => exact rfl); (case aB => exact (by repeat (first | (with_reducible first | exact HB.out | apply below_alloc | apply pw_below_drewN | apply below_drew1) | exact HB.out))); (case aF => exact (fun k_ hk => (Nat.le_trans (below_size (by repeat (first | (with_reducible first | exact HB.out | apply below_alloc | apply pw_below_drewN | apply below_drew1) | exact HB.out))) hk))); (case aO => exact (by (with_reducible repeat (first | apply Kd.R_alloc | apply Kd.R_drewN | apply Kd.R_drew)); exact HO_5.out)); (case aS => exact (below_size (by repeat (first | (with_reducible first | exact HB.out | apply below_alloc | apply pw_below_drewN | apply below_drew1) | exact HB.out)))); (case aL => have := LMc13.out; omega); intro v1203 w15 ho hb hg hat; rw [← Ny1202.out] at ho; have n0_ := Aside0.mk (Kd.V_afterv (ok := (fun k_ => ((P0_ k_ ∨ P1_ k_) ∨ w.heap.size ≤ k_))) (by (with_reducible repeat (first | apply Kd.V_alloc | apply Kd.V_drewN | apply Kd.V_drew)); exact HO_0.out) hg hat); have n1_ := Aside0.mk (Kd.V_afterv (ok := (fun k_ => ((P0_ k_ ∨ P1_ k_) ∨ w.heap.size ≤ k_))) (by (with_reducible repeat (first | apply Kd.V_alloc | apply Kd.V_drewN | apply Kd.V_drew)); exact HO_1.out) hg hat); have n2_ := Aside0.mk (hb); have n3_ := Aside0.mk (ho); clear HO_0; clear HO_1; clear HB; clear HO_5; have HO_0 := n0_; have HO_1 := n1_; have HB := n2_; have HO1204 := n3_; clear n0_ n1_ n2_ n3_; clear ho hb hg hat; have q16 : (1 : Int) ≤ ((x0_1.length : Int) : Int) := of_decide_eq_true (by first | (with_reducible assumption) | assumption); obtain ⟨i016, hi016, _, hsz16, _⟩ := info_parts info3; have hroom16 : x0_1.length ≤ co5 := (Kd.V_reads' HO_0.out).2.1; have hC16 : Kd.F (Kd.int .i64) _ _ (some ad1201) x0_1.length x0_1 := (Kd.V_at (base := w.heap.size) HO_0.out).2.2; have hcut16 := cut_from (P := Try.prog) 25 3 .i64 Try.underlying25 hi016 1 hsz16 (some ad1201) x0_1.length co5 1 (by omega) q16; have hr16 := Kd.F_cut (m := (1 : Int).toNat) (c := co5) hC16 (by omega) hroom16; obtain ⟨A16, hA16⟩ : ∃ A1, A1 = (if co5 = (1 : Int).toNat then (some ad1201) else ((some ad1201) : Option Addr).map (·.add ((1 : Int).toNat * 1))) := ⟨_, rfl⟩; obtain ⟨c16, hc16⟩ : ∃ c1, c1 = co5 - (1 : Int).toNat := ⟨_, rfl⟩; have hy16 : y1205.length = x0_1.length - (1 : Int).toNat := (by rw [Ny1205.out, List.length_drop] <;> omega); rw [show (x0_1).drop (1 : Int).toNat = y1205 from Ny1205.out.symm] at hr16; replace hr16 : Kd.F (Kd.int .i64) _ _ A16 y1205.length y1205 := (by rw [hA16]; exact hr16); rw [← hy16, ← hA16, ← hc16] at hcut16; have HO1209 := Aside0.mk (show Kd.V (Kd.int .i64) 3 _ w.heap.size _ (.slice A16 y1205.length c16) y1205 from Kd.V_mk (by rw [hy16, hc16]; exact Nat.sub_le_sub_right hroom16 _) hr16); have HC1209 := Aside0.mk (show y1205.length ≤ c16 from by rw [hy16, hc16]; exact Nat.sub_le_sub_right hroom16 _); clear hr16 hC16 hroom16 hi016 hsz16 hc16; have KY16 := Aside0.mk hy16; have KA16 := Aside0.mk hA16; clear hy16 hA16; replace q16 := eq_true q16))
          repeat (go_quiet (first | ((with_reducible refine gate_builtin (b := .append) (xs := #[.tmp 40, .tmp 44]) rfl ?_); (try (refine gate_guard (by rfl) ?_; dsimp only)); at_builtin; refine Kd.R_append (Kd.int .i64) (w0 := w) w.heap.size rfl (.tmp 40) (.tmp 44) 25 3 (.int .i64 0) 8 rfl Try.underlying25 info3 rfl (by decide) (by omega) u5 x5_1 (rd x0_1 0) [.int .i64 (rd x0_1 0)] (fun k_ => (w.heap.size ≤ k_)) (fun _ => False) rfl rfl ?aP (fun _ hk => hk.elim) ?aF ?aO ?aB ?aS ?aL ?_; (case aP => exact rfl); (case aB => exact (by repeat (first | (with_reducible first | exact HB.out | apply below_alloc | apply pw_below_drewN | apply below_drew1) | exact HB.out))); (case aF => exact (fun k_ hk => (Nat.le_trans (below_size (by repeat (first | (with_reducible first | exact HB.out | apply below_alloc | apply pw_below_drewN | apply below_drew1) | exact HB.out))) hk))); (case aO => exact (by (with_reducible repeat (first | apply Kd.R_alloc | apply Kd.R_drewN | apply Kd.R_drew)); exact HO_5.out)); (case aS => exact (below_size (by repeat (first | (with_reducible first | exact HB.out | apply below_alloc | apply pw_below_drewN | apply below_drew1) | exact HB.out)))); (case aL => have := LMc13.out; omega); intro v1203 w15 ho hb hg hat; rw [← Ny1202.out] at ho; have n0_ := Aside0.mk (Kd.V_afterv (ok := (fun k_ => ((P0_ k_ ∨ P1_ k_) ∨ w.heap.size ≤ k_))) (by (with_reducible repeat (first | apply Kd.V_alloc | apply Kd.V_drewN | apply Kd.V_drew)); exact HO_0.out) hg hat); have n1_ := Aside0.mk (Kd.V_afterv (ok := (fun k_ => ((P0_ k_ ∨ P1_ k_) ∨ w.heap.size ≤ k_))) (by (with_reducible repeat (first | apply Kd.V_alloc | apply Kd.V_drewN | apply Kd.V_drew)); exact HO_1.out) hg hat); have n2_ := Aside0.mk (hb); have n3_ := Aside0.mk (ho); clear HO_0; clear HO_1; clear HB; clear HO_5; have HO_0 := n0_; have HO_1 := n1_; have HB := n2_; have HO1204 := n3_; clear n0_ n1_ n2_ n3_; clear ho hb hg hat; have q16 : (1 : Int) ≤ ((x0_1.length : Int) : Int) := of_decide_eq_true (by first | (with_reducible assumption) | assumption); obtain ⟨i016, hi016, _, hsz16, _⟩ := info_parts info3; have hroom16 : x0_1.length ≤ co5 := (Kd.V_reads' HO_0.out).2.1; have hC16 : Kd.F (Kd.int .i64) _ _ (some ad1201) x0_1.length x0_1 := (Kd.V_at (base := w.heap.size) HO_0.out).2.2; have hcut16 := cut_from (P := Try.prog) 25 3 .i64 Try.underlying25 hi016 1 hsz16 (some ad1201) x0_1.length co5 1 (by omega) q16; have hr16 := Kd.F_cut (m := (1 : Int).toNat) (c := co5) hC16 (by omega) hroom16; obtain ⟨A16, hA16⟩ : ∃ A1, A1 = (if co5 = (1 : Int).toNat then (some ad1201) else ((some ad1201) : Option Addr).map (·.add ((1 : Int).toNat * 1))) := ⟨_, rfl⟩; obtain ⟨c16, hc16⟩ : ∃ c1, c1 = co5 - (1 : Int).toNat := ⟨_, rfl⟩; have hy16 : y1205.length = x0_1.length - (1 : Int).toNat := (by rw [Ny1205.out, List.length_drop] <;> omega); rw [show (x0_1).drop (1 : Int).toNat = y1205 from Ny1205.out.symm] at hr16; replace hr16 : Kd.F (Kd.int .i64) _ _ A16 y1205.length y1205 := (by rw [hA16]; exact hr16); rw [← hy16, ← hA16, ← hc16] at hcut16; have HO1209 := Aside0.mk (show Kd.V (Kd.int .i64) 3 _ w.heap.size _ (.slice A16 y1205.length c16) y1205 from Kd.V_mk (by rw [hy16, hc16]; exact Nat.sub_le_sub_right hroom16 _) hr16); have HC1209 := Aside0.mk (show y1205.length ≤ c16 from by rw [hy16, hc16]; exact Nat.sub_le_sub_right hroom16 _); clear hr16 hC16 hroom16 hi016 hsz16 hc16; have KY16 := Aside0.mk hy16; have KA16 := Aside0.mk hA16; clear hy16 hA16; replace q16 := eq_true q16)); try go_wp2_with (first | ((with_reducible refine gate_builtin (b := .append) (xs := #[.tmp 40, .tmp 44]) rfl ?_); (try (refine gate_guard (by rfl) ?_; dsimp only)); at_builtin; refine Kd.R_append (Kd.int .i64) (w0 := w) w.heap.size rfl (.tmp 40) (.tmp 44) 25 3 (.int .i64 0) 8 rfl Try.underlying25 info3 rfl (by decide) (by omega) u5 x5_1 (rd x0_1 0) [.int .i64 (rd x0_1 0)] (fun k_ => (w.heap.size ≤ k_)) (fun _ => False) rfl rfl ?aP (fun _ hk => hk.elim) ?aF ?aO ?aB ?aS ?aL ?_; (case aP => exact rfl); (case aB => exact (by repeat (first | (with_reducible first | exact HB.out | apply below_alloc | apply pw_below_drewN | apply below_drew1) | exact HB.out))); (case aF => exact (fun k_ hk => (Nat.le_trans (below_size (by repeat (first | (with_reducible first | exact HB.out | apply below_alloc | apply pw_below_drewN | apply below_drew1) | exact HB.out))) hk))); (case aO => exact (by (with_reducible repeat (first | apply Kd.R_alloc | apply Kd.R_drewN | apply Kd.R_drew)); exact HO_5.out)); (case aS => exact (below_size (by repeat (first | (with_reducible first | exact HB.out | apply below_alloc | apply pw_below_drewN | apply below_drew1) | exact HB.out)))); (case aL => have := LMc13.out; omega); intro v1203 w15 ho hb hg hat; rw [← Ny1202.out] at ho; have n0_ := Aside0.mk (Kd.V_afterv (ok := (fun k_ => ((P0_ k_ ∨ P1_ k_) ∨ w.heap.size ≤ k_))) (by (with_reducible repeat (first | apply Kd.V_alloc | apply Kd.V_drewN | apply Kd.V_drew)); exact HO_0.out) hg hat); have n1_ := Aside0.mk (Kd.V_afterv (ok := (fun k_ => ((P0_ k_ ∨ P1_ k_) ∨ w.heap.size ≤ k_))) (by (with_reducible repeat (first | apply Kd.V_alloc | apply Kd.V_drewN | apply Kd.V_drew)); exact HO_1.out) hg hat); have n2_ := Aside0.mk (hb); have n3_ := Aside0.mk (ho); clear HO_0; clear HO_1; clear HB; clear HO_5; have HO_0 := n0_; have HO_1 := n1_; have HB := n2_; have HO1204 := n3_; clear n0_ n1_ n2_ n3_; clear ho hb hg hat; have q16 : (1 : Int) ≤ ((x0_1.length : Int) : Int) := of_decide_eq_true (by first | (with_reducible assumption) | assumption); obtain ⟨i016, hi016, _, hsz16, _⟩ := info_parts info3; have hroom16 : x0_1.length ≤ co5 := (Kd.V_reads' HO_0.out).2.1; have hC16 : Kd.F (Kd.int .i64) _ _ (some ad1201) x0_1.length x0_1 := (Kd.V_at (base := w.heap.size) HO_0.out).2.2; have hcut16 := cut_from (P := Try.prog) 25 3 .i64 Try.underlying25 hi016 1 hsz16 (some ad1201) x0_1.length co5 1 (by omega) q16; have hr16 := Kd.F_cut (m := (1 : Int).toNat) (c := co5) hC16 (by omega) hroom16; obtain ⟨A16, hA16⟩ : ∃ A1, A1 = (if co5 = (1 : Int).toNat then (some ad1201) else ((some ad1201) : Option Addr).map (·.add ((1 : Int).toNat * 1))) := ⟨_, rfl⟩; obtain ⟨c16, hc16⟩ : ∃ c1, c1 = co5 - (1 : Int).toNat := ⟨_, rfl⟩; have hy16 : y1205.length = x0_1.length - (1 : Int).toNat := (by rw [Ny1205.out, List.length_drop] <;> omega); rw [show (x0_1).drop (1 : Int).toNat = y1205 from Ny1205.out.symm] at hr16; replace hr16 : Kd.F (Kd.int .i64) _ _ A16 y1205.length y1205 := (by rw [hA16]; exact hr16); rw [← hy16, ← hA16, ← hc16] at hcut16; have HO1209 := Aside0.mk (show Kd.V (Kd.int .i64) 3 _ w.heap.size _ (.slice A16 y1205.length c16) y1205 from Kd.V_mk (by rw [hy16, hc16]; exact Nat.sub_le_sub_right hroom16 _) hr16); have HC1209 := Aside0.mk (show y1205.length ≤ c16 from by rw [hy16, hc16]; exact Nat.sub_le_sub_right hroom16 _); clear hr16 hC16 hroom16 hi016 hsz16 hc16; have KY16 := Aside0.mk hy16; have KA16 := Aside0.mk hA16; clear hy16 hA16; replace q16 := eq_true q16)))
          go_roundg kj3
          case measure => have := HK1.out; have := HJ3.out; omega
          case rel => exact ⟨(y1205), (x1_1), (y1202), H', ⟨by have := HK1.out; have := HJ3.out; omega⟩, ⟨by (with_reducible repeat (first | apply Kd.V_alloc | apply Kd.V_drewN | apply Kd.V_drew)); exact HO1209.out⟩, ⟨by (with_reducible repeat (first | apply Kd.V_alloc | apply Kd.V_drewN | apply Kd.V_drew)); exact HO_1.out⟩, ⟨by (with_reducible repeat (first | apply Kd.R_alloc | apply Kd.R_drewN | apply Kd.R_drew)); exact HO1204.out⟩, ⟨by repeat (first | (with_reducible first | exact HB.out | apply below_alloc | apply pw_below_drewN | apply below_drew1) | exact HB.out)⟩⟩
         ·rw [if_neg c14] at H
          exact absurd H (by simp)
        ·rw [if_neg c13] at H
         exact absurd H (by simp)
       ·rw [if_neg c12] at H
        exact absurd H (by simp)
      ·replace c11 := Bool.eq_false_iff.mpr c11
       subst c11
       have H1 : (if (x0_1.length : Int) = 0 then (if 0 < (x1_1.length : Int) then (if x5_1.length < 17592186044416 then (if 1 ≤ (x1_1.length : Int) then (pylonref14_Both.l0 kj3 x0_1 (x1_1.drop 1) (x5_1 ++ [rd x1_1 0])) else (none)) else (none)) else (none)) else (if 0 < (x1_1.length : Int) then (if 0 < (x0_1.length : Int) then (if (rd x1_1 0) < (rd x0_1 0) then (if x5_1.length < 17592186044416 then (if 1 ≤ (x1_1.length : Int) then (pylonref14_Both.l0 kj3 x0_1 (x1_1.drop 1) (x5_1 ++ [rd x1_1 0])) else (none)) else (none)) else (if x5_1.length < 17592186044416 then (if 1 ≤ (x0_1.length : Int) then (if 1 ≤ (x1_1.length : Int) then (pylonref14_Both.l0 kj3 (x0_1.drop 1) (x1_1.drop 1) (x5_1 ++ [rd x0_1 0])) else (none)) else (none)) else (none))) else (none)) else (none))) = some r := by rw [if_neg (show ¬ (false = true) by decide)] at H; exact H
       clear H
       have H := H1
       clear H1
       by_cases c17 : (x0_1.length : Int) = 0
       ·rw [if_pos c17] at H
        have c17b0 : ((x0_1.length : Int) == 0) = true := beq_iff_eq.mpr c17
        have c17b1 : ((x0_1.length : Int) != 0) = false := bne_eq_false_iff_eq.mpr c17
        clear c17
        by_cases c18 : 0 < (x1_1.length : Int)
        ·rw [if_pos c18] at H
         have c18b0 : decide (0 < (x1_1.length : Int)) = true := decide_eq_true c18
         have c18b1 : decide (0 < x1_1.length) = true := decide_eq_true (by omega)
         clear c18
         by_cases c19 : x5_1.length < 17592186044416
         ·rw [if_pos c19] at H
          have LMc19 := Aside0.mk c19
          clear c19
          obtain ⟨y1211, hy1211⟩ : ∃ y_ : List Int, y_ = (x5_1 ++ [rd x1_1 0]) := ⟨_, rfl⟩
          replace H : (if 1 ≤ (x1_1.length : Int) then (pylonref14_Both.l0 kj3 x0_1 (x1_1.drop 1) y1211) else (none)) = some r := by first | (rw [hy1211]; with_reducible exact H) | (have H2_ := (Option.bind_some _ _).symm.trans H; rw [hy1211]; with_reducible exact H2_) | (have H2_ := (Option.bind_some _ _).symm.trans H; with_reducible exact H2_) | with_reducible exact H | (rw [hy1211]; exact H) | exact H
          have Ny1211 := Aside0.mk hy1211
          clear hy1211
          by_cases c20 : 1 ≤ (x1_1.length : Int)
          ·rw [if_pos c20] at H
           have c20b0 := eq_true c20
           have c20b1 : decide (1 ≤ (x1_1.length : Int)) = true := decide_eq_true c20
           clear c20
           obtain ⟨y1214, hy1214⟩ : ∃ y_ : List Int, y_ = (x1_1.drop 1) := ⟨_, rfl⟩
           replace H : (pylonref14_Both.l0 kj3 x0_1 y1214 y1211) = some r := by first | (rw [hy1214]; with_reducible exact H) | (have H2_ := (Option.bind_some _ _).symm.trans H; rw [hy1214]; with_reducible exact H2_) | (have H2_ := (Option.bind_some _ _).symm.trans H; with_reducible exact H2_) | with_reducible exact H | (rw [hy1214]; exact H) | exact H
           have Ny1214 := Aside0.mk hy1214
           clear hy1214
           have H' := Aside0.mk H
           clear H
           have p1210 : 0 ≤ (0 : Int) := (by omega)
           have q1210 : 0 < (x1_1.length : Int) := of_decide_eq_true (by first | (with_reducible assumption) | assumption)
           obtain ⟨ad1210, e1210, hx1210_0⟩ := Kd.at_int (Kd.V_reads' HO_1.out).2.2 0 p1210 q1210
           cases e1210
           have qi1210 : (0 < x1_1.length) = True := eq_true (by omega)
           (try rw [show ((0 : Int)).toNat = 0 from rfl] at hx1210_0)
           (try rw [Addr.add_zero'] at hx1210_0)
           replace p1210 := eq_true p1210
           replace q1210 := eq_true q1210
           go_wp2_with (first | ((with_reducible refine gate_builtin (b := .append) (xs := #[.tmp 61, .tmp 65]) rfl ?_); (try (refine gate_guard (by rfl) ?_; dsimp only)); at_builtin; refine Kd.R_append (Kd.int .i64) (w0 := w) w.heap.size rfl (.tmp 61) (.tmp 65) 25 3 (.int .i64 0) 8 rfl Try.underlying25 info3 rfl (by decide) (by omega) u5 x5_1 (rd x1_1 0) [.int .i64 (rd x1_1 0)] (fun k_ => (w.heap.size ≤ k_)) (fun _ => False) rfl rfl ?aP (fun _ hk => hk.elim) ?aF ?aO ?aB ?aS ?aL ?_; (case aP => exact rfl); (case aB => exact (by repeat (first | (with_reducible first | exact HB.out | apply below_alloc | apply pw_below_drewN | apply below_drew1) | exact HB.out))); (case aF => exact (fun k_ hk => (Nat.le_trans (below_size (by repeat (first | (with_reducible first | exact HB.out | apply below_alloc | apply pw_below_drewN | apply below_drew1) | exact HB.out))) hk))); (case aO => exact (by (with_reducible repeat (first | apply Kd.R_alloc | apply Kd.R_drewN | apply Kd.R_drew)); exact HO_5.out)); (case aS => exact (below_size (by repeat (first | (with_reducible first | exact HB.out | apply below_alloc | apply pw_below_drewN | apply below_drew1) | exact HB.out)))); (case aL => have := LMc19.out; omega); intro v1212 w21 ho hb hg hat; rw [← Ny1211.out] at ho; have n0_ := Aside0.mk (Kd.V_afterv (ok := (fun k_ => ((P0_ k_ ∨ P1_ k_) ∨ w.heap.size ≤ k_))) (by (with_reducible repeat (first | apply Kd.V_alloc | apply Kd.V_drewN | apply Kd.V_drew)); exact HO_0.out) hg hat); have n1_ := Aside0.mk (Kd.V_afterv (ok := (fun k_ => ((P0_ k_ ∨ P1_ k_) ∨ w.heap.size ≤ k_))) (by (with_reducible repeat (first | apply Kd.V_alloc | apply Kd.V_drewN | apply Kd.V_drew)); exact HO_1.out) hg hat); have n2_ := Aside0.mk (hb); have n3_ := Aside0.mk (ho); clear HO_0; clear HO_1; clear HB; clear HO_5; have HO_0 := n0_; have HO_1 := n1_; have HB := n2_; have HO1213 := n3_; clear n0_ n1_ n2_ n3_; clear ho hb hg hat; have q22 : (1 : Int) ≤ ((x1_1.length : Int) : Int) := of_decide_eq_true (by first | (with_reducible assumption) | assumption); obtain ⟨i022, hi022, _, hsz22, _⟩ := info_parts info3; have hroom22 : x1_1.length ≤ co6 := (Kd.V_reads' HO_1.out).2.1; have hC22 : Kd.F (Kd.int .i64) _ _ (some ad1210) x1_1.length x1_1 := (Kd.V_at (base := w.heap.size) HO_1.out).2.2; have hcut22 := cut_from (P := Try.prog) 25 3 .i64 Try.underlying25 hi022 1 hsz22 (some ad1210) x1_1.length co6 1 (by omega) q22; have hr22 := Kd.F_cut (m := (1 : Int).toNat) (c := co6) hC22 (by omega) hroom22; obtain ⟨A22, hA22⟩ : ∃ A1, A1 = (if co6 = (1 : Int).toNat then (some ad1210) else ((some ad1210) : Option Addr).map (·.add ((1 : Int).toNat * 1))) := ⟨_, rfl⟩; obtain ⟨c22, hc22⟩ : ∃ c1, c1 = co6 - (1 : Int).toNat := ⟨_, rfl⟩; have hy22 : y1214.length = x1_1.length - (1 : Int).toNat := (by rw [Ny1214.out, List.length_drop] <;> omega); rw [show (x1_1).drop (1 : Int).toNat = y1214 from Ny1214.out.symm] at hr22; replace hr22 : Kd.F (Kd.int .i64) _ _ A22 y1214.length y1214 := (by rw [hA22]; exact hr22); rw [← hy22, ← hA22, ← hc22] at hcut22; have HO1218 := Aside0.mk (show Kd.V (Kd.int .i64) 3 _ w.heap.size _ (.slice A22 y1214.length c22) y1214 from Kd.V_mk (by rw [hy22, hc22]; exact Nat.sub_le_sub_right hroom22 _) hr22); have HC1218 := Aside0.mk (show y1214.length ≤ c22 from by rw [hy22, hc22]; exact Nat.sub_le_sub_right hroom22 _); clear hr22 hC22 hroom22 hi022 hsz22 hc22; have KY22 := Aside0.mk hy22; have KA22 := Aside0.mk hA22; clear hy22 hA22; replace q22 := eq_true q22))
           repeat (go_quiet (first | ((with_reducible refine gate_builtin (b := .append) (xs := #[.tmp 61, .tmp 65]) rfl ?_); (try (refine gate_guard (by rfl) ?_; dsimp only)); at_builtin; refine Kd.R_append (Kd.int .i64) (w0 := w) w.heap.size rfl (.tmp 61) (.tmp 65) 25 3 (.int .i64 0) 8 rfl Try.underlying25 info3 rfl (by decide) (by omega) u5 x5_1 (rd x1_1 0) [.int .i64 (rd x1_1 0)] (fun k_ => (w.heap.size ≤ k_)) (fun _ => False) rfl rfl ?aP (fun _ hk => hk.elim) ?aF ?aO ?aB ?aS ?aL ?_; (case aP => exact rfl); (case aB => exact (by repeat (first | (with_reducible first | exact HB.out | apply below_alloc | apply pw_below_drewN | apply below_drew1) | exact HB.out))); (case aF => exact (fun k_ hk => (Nat.le_trans (below_size (by repeat (first | (with_reducible first | exact HB.out | apply below_alloc | apply pw_below_drewN | apply below_drew1) | exact HB.out))) hk))); (case aO => exact (by (with_reducible repeat (first | apply Kd.R_alloc | apply Kd.R_drewN | apply Kd.R_drew)); exact HO_5.out)); (case aS => exact (below_size (by repeat (first | (with_reducible first | exact HB.out | apply below_alloc | apply pw_below_drewN | apply below_drew1) | exact HB.out)))); (case aL => have := LMc19.out; omega); intro v1212 w21 ho hb hg hat; rw [← Ny1211.out] at ho; have n0_ := Aside0.mk (Kd.V_afterv (ok := (fun k_ => ((P0_ k_ ∨ P1_ k_) ∨ w.heap.size ≤ k_))) (by (with_reducible repeat (first | apply Kd.V_alloc | apply Kd.V_drewN | apply Kd.V_drew)); exact HO_0.out) hg hat); have n1_ := Aside0.mk (Kd.V_afterv (ok := (fun k_ => ((P0_ k_ ∨ P1_ k_) ∨ w.heap.size ≤ k_))) (by (with_reducible repeat (first | apply Kd.V_alloc | apply Kd.V_drewN | apply Kd.V_drew)); exact HO_1.out) hg hat); have n2_ := Aside0.mk (hb); have n3_ := Aside0.mk (ho); clear HO_0; clear HO_1; clear HB; clear HO_5; have HO_0 := n0_; have HO_1 := n1_; have HB := n2_; have HO1213 := n3_; clear n0_ n1_ n2_ n3_; clear ho hb hg hat; have q22 : (1 : Int) ≤ ((x1_1.length : Int) : Int) := of_decide_eq_true (by first | (with_reducible assumption) | assumption); obtain ⟨i022, hi022, _, hsz22, _⟩ := info_parts info3; have hroom22 : x1_1.length ≤ co6 := (Kd.V_reads' HO_1.out).2.1; have hC22 : Kd.F (Kd.int .i64) _ _ (some ad1210) x1_1.length x1_1 := (Kd.V_at (base := w.heap.size) HO_1.out).2.2; have hcut22 := cut_from (P := Try.prog) 25 3 .i64 Try.underlying25 hi022 1 hsz22 (some ad1210) x1_1.length co6 1 (by omega) q22; have hr22 := Kd.F_cut (m := (1 : Int).toNat) (c := co6) hC22 (by omega) hroom22; obtain ⟨A22, hA22⟩ : ∃ A1, A1 = (if co6 = (1 : Int).toNat then (some ad1210) else ((some ad1210) : Option Addr).map (·.add ((1 : Int).toNat * 1))) := ⟨_, rfl⟩; obtain ⟨c22, hc22⟩ : ∃ c1, c1 = co6 - (1 : Int).toNat := ⟨_, rfl⟩; have hy22 : y1214.length = x1_1.length - (1 : Int).toNat := (by rw [Ny1214.out, List.length_drop] <;> omega); rw [show (x1_1).drop (1 : Int).toNat = y1214 from Ny1214.out.symm] at hr22; replace hr22 : Kd.F (Kd.int .i64) _ _ A22 y1214.length y1214 := (by rw [hA22]; exact hr22); rw [← hy22, ← hA22, ← hc22] at hcut22; have HO1218 := Aside0.mk (show Kd.V (Kd.int .i64) 3 _ w.heap.size _ (.slice A22 y1214.length c22) y1214 from Kd.V_mk (by rw [hy22, hc22]; exact Nat.sub_le_sub_right hroom22 _) hr22); have HC1218 := Aside0.mk (show y1214.length ≤ c22 from by rw [hy22, hc22]; exact Nat.sub_le_sub_right hroom22 _); clear hr22 hC22 hroom22 hi022 hsz22 hc22; have KY22 := Aside0.mk hy22; have KA22 := Aside0.mk hA22; clear hy22 hA22; replace q22 := eq_true q22)); try go_wp2_with (first | ((with_reducible refine gate_builtin (b := .append) (xs := #[.tmp 61, .tmp 65]) rfl ?_); (try (refine gate_guard (by rfl) ?_; dsimp only)); at_builtin; refine Kd.R_append (Kd.int .i64) (w0 := w) w.heap.size rfl (.tmp 61) (.tmp 65) 25 3 (.int .i64 0) 8 rfl Try.underlying25 info3 rfl (by decide) (by omega) u5 x5_1 (rd x1_1 0) [.int .i64 (rd x1_1 0)] (fun k_ => (w.heap.size ≤ k_)) (fun _ => False) rfl rfl ?aP (fun _ hk => hk.elim) ?aF ?aO ?aB ?aS ?aL ?_; (case aP => exact rfl); (case aB => exact (by repeat (first | (with_reducible first | exact HB.out | apply below_alloc | apply pw_below_drewN | apply below_drew1) | exact HB.out))); (case aF => exact (fun k_ hk => (Nat.le_trans (below_size (by repeat (first | (with_reducible first | exact HB.out | apply below_alloc | apply pw_below_drewN | apply below_drew1) | exact HB.out))) hk))); (case aO => exact (by (with_reducible repeat (first | apply Kd.R_alloc | apply Kd.R_drewN | apply Kd.R_drew)); exact HO_5.out)); (case aS => exact (below_size (by repeat (first | (with_reducible first | exact HB.out | apply below_alloc | apply pw_below_drewN | apply below_drew1) | exact HB.out)))); (case aL => have := LMc19.out; omega); intro v1212 w21 ho hb hg hat; rw [← Ny1211.out] at ho; have n0_ := Aside0.mk (Kd.V_afterv (ok := (fun k_ => ((P0_ k_ ∨ P1_ k_) ∨ w.heap.size ≤ k_))) (by (with_reducible repeat (first | apply Kd.V_alloc | apply Kd.V_drewN | apply Kd.V_drew)); exact HO_0.out) hg hat); have n1_ := Aside0.mk (Kd.V_afterv (ok := (fun k_ => ((P0_ k_ ∨ P1_ k_) ∨ w.heap.size ≤ k_))) (by (with_reducible repeat (first | apply Kd.V_alloc | apply Kd.V_drewN | apply Kd.V_drew)); exact HO_1.out) hg hat); have n2_ := Aside0.mk (hb); have n3_ := Aside0.mk (ho); clear HO_0; clear HO_1; clear HB; clear HO_5; have HO_0 := n0_; have HO_1 := n1_; have HB := n2_; have HO1213 := n3_; clear n0_ n1_ n2_ n3_; clear ho hb hg hat; have q22 : (1 : Int) ≤ ((x1_1.length : Int) : Int) := of_decide_eq_true (by first | (with_reducible assumption) | assumption); obtain ⟨i022, hi022, _, hsz22, _⟩ := info_parts info3; have hroom22 : x1_1.length ≤ co6 := (Kd.V_reads' HO_1.out).2.1; have hC22 : Kd.F (Kd.int .i64) _ _ (some ad1210) x1_1.length x1_1 := (Kd.V_at (base := w.heap.size) HO_1.out).2.2; have hcut22 := cut_from (P := Try.prog) 25 3 .i64 Try.underlying25 hi022 1 hsz22 (some ad1210) x1_1.length co6 1 (by omega) q22; have hr22 := Kd.F_cut (m := (1 : Int).toNat) (c := co6) hC22 (by omega) hroom22; obtain ⟨A22, hA22⟩ : ∃ A1, A1 = (if co6 = (1 : Int).toNat then (some ad1210) else ((some ad1210) : Option Addr).map (·.add ((1 : Int).toNat * 1))) := ⟨_, rfl⟩; obtain ⟨c22, hc22⟩ : ∃ c1, c1 = co6 - (1 : Int).toNat := ⟨_, rfl⟩; have hy22 : y1214.length = x1_1.length - (1 : Int).toNat := (by rw [Ny1214.out, List.length_drop] <;> omega); rw [show (x1_1).drop (1 : Int).toNat = y1214 from Ny1214.out.symm] at hr22; replace hr22 : Kd.F (Kd.int .i64) _ _ A22 y1214.length y1214 := (by rw [hA22]; exact hr22); rw [← hy22, ← hA22, ← hc22] at hcut22; have HO1218 := Aside0.mk (show Kd.V (Kd.int .i64) 3 _ w.heap.size _ (.slice A22 y1214.length c22) y1214 from Kd.V_mk (by rw [hy22, hc22]; exact Nat.sub_le_sub_right hroom22 _) hr22); have HC1218 := Aside0.mk (show y1214.length ≤ c22 from by rw [hy22, hc22]; exact Nat.sub_le_sub_right hroom22 _); clear hr22 hC22 hroom22 hi022 hsz22 hc22; have KY22 := Aside0.mk hy22; have KA22 := Aside0.mk hA22; clear hy22 hA22; replace q22 := eq_true q22)))
           go_roundg kj3
           case measure => have := HK1.out; have := HJ3.out; omega
           case rel => exact ⟨(x0_1), (y1214), (y1211), H', ⟨by have := HK1.out; have := HJ3.out; omega⟩, ⟨by (with_reducible repeat (first | apply Kd.V_alloc | apply Kd.V_drewN | apply Kd.V_drew)); exact HO_0.out⟩, ⟨by (with_reducible repeat (first | apply Kd.V_alloc | apply Kd.V_drewN | apply Kd.V_drew)); exact HO1218.out⟩, ⟨by (with_reducible repeat (first | apply Kd.R_alloc | apply Kd.R_drewN | apply Kd.R_drew)); exact HO1213.out⟩, ⟨by repeat (first | (with_reducible first | exact HB.out | apply below_alloc | apply pw_below_drewN | apply below_drew1) | exact HB.out)⟩⟩
          ·rw [if_neg c20] at H
           exact absurd H (by simp)
         ·rw [if_neg c19] at H
          exact absurd H (by simp)
        ·rw [if_neg c18] at H
         exact absurd H (by simp)
       ·rw [if_neg c17] at H
        have c17b0 : ((x0_1.length : Int) == 0) = false := beq_eq_false_iff_ne.mpr c17
        have c17b1 : ((x0_1.length : Int) != 0) = true := bne_iff_ne.mpr c17
        have c17b2 : ¬ (x0_1 = []) := fun h_ => c17 (by rw [h_]; rfl)
        by_cases c23 : 0 < (x1_1.length : Int)
        ·rw [if_pos c23] at H
         have c23b0 : decide (0 < (x1_1.length : Int)) = true := decide_eq_true c23
         have c23b1 : decide (0 < x1_1.length) = true := decide_eq_true (by omega)
         clear c23
         by_cases c24 : 0 < (x0_1.length : Int)
         ·rw [if_pos c24] at H
          have c24b0 : decide (0 < (x0_1.length : Int)) = true := decide_eq_true c24
          have c24b1 : decide (0 < x0_1.length) = true := decide_eq_true (by omega)
          clear c24
          by_cases c25 : (rd x1_1 0) < (rd x0_1 0)
          ·rw [if_pos c25] at H
           have c25b0 : decide ((rd x1_1 0) < (rd x0_1 0)) = true := decide_eq_true c25
           clear c25
           by_cases c26 : x5_1.length < 17592186044416
           ·rw [if_pos c26] at H
            have LMc26 := Aside0.mk c26
            clear c26
            obtain ⟨y1222, hy1222⟩ : ∃ y_ : List Int, y_ = (x5_1 ++ [rd x1_1 0]) := ⟨_, rfl⟩
            replace H : (if 1 ≤ (x1_1.length : Int) then (pylonref14_Both.l0 kj3 x0_1 (x1_1.drop 1) y1222) else (none)) = some r := by first | (rw [hy1222]; with_reducible exact H) | (have H2_ := (Option.bind_some _ _).symm.trans H; rw [hy1222]; with_reducible exact H2_) | (have H2_ := (Option.bind_some _ _).symm.trans H; with_reducible exact H2_) | with_reducible exact H | (rw [hy1222]; exact H) | exact H
            have Ny1222 := Aside0.mk hy1222
            clear hy1222
            by_cases c27 : 1 ≤ (x1_1.length : Int)
            ·rw [if_pos c27] at H
             have c27b0 := eq_true c27
             have c27b1 : decide (1 ≤ (x1_1.length : Int)) = true := decide_eq_true c27
             clear c27
             obtain ⟨y1225, hy1225⟩ : ∃ y_ : List Int, y_ = (x1_1.drop 1) := ⟨_, rfl⟩
             replace H : (pylonref14_Both.l0 kj3 x0_1 y1225 y1222) = some r := by first | (rw [hy1225]; with_reducible exact H) | (have H2_ := (Option.bind_some _ _).symm.trans H; rw [hy1225]; with_reducible exact H2_) | (have H2_ := (Option.bind_some _ _).symm.trans H; with_reducible exact H2_) | with_reducible exact H | (rw [hy1225]; exact H) | exact H
             have Ny1225 := Aside0.mk hy1225
             clear hy1225
             have H' := Aside0.mk H
             clear H
             have p1219 : 0 ≤ (0 : Int) := (by omega)
             have q1219 : 0 < (x1_1.length : Int) := of_decide_eq_true (by first | (with_reducible assumption) | assumption)
             obtain ⟨ad1219, e1219, hx1219_0⟩ := Kd.at_int (Kd.V_reads' HO_1.out).2.2 0 p1219 q1219
             cases e1219
             have qi1219 : (0 < x1_1.length) = True := eq_true (by omega)
             (try rw [show ((0 : Int)).toNat = 0 from rfl] at hx1219_0)
             (try rw [Addr.add_zero'] at hx1219_0)
             replace p1219 := eq_true p1219
             replace q1219 := eq_true q1219
             have p1220 : 0 ≤ (0 : Int) := (by omega)
             have q1220 : 0 < (x0_1.length : Int) := of_decide_eq_true (by first | (with_reducible assumption) | assumption)
             obtain ⟨ad1220, e1220, hx1220_0⟩ := Kd.at_int (Kd.V_reads' HO_0.out).2.2 0 p1220 q1220
             cases e1220
             have qi1220 : (0 < x0_1.length) = True := eq_true (by omega)
             (try rw [show ((0 : Int)).toNat = 0 from rfl] at hx1220_0)
             (try rw [Addr.add_zero'] at hx1220_0)
             replace p1220 := eq_true p1220
             replace q1220 := eq_true q1220
             have p1221 : 0 ≤ (0 : Int) := (by omega)
             have q1221 : 0 < (x1_1.length : Int) := of_decide_eq_true (by first | (with_reducible assumption) | assumption)
             obtain ⟨ad1221, e1221, hx1221_0⟩ := Kd.at_int (Kd.V_reads' HO_1.out).2.2 0 p1221 q1221
             obtain rfl : ad1219 = ad1221 := (by injection e1221)
             have qi1221 : (0 < x1_1.length) = True := eq_true (by omega)
             (try rw [show ((0 : Int)).toNat = 0 from rfl] at hx1221_0)
             (try rw [Addr.add_zero'] at hx1221_0)
             replace p1221 := eq_true p1221
             replace q1221 := eq_true q1221
             go_wp2_with (first | ((with_reducible refine gate_builtin (b := .append) (xs := #[.tmp 61, .tmp 65]) rfl ?_); (try (refine gate_guard (by rfl) ?_; dsimp only)); at_builtin; refine Kd.R_append (Kd.int .i64) (w0 := w) w.heap.size rfl (.tmp 61) (.tmp 65) 25 3 (.int .i64 0) 8 rfl Try.underlying25 info3 rfl (by decide) (by omega) u5 x5_1 (rd x1_1 0) [.int .i64 (rd x1_1 0)] (fun k_ => (w.heap.size ≤ k_)) (fun _ => False) rfl rfl ?aP (fun _ hk => hk.elim) ?aF ?aO ?aB ?aS ?aL ?_; (case aP => exact rfl); (case aB => exact (by repeat (first | (with_reducible first | exact HB.out | apply below_alloc | apply pw_below_drewN | apply below_drew1) | exact HB.out))); (case aF => exact (fun k_ hk => (Nat.le_trans (below_size (by repeat (first | (with_reducible first | exact HB.out | apply below_alloc | apply pw_below_drewN | apply below_drew1) | exact HB.out))) hk))); (case aO => exact (by (with_reducible repeat (first | apply Kd.R_alloc | apply Kd.R_drewN | apply Kd.R_drew)); exact HO_5.out)); (case aS => exact (below_size (by repeat (first | (with_reducible first | exact HB.out | apply below_alloc | apply pw_below_drewN | apply below_drew1) | exact HB.out)))); (case aL => have := LMc26.out; omega); intro v1223 w28 ho hb hg hat; rw [← Ny1222.out] at ho; have n0_ := Aside0.mk (Kd.V_afterv (ok := (fun k_ => ((P0_ k_ ∨ P1_ k_) ∨ w.heap.size ≤ k_))) (by (with_reducible repeat (first | apply Kd.V_alloc | apply Kd.V_drewN | apply Kd.V_drew)); exact HO_0.out) hg hat); have n1_ := Aside0.mk (Kd.V_afterv (ok := (fun k_ => ((P0_ k_ ∨ P1_ k_) ∨ w.heap.size ≤ k_))) (by (with_reducible repeat (first | apply Kd.V_alloc | apply Kd.V_drewN | apply Kd.V_drew)); exact HO_1.out) hg hat); have n2_ := Aside0.mk (hb); have n3_ := Aside0.mk (ho); clear HO_0; clear HO_1; clear HB; clear HO_5; have HO_0 := n0_; have HO_1 := n1_; have HB := n2_; have HO1224 := n3_; clear n0_ n1_ n2_ n3_; clear ho hb hg hat; have q29 : (1 : Int) ≤ ((x1_1.length : Int) : Int) := of_decide_eq_true (by first | (with_reducible assumption) | assumption); obtain ⟨i029, hi029, _, hsz29, _⟩ := info_parts info3; have hroom29 : x1_1.length ≤ co6 := (Kd.V_reads' HO_1.out).2.1; have hC29 : Kd.F (Kd.int .i64) _ _ (some ad1219) x1_1.length x1_1 := (Kd.V_at (base := w.heap.size) HO_1.out).2.2; have hcut29 := cut_from (P := Try.prog) 25 3 .i64 Try.underlying25 hi029 1 hsz29 (some ad1219) x1_1.length co6 1 (by omega) q29; have hr29 := Kd.F_cut (m := (1 : Int).toNat) (c := co6) hC29 (by omega) hroom29; obtain ⟨A29, hA29⟩ : ∃ A1, A1 = (if co6 = (1 : Int).toNat then (some ad1219) else ((some ad1219) : Option Addr).map (·.add ((1 : Int).toNat * 1))) := ⟨_, rfl⟩; obtain ⟨c29, hc29⟩ : ∃ c1, c1 = co6 - (1 : Int).toNat := ⟨_, rfl⟩; have hy29 : y1225.length = x1_1.length - (1 : Int).toNat := (by rw [Ny1225.out, List.length_drop] <;> omega); rw [show (x1_1).drop (1 : Int).toNat = y1225 from Ny1225.out.symm] at hr29; replace hr29 : Kd.F (Kd.int .i64) _ _ A29 y1225.length y1225 := (by rw [hA29]; exact hr29); rw [← hy29, ← hA29, ← hc29] at hcut29; have HO1229 := Aside0.mk (show Kd.V (Kd.int .i64) 3 _ w.heap.size _ (.slice A29 y1225.length c29) y1225 from Kd.V_mk (by rw [hy29, hc29]; exact Nat.sub_le_sub_right hroom29 _) hr29); have HC1229 := Aside0.mk (show y1225.length ≤ c29 from by rw [hy29, hc29]; exact Nat.sub_le_sub_right hroom29 _); clear hr29 hC29 hroom29 hi029 hsz29 hc29; have KY29 := Aside0.mk hy29; have KA29 := Aside0.mk hA29; clear hy29 hA29; replace q29 := eq_true q29))
             repeat (go_quiet (first | ((with_reducible refine gate_builtin (b := .append) (xs := #[.tmp 61, .tmp 65]) rfl ?_); (try (refine gate_guard (by rfl) ?_; dsimp only)); at_builtin; refine Kd.R_append (Kd.int .i64) (w0 := w) w.heap.size rfl (.tmp 61) (.tmp 65) 25 3 (.int .i64 0) 8 rfl Try.underlying25 info3 rfl (by decide) (by omega) u5 x5_1 (rd x1_1 0) [.int .i64 (rd x1_1 0)] (fun k_ => (w.heap.size ≤ k_)) (fun _ => False) rfl rfl ?aP (fun _ hk => hk.elim) ?aF ?aO ?aB ?aS ?aL ?_; (case aP => exact rfl); (case aB => exact (by repeat (first | (with_reducible first | exact HB.out | apply below_alloc | apply pw_below_drewN | apply below_drew1) | exact HB.out))); (case aF => exact (fun k_ hk => (Nat.le_trans (below_size (by repeat (first | (with_reducible first | exact HB.out | apply below_alloc | apply pw_below_drewN | apply below_drew1) | exact HB.out))) hk))); (case aO => exact (by (with_reducible repeat (first | apply Kd.R_alloc | apply Kd.R_drewN | apply Kd.R_drew)); exact HO_5.out)); (case aS => exact (below_size (by repeat (first | (with_reducible first | exact HB.out | apply below_alloc | apply pw_below_drewN | apply below_drew1) | exact HB.out)))); (case aL => have := LMc26.out; omega); intro v1223 w28 ho hb hg hat; rw [← Ny1222.out] at ho; have n0_ := Aside0.mk (Kd.V_afterv (ok := (fun k_ => ((P0_ k_ ∨ P1_ k_) ∨ w.heap.size ≤ k_))) (by (with_reducible repeat (first | apply Kd.V_alloc | apply Kd.V_drewN | apply Kd.V_drew)); exact HO_0.out) hg hat); have n1_ := Aside0.mk (Kd.V_afterv (ok := (fun k_ => ((P0_ k_ ∨ P1_ k_) ∨ w.heap.size ≤ k_))) (by (with_reducible repeat (first | apply Kd.V_alloc | apply Kd.V_drewN | apply Kd.V_drew)); exact HO_1.out) hg hat); have n2_ := Aside0.mk (hb); have n3_ := Aside0.mk (ho); clear HO_0; clear HO_1; clear HB; clear HO_5; have HO_0 := n0_; have HO_1 := n1_; have HB := n2_; have HO1224 := n3_; clear n0_ n1_ n2_ n3_; clear ho hb hg hat; have q29 : (1 : Int) ≤ ((x1_1.length : Int) : Int) := of_decide_eq_true (by first | (with_reducible assumption) | assumption); obtain ⟨i029, hi029, _, hsz29, _⟩ := info_parts info3; have hroom29 : x1_1.length ≤ co6 := (Kd.V_reads' HO_1.out).2.1; have hC29 : Kd.F (Kd.int .i64) _ _ (some ad1219) x1_1.length x1_1 := (Kd.V_at (base := w.heap.size) HO_1.out).2.2; have hcut29 := cut_from (P := Try.prog) 25 3 .i64 Try.underlying25 hi029 1 hsz29 (some ad1219) x1_1.length co6 1 (by omega) q29; have hr29 := Kd.F_cut (m := (1 : Int).toNat) (c := co6) hC29 (by omega) hroom29; obtain ⟨A29, hA29⟩ : ∃ A1, A1 = (if co6 = (1 : Int).toNat then (some ad1219) else ((some ad1219) : Option Addr).map (·.add ((1 : Int).toNat * 1))) := ⟨_, rfl⟩; obtain ⟨c29, hc29⟩ : ∃ c1, c1 = co6 - (1 : Int).toNat := ⟨_, rfl⟩; have hy29 : y1225.length = x1_1.length - (1 : Int).toNat := (by rw [Ny1225.out, List.length_drop] <;> omega); rw [show (x1_1).drop (1 : Int).toNat = y1225 from Ny1225.out.symm] at hr29; replace hr29 : Kd.F (Kd.int .i64) _ _ A29 y1225.length y1225 := (by rw [hA29]; exact hr29); rw [← hy29, ← hA29, ← hc29] at hcut29; have HO1229 := Aside0.mk (show Kd.V (Kd.int .i64) 3 _ w.heap.size _ (.slice A29 y1225.length c29) y1225 from Kd.V_mk (by rw [hy29, hc29]; exact Nat.sub_le_sub_right hroom29 _) hr29); have HC1229 := Aside0.mk (show y1225.length ≤ c29 from by rw [hy29, hc29]; exact Nat.sub_le_sub_right hroom29 _); clear hr29 hC29 hroom29 hi029 hsz29 hc29; have KY29 := Aside0.mk hy29; have KA29 := Aside0.mk hA29; clear hy29 hA29; replace q29 := eq_true q29)); try go_wp2_with (first | ((with_reducible refine gate_builtin (b := .append) (xs := #[.tmp 61, .tmp 65]) rfl ?_); (try (refine gate_guard (by rfl) ?_; dsimp only)); at_builtin; refine Kd.R_append (Kd.int .i64) (w0 := w) w.heap.size rfl (.tmp 61) (.tmp 65) 25 3 (.int .i64 0) 8 rfl Try.underlying25 info3 rfl (by decide) (by omega) u5 x5_1 (rd x1_1 0) [.int .i64 (rd x1_1 0)] (fun k_ => (w.heap.size ≤ k_)) (fun _ => False) rfl rfl ?aP (fun _ hk => hk.elim) ?aF ?aO ?aB ?aS ?aL ?_; (case aP => exact rfl); (case aB => exact (by repeat (first | (with_reducible first | exact HB.out | apply below_alloc | apply pw_below_drewN | apply below_drew1) | exact HB.out))); (case aF => exact (fun k_ hk => (Nat.le_trans (below_size (by repeat (first | (with_reducible first | exact HB.out | apply below_alloc | apply pw_below_drewN | apply below_drew1) | exact HB.out))) hk))); (case aO => exact (by (with_reducible repeat (first | apply Kd.R_alloc | apply Kd.R_drewN | apply Kd.R_drew)); exact HO_5.out)); (case aS => exact (below_size (by repeat (first | (with_reducible first | exact HB.out | apply below_alloc | apply pw_below_drewN | apply below_drew1) | exact HB.out)))); (case aL => have := LMc26.out; omega); intro v1223 w28 ho hb hg hat; rw [← Ny1222.out] at ho; have n0_ := Aside0.mk (Kd.V_afterv (ok := (fun k_ => ((P0_ k_ ∨ P1_ k_) ∨ w.heap.size ≤ k_))) (by (with_reducible repeat (first | apply Kd.V_alloc | apply Kd.V_drewN | apply Kd.V_drew)); exact HO_0.out) hg hat); have n1_ := Aside0.mk (Kd.V_afterv (ok := (fun k_ => ((P0_ k_ ∨ P1_ k_) ∨ w.heap.size ≤ k_))) (by (with_reducible repeat (first | apply Kd.V_alloc | apply Kd.V_drewN | apply Kd.V_drew)); exact HO_1.out) hg hat); have n2_ := Aside0.mk (hb); have n3_ := Aside0.mk (ho); clear HO_0; clear HO_1; clear HB; clear HO_5; have HO_0 := n0_; have HO_1 := n1_; have HB := n2_; have HO1224 := n3_; clear n0_ n1_ n2_ n3_; clear ho hb hg hat; have q29 : (1 : Int) ≤ ((x1_1.length : Int) : Int) := of_decide_eq_true (by first | (with_reducible assumption) | assumption); obtain ⟨i029, hi029, _, hsz29, _⟩ := info_parts info3; have hroom29 : x1_1.length ≤ co6 := (Kd.V_reads' HO_1.out).2.1; have hC29 : Kd.F (Kd.int .i64) _ _ (some ad1219) x1_1.length x1_1 := (Kd.V_at (base := w.heap.size) HO_1.out).2.2; have hcut29 := cut_from (P := Try.prog) 25 3 .i64 Try.underlying25 hi029 1 hsz29 (some ad1219) x1_1.length co6 1 (by omega) q29; have hr29 := Kd.F_cut (m := (1 : Int).toNat) (c := co6) hC29 (by omega) hroom29; obtain ⟨A29, hA29⟩ : ∃ A1, A1 = (if co6 = (1 : Int).toNat then (some ad1219) else ((some ad1219) : Option Addr).map (·.add ((1 : Int).toNat * 1))) := ⟨_, rfl⟩; obtain ⟨c29, hc29⟩ : ∃ c1, c1 = co6 - (1 : Int).toNat := ⟨_, rfl⟩; have hy29 : y1225.length = x1_1.length - (1 : Int).toNat := (by rw [Ny1225.out, List.length_drop] <;> omega); rw [show (x1_1).drop (1 : Int).toNat = y1225 from Ny1225.out.symm] at hr29; replace hr29 : Kd.F (Kd.int .i64) _ _ A29 y1225.length y1225 := (by rw [hA29]; exact hr29); rw [← hy29, ← hA29, ← hc29] at hcut29; have HO1229 := Aside0.mk (show Kd.V (Kd.int .i64) 3 _ w.heap.size _ (.slice A29 y1225.length c29) y1225 from Kd.V_mk (by rw [hy29, hc29]; exact Nat.sub_le_sub_right hroom29 _) hr29); have HC1229 := Aside0.mk (show y1225.length ≤ c29 from by rw [hy29, hc29]; exact Nat.sub_le_sub_right hroom29 _); clear hr29 hC29 hroom29 hi029 hsz29 hc29; have KY29 := Aside0.mk hy29; have KA29 := Aside0.mk hA29; clear hy29 hA29; replace q29 := eq_true q29)))
             go_roundg kj3
             case measure => have := HK1.out; have := HJ3.out; omega
             case rel => exact ⟨(x0_1), (y1225), (y1222), H', ⟨by have := HK1.out; have := HJ3.out; omega⟩, ⟨by (with_reducible repeat (first | apply Kd.V_alloc | apply Kd.V_drewN | apply Kd.V_drew)); exact HO_0.out⟩, ⟨by (with_reducible repeat (first | apply Kd.V_alloc | apply Kd.V_drewN | apply Kd.V_drew)); exact HO1229.out⟩, ⟨by (with_reducible repeat (first | apply Kd.R_alloc | apply Kd.R_drewN | apply Kd.R_drew)); exact HO1224.out⟩, ⟨by repeat (first | (with_reducible first | exact HB.out | apply below_alloc | apply pw_below_drewN | apply below_drew1) | exact HB.out)⟩⟩
            ·rw [if_neg c27] at H
             exact absurd H (by simp)
           ·rw [if_neg c26] at H
            exact absurd H (by simp)
          ·rw [if_neg c25] at H
           have c25b0 : decide ((rd x1_1 0) < (rd x0_1 0)) = false := decide_eq_false c25
           clear c25
           by_cases c30 : x5_1.length < 17592186044416
           ·rw [if_pos c30] at H
            have LMc30 := Aside0.mk c30
            clear c30
            obtain ⟨y1231, hy1231⟩ : ∃ y_ : List Int, y_ = (x5_1 ++ [rd x0_1 0]) := ⟨_, rfl⟩
            replace H : (if 1 ≤ (x0_1.length : Int) then (if 1 ≤ (x1_1.length : Int) then (pylonref14_Both.l0 kj3 (x0_1.drop 1) (x1_1.drop 1) y1231) else (none)) else (none)) = some r := by first | (rw [hy1231]; with_reducible exact H) | (have H2_ := (Option.bind_some _ _).symm.trans H; rw [hy1231]; with_reducible exact H2_) | (have H2_ := (Option.bind_some _ _).symm.trans H; with_reducible exact H2_) | with_reducible exact H | (rw [hy1231]; exact H) | exact H
            have Ny1231 := Aside0.mk hy1231
            clear hy1231
            by_cases c31 : 1 ≤ (x0_1.length : Int)
            ·rw [if_pos c31] at H
             have c31b0 := eq_true c31
             have c31b1 : decide (1 ≤ (x0_1.length : Int)) = true := decide_eq_true c31
             clear c31
             obtain ⟨y1234, hy1234⟩ : ∃ y_ : List Int, y_ = (x0_1.drop 1) := ⟨_, rfl⟩
             replace H : (if 1 ≤ (x1_1.length : Int) then (pylonref14_Both.l0 kj3 y1234 (x1_1.drop 1) y1231) else (none)) = some r := by first | (rw [hy1234]; with_reducible exact H) | (have H2_ := (Option.bind_some _ _).symm.trans H; rw [hy1234]; with_reducible exact H2_) | (have H2_ := (Option.bind_some _ _).symm.trans H; with_reducible exact H2_) | with_reducible exact H | (rw [hy1234]; exact H) | exact H
             have Ny1234 := Aside0.mk hy1234
             clear hy1234
             by_cases c32 : 1 ≤ (x1_1.length : Int)
             ·rw [if_pos c32] at H
              have c32b0 := eq_true c32
              have c32b1 : decide (1 ≤ (x1_1.length : Int)) = true := decide_eq_true c32
              clear c32
              obtain ⟨y1239, hy1239⟩ : ∃ y_ : List Int, y_ = (x1_1.drop 1) := ⟨_, rfl⟩
              replace H : (pylonref14_Both.l0 kj3 y1234 y1239 y1231) = some r := by first | (rw [hy1239]; with_reducible exact H) | (have H2_ := (Option.bind_some _ _).symm.trans H; rw [hy1239]; with_reducible exact H2_) | (have H2_ := (Option.bind_some _ _).symm.trans H; with_reducible exact H2_) | with_reducible exact H | (rw [hy1239]; exact H) | exact H
              have Ny1239 := Aside0.mk hy1239
              clear hy1239
              have H' := Aside0.mk H
              clear H
              have p1219 : 0 ≤ (0 : Int) := (by omega)
              have q1219 : 0 < (x1_1.length : Int) := of_decide_eq_true (by first | (with_reducible assumption) | assumption)
              obtain ⟨ad1219, e1219, hx1219_0⟩ := Kd.at_int (Kd.V_reads' HO_1.out).2.2 0 p1219 q1219
              cases e1219
              have qi1219 : (0 < x1_1.length) = True := eq_true (by omega)
              (try rw [show ((0 : Int)).toNat = 0 from rfl] at hx1219_0)
              (try rw [Addr.add_zero'] at hx1219_0)
              replace p1219 := eq_true p1219
              replace q1219 := eq_true q1219
              have p1220 : 0 ≤ (0 : Int) := (by omega)
              have q1220 : 0 < (x0_1.length : Int) := of_decide_eq_true (by first | (with_reducible assumption) | assumption)
              obtain ⟨ad1220, e1220, hx1220_0⟩ := Kd.at_int (Kd.V_reads' HO_0.out).2.2 0 p1220 q1220
              cases e1220
              have qi1220 : (0 < x0_1.length) = True := eq_true (by omega)
              (try rw [show ((0 : Int)).toNat = 0 from rfl] at hx1220_0)
              (try rw [Addr.add_zero'] at hx1220_0)
              replace p1220 := eq_true p1220
              replace q1220 := eq_true q1220
              have p1230 : 0 ≤ (0 : Int) := (by omega)
              have q1230 : 0 < (x0_1.length : Int) := of_decide_eq_true (by first | (with_reducible assumption) | assumption)
              obtain ⟨ad1230, e1230, hx1230_0⟩ := Kd.at_int (Kd.V_reads' HO_0.out).2.2 0 p1230 q1230
              obtain rfl : ad1220 = ad1230 := (by injection e1230)
              have qi1230 : (0 < x0_1.length) = True := eq_true (by omega)
              (try rw [show ((0 : Int)).toNat = 0 from rfl] at hx1230_0)
              (try rw [Addr.add_zero'] at hx1230_0)
              replace p1230 := eq_true p1230
              replace q1230 := eq_true q1230
              go_wp2_with (first | ((with_reducible refine gate_builtin (b := .append) (xs := #[.tmp 12, .tmp 16]) rfl ?_); (try (refine gate_guard (by rfl) ?_; dsimp only)); at_builtin; refine Kd.R_append (Kd.int .i64) (w0 := w) w.heap.size rfl (.tmp 12) (.tmp 16) 25 3 (.int .i64 0) 8 rfl Try.underlying25 info3 rfl (by decide) (by omega) u5 x5_1 (rd x0_1 0) [.int .i64 (rd x0_1 0)] (fun k_ => (w.heap.size ≤ k_)) (fun _ => False) rfl rfl ?aP (fun _ hk => hk.elim) ?aF ?aO ?aB ?aS ?aL ?_; (case aP => exact rfl); (case aB => exact (by repeat (first | (with_reducible first | exact HB.out | apply below_alloc | apply pw_below_drewN | apply below_drew1) | exact HB.out))); (case aF => exact (fun k_ hk => (Nat.le_trans (below_size (by repeat (first | (with_reducible first | exact HB.out | apply below_alloc | apply pw_below_drewN | apply below_drew1) | exact HB.out))) hk))); (case aO => exact (by (with_reducible repeat (first | apply Kd.R_alloc | apply Kd.R_drewN | apply Kd.R_drew)); exact HO_5.out)); (case aS => exact (below_size (by repeat (first | (with_reducible first | exact HB.out | apply below_alloc | apply pw_below_drewN | apply below_drew1) | exact HB.out)))); (case aL => have := LMc30.out; omega); intro v1232 w33 ho hb hg hat; rw [← Ny1231.out] at ho; have n0_ := Aside0.mk (Kd.V_afterv (ok := (fun k_ => ((P0_ k_ ∨ P1_ k_) ∨ w.heap.size ≤ k_))) (by (with_reducible repeat (first | apply Kd.V_alloc | apply Kd.V_drewN | apply Kd.V_drew)); exact HO_0.out) hg hat); have n1_ := Aside0.mk (Kd.V_afterv (ok := (fun k_ => ((P0_ k_ ∨ P1_ k_) ∨ w.heap.size ≤ k_))) (by (with_reducible repeat (first | apply Kd.V_alloc | apply Kd.V_drewN | apply Kd.V_drew)); exact HO_1.out) hg hat); have n2_ := Aside0.mk (hb); have n3_ := Aside0.mk (ho); clear HO_0; clear HO_1; clear HB; clear HO_5; have HO_0 := n0_; have HO_1 := n1_; have HB := n2_; have HO1233 := n3_; clear n0_ n1_ n2_ n3_; clear ho hb hg hat; have q34 : (1 : Int) ≤ ((x0_1.length : Int) : Int) := of_decide_eq_true (by first | (with_reducible assumption) | assumption); obtain ⟨i034, hi034, _, hsz34, _⟩ := info_parts info3; have hroom34 : x0_1.length ≤ co5 := (Kd.V_reads' HO_0.out).2.1; have hC34 : Kd.F (Kd.int .i64) _ _ (some ad1220) x0_1.length x0_1 := (Kd.V_at (base := w.heap.size) HO_0.out).2.2; have hcut34 := cut_from (P := Try.prog) 25 3 .i64 Try.underlying25 hi034 1 hsz34 (some ad1220) x0_1.length co5 1 (by omega) q34; have hr34 := Kd.F_cut (m := (1 : Int).toNat) (c := co5) hC34 (by omega) hroom34; obtain ⟨A34, hA34⟩ : ∃ A1, A1 = (if co5 = (1 : Int).toNat then (some ad1220) else ((some ad1220) : Option Addr).map (·.add ((1 : Int).toNat * 1))) := ⟨_, rfl⟩; obtain ⟨c34, hc34⟩ : ∃ c1, c1 = co5 - (1 : Int).toNat := ⟨_, rfl⟩; have hy34 : y1234.length = x0_1.length - (1 : Int).toNat := (by rw [Ny1234.out, List.length_drop] <;> omega); rw [show (x0_1).drop (1 : Int).toNat = y1234 from Ny1234.out.symm] at hr34; replace hr34 : Kd.F (Kd.int .i64) _ _ A34 y1234.length y1234 := (by rw [hA34]; exact hr34); rw [← hy34, ← hA34, ← hc34] at hcut34; have HO1238 := Aside0.mk (show Kd.V (Kd.int .i64) 3 _ w.heap.size _ (.slice A34 y1234.length c34) y1234 from Kd.V_mk (by rw [hy34, hc34]; exact Nat.sub_le_sub_right hroom34 _) hr34); have HC1238 := Aside0.mk (show y1234.length ≤ c34 from by rw [hy34, hc34]; exact Nat.sub_le_sub_right hroom34 _); clear hr34 hC34 hroom34 hi034 hsz34 hc34; have KY34 := Aside0.mk hy34; have KA34 := Aside0.mk hA34; clear hy34 hA34; replace q34 := eq_true q34; have q35 : (1 : Int) ≤ ((x1_1.length : Int) : Int) := of_decide_eq_true (by first | (with_reducible assumption) | assumption); obtain ⟨i035, hi035, _, hsz35, _⟩ := info_parts info3; have hroom35 : x1_1.length ≤ co6 := (Kd.V_reads' HO_1.out).2.1; have hC35 : Kd.F (Kd.int .i64) _ _ (some ad1219) x1_1.length x1_1 := (Kd.V_at (base := w.heap.size) HO_1.out).2.2; have hcut35 := cut_from (P := Try.prog) 25 3 .i64 Try.underlying25 hi035 1 hsz35 (some ad1219) x1_1.length co6 1 (by omega) q35; have hr35 := Kd.F_cut (m := (1 : Int).toNat) (c := co6) hC35 (by omega) hroom35; obtain ⟨A35, hA35⟩ : ∃ A1, A1 = (if co6 = (1 : Int).toNat then (some ad1219) else ((some ad1219) : Option Addr).map (·.add ((1 : Int).toNat * 1))) := ⟨_, rfl⟩; obtain ⟨c35, hc35⟩ : ∃ c1, c1 = co6 - (1 : Int).toNat := ⟨_, rfl⟩; have hy35 : y1239.length = x1_1.length - (1 : Int).toNat := (by rw [Ny1239.out, List.length_drop] <;> omega); rw [show (x1_1).drop (1 : Int).toNat = y1239 from Ny1239.out.symm] at hr35; replace hr35 : Kd.F (Kd.int .i64) _ _ A35 y1239.length y1239 := (by rw [hA35]; exact hr35); rw [← hy35, ← hA35, ← hc35] at hcut35; have HO1243 := Aside0.mk (show Kd.V (Kd.int .i64) 3 _ w.heap.size _ (.slice A35 y1239.length c35) y1239 from Kd.V_mk (by rw [hy35, hc35]; exact Nat.sub_le_sub_right hroom35 _) hr35); have HC1243 := Aside0.mk (show y1239.length ≤ c35 from by rw [hy35, hc35]; exact Nat.sub_le_sub_right hroom35 _); clear hr35 hC35 hroom35 hi035 hsz35 hc35; have KY35 := Aside0.mk hy35; have KA35 := Aside0.mk hA35; clear hy35 hA35; replace q35 := eq_true q35))
              repeat (go_quiet (first | ((with_reducible refine gate_builtin (b := .append) (xs := #[.tmp 12, .tmp 16]) rfl ?_); (try (refine gate_guard (by rfl) ?_; dsimp only)); at_builtin; refine Kd.R_append (Kd.int .i64) (w0 := w) w.heap.size rfl (.tmp 12) (.tmp 16) 25 3 (.int .i64 0) 8 rfl Try.underlying25 info3 rfl (by decide) (by omega) u5 x5_1 (rd x0_1 0) [.int .i64 (rd x0_1 0)] (fun k_ => (w.heap.size ≤ k_)) (fun _ => False) rfl rfl ?aP (fun _ hk => hk.elim) ?aF ?aO ?aB ?aS ?aL ?_; (case aP => exact rfl); (case aB => exact (by repeat (first | (with_reducible first | exact HB.out | apply below_alloc | apply pw_below_drewN | apply below_drew1) | exact HB.out))); (case aF => exact (fun k_ hk => (Nat.le_trans (below_size (by repeat (first | (with_reducible first | exact HB.out | apply below_alloc | apply pw_below_drewN | apply below_drew1) | exact HB.out))) hk))); (case aO => exact (by (with_reducible repeat (first | apply Kd.R_alloc | apply Kd.R_drewN | apply Kd.R_drew)); exact HO_5.out)); (case aS => exact (below_size (by repeat (first | (with_reducible first | exact HB.out | apply below_alloc | apply pw_below_drewN | apply below_drew1) | exact HB.out)))); (case aL => have := LMc30.out; omega); intro v1232 w33 ho hb hg hat; rw [← Ny1231.out] at ho; have n0_ := Aside0.mk (Kd.V_afterv (ok := (fun k_ => ((P0_ k_ ∨ P1_ k_) ∨ w.heap.size ≤ k_))) (by (with_reducible repeat (first | apply Kd.V_alloc | apply Kd.V_drewN | apply Kd.V_drew)); exact HO_0.out) hg hat); have n1_ := Aside0.mk (Kd.V_afterv (ok := (fun k_ => ((P0_ k_ ∨ P1_ k_) ∨ w.heap.size ≤ k_))) (by (with_reducible repeat (first | apply Kd.V_alloc | apply Kd.V_drewN | apply Kd.V_drew)); exact HO_1.out) hg hat); have n2_ := Aside0.mk (hb); have n3_ := Aside0.mk (ho); clear HO_0; clear HO_1; clear HB; clear HO_5; have HO_0 := n0_; have HO_1 := n1_; have HB := n2_; have HO1233 := n3_; clear n0_ n1_ n2_ n3_; clear ho hb hg hat; have q34 : (1 : Int) ≤ ((x0_1.length : Int) : Int) := of_decide_eq_true (by first | (with_reducible assumption) | assumption); obtain ⟨i034, hi034, _, hsz34, _⟩ := info_parts info3; have hroom34 : x0_1.length ≤ co5 := (Kd.V_reads' HO_0.out).2.1; have hC34 : Kd.F (Kd.int .i64) _ _ (some ad1220) x0_1.length x0_1 := (Kd.V_at (base := w.heap.size) HO_0.out).2.2; have hcut34 := cut_from (P := Try.prog) 25 3 .i64 Try.underlying25 hi034 1 hsz34 (some ad1220) x0_1.length co5 1 (by omega) q34; have hr34 := Kd.F_cut (m := (1 : Int).toNat) (c := co5) hC34 (by omega) hroom34; obtain ⟨A34, hA34⟩ : ∃ A1, A1 = (if co5 = (1 : Int).toNat then (some ad1220) else ((some ad1220) : Option Addr).map (·.add ((1 : Int).toNat * 1))) := ⟨_, rfl⟩; obtain ⟨c34, hc34⟩ : ∃ c1, c1 = co5 - (1 : Int).toNat := ⟨_, rfl⟩; have hy34 : y1234.length = x0_1.length - (1 : Int).toNat := (by rw [Ny1234.out, List.length_drop] <;> omega); rw [show (x0_1).drop (1 : Int).toNat = y1234 from Ny1234.out.symm] at hr34; replace hr34 : Kd.F (Kd.int .i64) _ _ A34 y1234.length y1234 := (by rw [hA34]; exact hr34); rw [← hy34, ← hA34, ← hc34] at hcut34; have HO1238 := Aside0.mk (show Kd.V (Kd.int .i64) 3 _ w.heap.size _ (.slice A34 y1234.length c34) y1234 from Kd.V_mk (by rw [hy34, hc34]; exact Nat.sub_le_sub_right hroom34 _) hr34); have HC1238 := Aside0.mk (show y1234.length ≤ c34 from by rw [hy34, hc34]; exact Nat.sub_le_sub_right hroom34 _); clear hr34 hC34 hroom34 hi034 hsz34 hc34; have KY34 := Aside0.mk hy34; have KA34 := Aside0.mk hA34; clear hy34 hA34; replace q34 := eq_true q34; have q35 : (1 : Int) ≤ ((x1_1.length : Int) : Int) := of_decide_eq_true (by first | (with_reducible assumption) | assumption); obtain ⟨i035, hi035, _, hsz35, _⟩ := info_parts info3; have hroom35 : x1_1.length ≤ co6 := (Kd.V_reads' HO_1.out).2.1; have hC35 : Kd.F (Kd.int .i64) _ _ (some ad1219) x1_1.length x1_1 := (Kd.V_at (base := w.heap.size) HO_1.out).2.2; have hcut35 := cut_from (P := Try.prog) 25 3 .i64 Try.underlying25 hi035 1 hsz35 (some ad1219) x1_1.length co6 1 (by omega) q35; have hr35 := Kd.F_cut (m := (1 : Int).toNat) (c := co6) hC35 (by omega) hroom35; obtain ⟨A35, hA35⟩ : ∃ A1, A1 = (if co6 = (1 : Int).toNat then (some ad1219) else ((some ad1219) : Option Addr).map (·.add ((1 : Int).toNat * 1))) := ⟨_, rfl⟩; obtain ⟨c35, hc35⟩ : ∃ c1, c1 = co6 - (1 : Int).toNat := ⟨_, rfl⟩; have hy35 : y1239.length = x1_1.length - (1 : Int).toNat := (by rw [Ny1239.out, List.length_drop] <;> omega); rw [show (x1_1).drop (1 : Int).toNat = y1239 from Ny1239.out.symm] at hr35; replace hr35 : Kd.F (Kd.int .i64) _ _ A35 y1239.length y1239 := (by rw [hA35]; exact hr35); rw [← hy35, ← hA35, ← hc35] at hcut35; have HO1243 := Aside0.mk (show Kd.V (Kd.int .i64) 3 _ w.heap.size _ (.slice A35 y1239.length c35) y1239 from Kd.V_mk (by rw [hy35, hc35]; exact Nat.sub_le_sub_right hroom35 _) hr35); have HC1243 := Aside0.mk (show y1239.length ≤ c35 from by rw [hy35, hc35]; exact Nat.sub_le_sub_right hroom35 _); clear hr35 hC35 hroom35 hi035 hsz35 hc35; have KY35 := Aside0.mk hy35; have KA35 := Aside0.mk hA35; clear hy35 hA35; replace q35 := eq_true q35)); try go_wp2_with (first | ((with_reducible refine gate_builtin (b := .append) (xs := #[.tmp 12, .tmp 16]) rfl ?_); (try (refine gate_guard (by rfl) ?_; dsimp only)); at_builtin; refine Kd.R_append (Kd.int .i64) (w0 := w) w.heap.size rfl (.tmp 12) (.tmp 16) 25 3 (.int .i64 0) 8 rfl Try.underlying25 info3 rfl (by decide) (by omega) u5 x5_1 (rd x0_1 0) [.int .i64 (rd x0_1 0)] (fun k_ => (w.heap.size ≤ k_)) (fun _ => False) rfl rfl ?aP (fun _ hk => hk.elim) ?aF ?aO ?aB ?aS ?aL ?_; (case aP => exact rfl); (case aB => exact (by repeat (first | (with_reducible first | exact HB.out | apply below_alloc | apply pw_below_drewN | apply below_drew1) | exact HB.out))); (case aF => exact (fun k_ hk => (Nat.le_trans (below_size (by repeat (first | (with_reducible first | exact HB.out | apply below_alloc | apply pw_below_drewN | apply below_drew1) | exact HB.out))) hk))); (case aO => exact (by (with_reducible repeat (first | apply Kd.R_alloc | apply Kd.R_drewN | apply Kd.R_drew)); exact HO_5.out)); (case aS => exact (below_size (by repeat (first | (with_reducible first | exact HB.out | apply below_alloc | apply pw_below_drewN | apply below_drew1) | exact HB.out)))); (case aL => have := LMc30.out; omega); intro v1232 w33 ho hb hg hat; rw [← Ny1231.out] at ho; have n0_ := Aside0.mk (Kd.V_afterv (ok := (fun k_ => ((P0_ k_ ∨ P1_ k_) ∨ w.heap.size ≤ k_))) (by (with_reducible repeat (first | apply Kd.V_alloc | apply Kd.V_drewN | apply Kd.V_drew)); exact HO_0.out) hg hat); have n1_ := Aside0.mk (Kd.V_afterv (ok := (fun k_ => ((P0_ k_ ∨ P1_ k_) ∨ w.heap.size ≤ k_))) (by (with_reducible repeat (first | apply Kd.V_alloc | apply Kd.V_drewN | apply Kd.V_drew)); exact HO_1.out) hg hat); have n2_ := Aside0.mk (hb); have n3_ := Aside0.mk (ho); clear HO_0; clear HO_1; clear HB; clear HO_5; have HO_0 := n0_; have HO_1 := n1_; have HB := n2_; have HO1233 := n3_; clear n0_ n1_ n2_ n3_; clear ho hb hg hat; have q34 : (1 : Int) ≤ ((x0_1.length : Int) : Int) := of_decide_eq_true (by first | (with_reducible assumption) | assumption); obtain ⟨i034, hi034, _, hsz34, _⟩ := info_parts info3; have hroom34 : x0_1.length ≤ co5 := (Kd.V_reads' HO_0.out).2.1; have hC34 : Kd.F (Kd.int .i64) _ _ (some ad1220) x0_1.length x0_1 := (Kd.V_at (base := w.heap.size) HO_0.out).2.2; have hcut34 := cut_from (P := Try.prog) 25 3 .i64 Try.underlying25 hi034 1 hsz34 (some ad1220) x0_1.length co5 1 (by omega) q34; have hr34 := Kd.F_cut (m := (1 : Int).toNat) (c := co5) hC34 (by omega) hroom34; obtain ⟨A34, hA34⟩ : ∃ A1, A1 = (if co5 = (1 : Int).toNat then (some ad1220) else ((some ad1220) : Option Addr).map (·.add ((1 : Int).toNat * 1))) := ⟨_, rfl⟩; obtain ⟨c34, hc34⟩ : ∃ c1, c1 = co5 - (1 : Int).toNat := ⟨_, rfl⟩; have hy34 : y1234.length = x0_1.length - (1 : Int).toNat := (by rw [Ny1234.out, List.length_drop] <;> omega); rw [show (x0_1).drop (1 : Int).toNat = y1234 from Ny1234.out.symm] at hr34; replace hr34 : Kd.F (Kd.int .i64) _ _ A34 y1234.length y1234 := (by rw [hA34]; exact hr34); rw [← hy34, ← hA34, ← hc34] at hcut34; have HO1238 := Aside0.mk (show Kd.V (Kd.int .i64) 3 _ w.heap.size _ (.slice A34 y1234.length c34) y1234 from Kd.V_mk (by rw [hy34, hc34]; exact Nat.sub_le_sub_right hroom34 _) hr34); have HC1238 := Aside0.mk (show y1234.length ≤ c34 from by rw [hy34, hc34]; exact Nat.sub_le_sub_right hroom34 _); clear hr34 hC34 hroom34 hi034 hsz34 hc34; have KY34 := Aside0.mk hy34; have KA34 := Aside0.mk hA34; clear hy34 hA34; replace q34 := eq_true q34; have q35 : (1 : Int) ≤ ((x1_1.length : Int) : Int) := of_decide_eq_true (by first | (with_reducible assumption) | assumption); obtain ⟨i035, hi035, _, hsz35, _⟩ := info_parts info3; have hroom35 : x1_1.length ≤ co6 := (Kd.V_reads' HO_1.out).2.1; have hC35 : Kd.F (Kd.int .i64) _ _ (some ad1219) x1_1.length x1_1 := (Kd.V_at (base := w.heap.size) HO_1.out).2.2; have hcut35 := cut_from (P := Try.prog) 25 3 .i64 Try.underlying25 hi035 1 hsz35 (some ad1219) x1_1.length co6 1 (by omega) q35; have hr35 := Kd.F_cut (m := (1 : Int).toNat) (c := co6) hC35 (by omega) hroom35; obtain ⟨A35, hA35⟩ : ∃ A1, A1 = (if co6 = (1 : Int).toNat then (some ad1219) else ((some ad1219) : Option Addr).map (·.add ((1 : Int).toNat * 1))) := ⟨_, rfl⟩; obtain ⟨c35, hc35⟩ : ∃ c1, c1 = co6 - (1 : Int).toNat := ⟨_, rfl⟩; have hy35 : y1239.length = x1_1.length - (1 : Int).toNat := (by rw [Ny1239.out, List.length_drop] <;> omega); rw [show (x1_1).drop (1 : Int).toNat = y1239 from Ny1239.out.symm] at hr35; replace hr35 : Kd.F (Kd.int .i64) _ _ A35 y1239.length y1239 := (by rw [hA35]; exact hr35); rw [← hy35, ← hA35, ← hc35] at hcut35; have HO1243 := Aside0.mk (show Kd.V (Kd.int .i64) 3 _ w.heap.size _ (.slice A35 y1239.length c35) y1239 from Kd.V_mk (by rw [hy35, hc35]; exact Nat.sub_le_sub_right hroom35 _) hr35); have HC1243 := Aside0.mk (show y1239.length ≤ c35 from by rw [hy35, hc35]; exact Nat.sub_le_sub_right hroom35 _); clear hr35 hC35 hroom35 hi035 hsz35 hc35; have KY35 := Aside0.mk hy35; have KA35 := Aside0.mk hA35; clear hy35 hA35; replace q35 := eq_true q35)))
              go_roundg kj3
              case measure => have := HK1.out; have := HJ3.out; omega
              case rel => exact ⟨(y1234), (y1239), (y1231), H', ⟨by have := HK1.out; have := HJ3.out; omega⟩, ⟨by (with_reducible repeat (first | apply Kd.V_alloc | apply Kd.V_drewN | apply Kd.V_drew)); exact HO1238.out⟩, ⟨by (with_reducible repeat (first | apply Kd.V_alloc | apply Kd.V_drewN | apply Kd.V_drew)); exact HO1243.out⟩, ⟨by (with_reducible repeat (first | apply Kd.R_alloc | apply Kd.R_drewN | apply Kd.R_drew)); exact HO1233.out⟩, ⟨by repeat (first | (with_reducible first | exact HB.out | apply below_alloc | apply pw_below_drewN | apply below_drew1) | exact HB.out)⟩⟩
             ·rw [if_neg c32] at H
              exact absurd H (by simp)
            ·rw [if_neg c31] at H
             exact absurd H (by simp)
           ·rw [if_neg c30] at H
            exact absurd H (by simp)
         ·rw [if_neg c24] at H
          exact absurd H (by simp)
        ·rw [if_neg c23] at H
         exact absurd H (by simp)
   ·rw [if_neg c3] at H
    have c3b0 : decide (0 < (wrap64 ((x0_1.length : Int) + (x1_1.length : Int)))) = false := decide_eq_false c3
    clear c3
    obtain rfl := Option.some.inj H
    obtain ⟨Ao36, co36, eo36⟩ := Kd.V_slice HO_0.out
    subst eo36
    obtain ⟨Ao37, co37, eo37⟩ := Kd.V_slice HO_1.out
    subst eo37
    go_wp2
    repeat (go_quiet (fail); try go_wp2)
    go_ret
    exact ⟨_, by first | rfl | (simp [errW_none, errW_some] <;> rfl) | (simp [*, errW_none, errW_some] <;> rfl), by (with_reducible repeat (first | apply Kd.R_alloc | apply Kd.R_drewN | apply Kd.R_drew)); exact HO_5.out, by repeat (first | (with_reducible first | exact HB.out | apply below_alloc | apply pw_below_drewN | apply below_drew1) | exact HB.out)⟩

end Go.Proofs.Ytdpgdelimffjpaa.P

namespace Go.Proofs.Ytdpgdelimffjpaa.P
open Go.RowKit Go.Proofs.YtdpgdelimffjpaaW.PrintWords Go.Proofs.YtdpgdelimffjpaaW.PrintLast Go.Proofs.YtdpgdelimffjpaaW.PrintMore
attribute [local go_sem] max2_int min2_int max_two min_two max_three min_three max_four min_four   -- for this text's walks alone
set_option linter.unusedVariables false
set_option linter.unusedSimpArgs false

/-! ### pylonlaw14_NetUnionMatches: function 20 -/
mutual
def pylonlaw14_NetUnionMatches.j0 : Nat → List Int → List Int → List Int → List Int → Bool → Option (Bool)
 | 0, _, _, _, _, _ => none
 | k + 1, x0, x1, x5, x6, x7 => pylonlaw14_NetUnionMatches.l0 k x0 x1 x5 x6 x7 0
def pylonlaw14_NetUnionMatches.l0 : Nat → List Int → List Int → List Int → List Int → Bool → Int → Option (Bool)
 | 0, _, _, _, _, _, _ => none
 | k + 1, x0, x1, x5, x6, x7, x8 => if x8 < 2 then ((net_Union.f x5 x6).bind fun bt1258 => (if x7 = true then (if bt1258.2 = 0 then ((pylonref14_Both.f k x0 x1).bind fun t1262 => ((pylonref14_Ints.f k bt1258.1 t1262).bind fun t1265 => (if t1265 = true then ((pylonref14_Ints.f k x5 x0).bind fun t1266 => (if t1266 = true then ((pylonref14_Ints.f k x6 x1).bind fun t1267 => (if t1267 = true then ((pylonlaw14_spoil.f 0 ([] : List (S37)) (([bt1258.1] : List (List Int)))).bind fun _ => (pylonlaw14_NetUnionMatches.l0 k x0 x1 x5 x6 x7 (wrap64 (x8 + 1)))) else (some false))) else (some false))) else (some false)))) else (some false)) else (if bt1258.2 = 1 then (if (bt1258.1.length : Int) = 0 then ((pylonref14_Ints.f k x5 x0).bind fun t1271 => (if t1271 = true then ((pylonref14_Ints.f k x6 x1).bind fun t1272 => (if t1272 = true then ((pylonlaw14_spoil.f 0 ([] : List (S37)) (([bt1258.1] : List (List Int)))).bind fun _ => (pylonlaw14_NetUnionMatches.l0 k x0 x1 x5 x6 x7 (wrap64 (x8 + 1)))) else (some false))) else (some false))) else (some false)) else (some false)))) else ((pylonlaw14_awake.f).bind fun t1257 => (some t1257))
end
def pylonlaw14_NetUnionMatches.f (k : Nat) (l0 : List Int) (l1 : List Int) : Option (Bool) := (pylonlaw14_Long.f k 0 ([] : List (S37)) (([l0, l1] : List (List Int)))).bind fun t1247 => (if t1247 = true then ((pylonlaw14_awake.f).bind fun t1248 => (some t1248)) else ((pylonlaw14_ints.f l0).bind fun t1249 => ((pylonlaw14_ints.f l1).bind fun t1252 => ((pylonref14_Rises.f k l0).bind fun t1255 => (if t1255 = true then ((pylonref14_Rises.f k l1).bind fun t1256 => (pylonlaw14_NetUnionMatches.j0 k l0 l1 t1249 t1252 t1256)) else (pylonlaw14_NetUnionMatches.j0 k l0 l1 t1249 t1252 false))))))
set_option maxHeartbeats 8000000 in
set_option maxRecDepth 100000 in
theorem pylonlaw14_NetUnionMatches.calls (k : Nat) (P0_ : Nat → Prop) (A0 : Option Addr) (c0 : Nat) (l0 : List Int) (P1_ : Nat → Prop) (A1 : Option Addr) (c1 : Nat) (l1 : List Int) (r : Bool) (w : World) (hs0 : Kd.V (Kd.int .i64) 3 w w.heap.size (fun k_ => P0_ k_) (.slice A0 l0.length c0) l0) (hs1 : Kd.V (Kd.int .i64) 3 w w.heap.size (fun k_ => P1_ k_) (.slice A1 l1.length c1) l1) (h : pylonlaw14_NetUnionMatches.f k l0 l1 = some r) :
  Calls Try.prog 20 #[.slice A0 l0.length c0, .slice A1 l1.length c1] w fun e w' => e = .returned (.bool r) ∧ Below w.heap.size w w' := by
 have hu24 := Try.underlying24
 have HO0 := Aside0.mk (show Kd.V (Kd.int .i64) 3 w w.heap.size (fun k_ => ((P0_ k_ ∨ P1_ k_) ∨ w.heap.size ≤ k_)) (.slice A0 l0.length c0) l0 from Kd.V_mono hs0 (fun k_ hk => .inl (.inl hk)))
 have HO1 := Aside0.mk (show Kd.V (Kd.int .i64) 3 w w.heap.size (fun k_ => ((P0_ k_ ∨ P1_ k_) ∨ w.heap.size ≤ k_)) (.slice A1 l1.length c1) l1 from Kd.V_mono hs1 (fun k_ hk => .inl (.inr hk)))
 have HB := Aside0.mk (Below.refl w.heap.size w)
 have H : ((pylonlaw14_Long.f k 0 ([] : List (S37)) (([l0, l1] : List (List Int)))).bind fun t1247 => (if t1247 = true then ((pylonlaw14_awake.f).bind fun t1248 => (some t1248)) else ((pylonlaw14_ints.f l0).bind fun t1249 => ((pylonlaw14_ints.f l1).bind fun t1252 => ((pylonref14_Rises.f k l0).bind fun t1255 => (if t1255 = true then ((pylonref14_Rises.f k l1).bind fun t1256 => (pylonlaw14_NetUnionMatches.j0 k l0 l1 t1249 t1252 t1256)) else (pylonlaw14_NetUnionMatches.j0 k l0 l1 t1249 t1252 false))))))) = some r := h
 clear h
 obtain ⟨y1244, hy1244⟩ : ∃ y_ : List (List Int), y_ = (([l0, l1] : List (List Int))) := ⟨_, rfl⟩
 replace H : ((pylonlaw14_Long.f k 0 ([] : List (S37)) y1244).bind fun t1247 => (if t1247 = true then ((pylonlaw14_awake.f).bind fun t1248 => (some t1248)) else ((pylonlaw14_ints.f l0).bind fun t1249 => ((pylonlaw14_ints.f l1).bind fun t1252 => ((pylonref14_Rises.f k l0).bind fun t1255 => (if t1255 = true then ((pylonref14_Rises.f k l1).bind fun t1256 => (pylonlaw14_NetUnionMatches.j0 k l0 l1 t1249 t1252 t1256)) else (pylonlaw14_NetUnionMatches.j0 k l0 l1 t1249 t1252 false))))))) = some r := by first | (rw [hy1244]; with_reducible exact H) | (have H2_ := (Option.bind_some _ _).symm.trans H; rw [hy1244]; with_reducible exact H2_) | (have H2_ := (Option.bind_some _ _).symm.trans H; with_reducible exact H2_) | with_reducible exact H | (rw [hy1244]; exact H) | exact H
 have Ny1244 := Aside0.mk hy1244
 clear hy1244
 replace H := Option.bind_eq_some_iff.mp H
 obtain ⟨t1247, A30, H⟩ := H
 replace H : (if t1247 = true then ((pylonlaw14_awake.f).bind fun t1248 => (some t1248)) else ((pylonlaw14_ints.f l0).bind fun t1249 => ((pylonlaw14_ints.f l1).bind fun t1252 => ((pylonref14_Rises.f k l0).bind fun t1255 => (if t1255 = true then ((pylonref14_Rises.f k l1).bind fun t1256 => (pylonlaw14_NetUnionMatches.j0 k l0 l1 t1249 t1252 t1256)) else (pylonlaw14_NetUnionMatches.j0 k l0 l1 t1249 t1252 false)))))) = some r := H
 have A3 := Aside0.mk A30
 clear A30
 by_cases c4 : t1247 = true
 ·subst c4
  have H1 : ((pylonlaw14_awake.f).bind fun t1248 => (some t1248)) = some r := by rw [if_pos rfl] at H; exact H
  clear H
  have H := H1
  clear H1
  replace H := Option.bind_eq_some_iff.mp H
  obtain ⟨t1248, A50, H⟩ := H
  replace H : (some t1248) = some r := H
  have A5 := Aside0.mk A50
  clear A50
  obtain rfl := Option.some.inj H
  go_enter Try.func20, Try.ntmps20
  go_wp2_with (first | ((with_reducible refine gate_dst (N := 14) rfl ?_); (try (refine gate_guard (by rfl) ?_; dsimp only)); refine Kd.N_lit (Kd.slice 3 (Kd.int .i64)) _ 25 ?hg (N' := 14) ?hd (xs := ([l0, l1] : List (List Int))) (inner := [.slice A0 l0.length c0, .slice A1 l1.length c1]) (ok := (fun k_ => ((P0_ k_ ∨ P1_ k_) ∨ w.heap.size ≤ k_))) (okp := (fun k_ => ((P0_ k_ ∨ P1_ k_) ∨ w.heap.size ≤ k_))) ?hr ?hp (fun _ hk => hk) ((show ∀ k_, w.heap.size ≤ k_ → (fun k_ => ((P0_ k_ ∨ P1_ k_) ∨ w.heap.size ≤ k_)) k_ from fun k_ hk => (.inr (Nat.le_trans (below_size (by repeat (first | (with_reducible first | exact HB.out | apply below_alloc | apply pw_below_drewN | apply below_drew1) | exact HB.out))) hk))) _ (Nat.le_refl _)) (Below.refl _ _) (Nat.le_refl _) (by simp) ?_; (case hd => rfl); (case hg => rfl); (case hr => first | (go_simp; done) | (go_simp; rfl)); (case hp => exact (Reps.one (show Kd.FK (Kd.slice 3 (Kd.int .i64)) _ _ l0 [.slice A0 l0.length c0] from (Kd.FK_slice_mk (Kd.V_reads' (Kd.V_mono (ok' := (fun k_ => ((P0_ k_ ∨ P1_ k_) ∨ w.heap.size ≤ k_))) (HO0.out) (fun k_ hk => hk))).2.1 (Kd.V_F (Kd.V_mono (ok' := (fun k_ => ((P0_ k_ ∨ P1_ k_) ∨ w.heap.size ≤ k_))) (HO0.out) (fun k_ hk => hk))))) (Reps.one (show Kd.FK (Kd.slice 3 (Kd.int .i64)) _ _ l1 [.slice A1 l1.length c1] from (Kd.FK_slice_mk (Kd.V_reads' (Kd.V_mono (ok' := (fun k_ => ((P0_ k_ ∨ P1_ k_) ∨ w.heap.size ≤ k_))) (HO1.out) (fun k_ hk => hk))).2.1 (Kd.V_F (Kd.V_mono (ok' := (fun k_ => ((P0_ k_ ∨ P1_ k_) ∨ w.heap.size ≤ k_))) (HO1.out) (fun k_ hk => hk))))) (Reps.none _ _)))); intro v1245 w6 ho7 hb hg_ hnew_; clear hg_ hnew_; (first | rw [← Ny1244.out] at ho7 | (simp only [Int.reduceToNat] at ho7; rw [← Ny1244.out] at ho7)); have n0_ := Aside0.mk (Kd.V_elder' (by (with_reducible repeat (first | apply Kd.V_alloc | apply Kd.V_drewN | apply Kd.V_drew)); exact HO0.out) (Kd.N_base ho7) hb); have n1_ := Aside0.mk (Kd.V_elder' (by (with_reducible repeat (first | apply Kd.V_alloc | apply Kd.V_drewN | apply Kd.V_drew)); exact HO1.out) (Kd.N_base ho7) hb); have n2_ := Aside0.mk (Kd.N_lower ho7 (below_size (by repeat (first | (with_reducible first | exact HB.out | apply below_alloc | apply pw_below_drewN | apply below_drew1) | exact HB.out)))); have n3_ := Aside0.mk (below_step (by repeat (first | (with_reducible first | exact HB.out | apply below_alloc | apply pw_below_drewN | apply below_drew1) | exact HB.out)) hb); clear HO0; clear HO1; clear HB; have HO0 := n0_; have HO1 := n1_; have HO1246 := n2_; have HB := n3_; clear n0_ n1_ n2_ n3_; clear hb ho7; obtain ⟨Ao8, co8, eo8⟩ := Kd.N_slice HO1246.out; subst eo8) | ((with_reducible refine gate_callee (f := 28) rfl ?_); refine goesL_ (some 15) rfl rfl Try.func28 (by kernel_rfl) rfl #[.agg #[.int .i64 0, .slice none 0 0], .slice Ao8 y1244.length co8] rfl (by (try simp only [List.map_toArray, List.map_cons, List.map_nil]); first | done | rfl | (simp only [List.length_drop, List.length_take]; rfl)) ?_; (refine (pylonlaw14_Long.calls k 0 _ _ ([] : List (S37)) _ _ y1244 true _ ?side1 ?side2 ?side3 ?side4 A3.out).mono ?_); (case side1 => exact Kd.C_nil _ _); (case side2 => exact Nat.le_refl _); (case side3 => repeat (first | exact (Kd.N_reads' HO1246.out).2.2 | (with_reducible refine Kd.C_alloc ?_ _) | (with_reducible refine Kd.C_drewN ?_ _) | (with_reducible refine Kd.C_drew ?_))); (case side4 => exact (Kd.N_reads' HO1246.out).2.1); rintro e w9 ⟨rfl, hb⟩; refine ⟨_, rfl, ?_⟩; have n0_ := Aside0.mk (Kd.V_below (by (with_reducible repeat (first | apply Kd.V_alloc | apply Kd.V_drewN | apply Kd.V_drew)); exact HO0.out) hb); have n1_ := Aside0.mk (Kd.V_below (by (with_reducible repeat (first | apply Kd.V_alloc | apply Kd.V_drewN | apply Kd.V_drew)); exact HO1.out) hb); have n2_ := Aside0.mk (Kd.N_below (by (with_reducible repeat (first | apply Kd.N_alloc | apply Kd.N_drewN | apply Kd.N_drew)); exact HO1246.out) hb); have n3_ := Aside0.mk (below_step (by repeat (first | (with_reducible first | exact HB.out | apply below_alloc | apply pw_below_drewN | apply below_drew1) | exact HB.out)) hb); clear HO0; clear HO1; clear HO1246; clear HB; have HO0 := n0_; have HO1 := n1_; have HO1246 := n2_; have HB := n3_; clear n0_ n1_ n2_ n3_; (try clear hb); (try clear hb2); (try clear hk); (try clear hi)) | ((with_reducible refine gate_callee (f := 66) rfl ?_); refine goesL_ (some 16) rfl rfl Try.func66 (by kernel_rfl) rfl #[] rfl (by (try simp only [List.map_toArray, List.map_cons, List.map_nil]); first | done | rfl | (simp only [List.length_drop, List.length_take]; rfl)) ?_; (with_reducible refine (pylonlaw14_awake.calls  t1248 _ A5.out).mono ?_); rintro e w10 ⟨rfl, hb⟩; refine ⟨_, rfl, ?_⟩; have n0_ := Aside0.mk (Kd.V_below (by (with_reducible repeat (first | apply Kd.V_alloc | apply Kd.V_drewN | apply Kd.V_drew)); exact HO0.out) hb); have n1_ := Aside0.mk (Kd.V_below (by (with_reducible repeat (first | apply Kd.V_alloc | apply Kd.V_drewN | apply Kd.V_drew)); exact HO1.out) hb); have n2_ := Aside0.mk (Kd.N_below (by (with_reducible repeat (first | apply Kd.N_alloc | apply Kd.N_drewN | apply Kd.N_drew)); exact HO1246.out) hb); have n3_ := Aside0.mk (below_step (by repeat (first | (with_reducible first | exact HB.out | apply below_alloc | apply pw_below_drewN | apply below_drew1) | exact HB.out)) hb); clear HO0; clear HO1; clear HO1246; clear HB; have HO0 := n0_; have HO1 := n1_; have HO1246 := n2_; have HB := n3_; clear n0_ n1_ n2_ n3_; (try clear hb); (try clear hb2); (try clear hk); (try clear hi)))
  go_ret
  exact ⟨by first | rfl | (simp [errW_none, errW_some] <;> rfl) | (simp [*, errW_none, errW_some] <;> rfl), by repeat (first | (with_reducible first | exact HB.out | apply below_alloc | apply pw_below_drewN | apply below_drew1) | exact HB.out)⟩
 ·replace c4 := Bool.eq_false_iff.mpr c4
  subst c4
  have H1 : ((pylonlaw14_ints.f l0).bind fun t1249 => ((pylonlaw14_ints.f l1).bind fun t1252 => ((pylonref14_Rises.f k l0).bind fun t1255 => (if t1255 = true then ((pylonref14_Rises.f k l1).bind fun t1256 => (pylonlaw14_NetUnionMatches.j0 k l0 l1 t1249 t1252 t1256)) else (pylonlaw14_NetUnionMatches.j0 k l0 l1 t1249 t1252 false))))) = some r := by rw [if_neg (show ¬ (false = true) by decide)] at H; exact H
  clear H
  have H := H1
  clear H1
  replace H := Option.bind_eq_some_iff.mp H
  obtain ⟨t1249, A110, H⟩ := H
  replace H : ((pylonlaw14_ints.f l1).bind fun t1252 => ((pylonref14_Rises.f k l0).bind fun t1255 => (if t1255 = true then ((pylonref14_Rises.f k l1).bind fun t1256 => (pylonlaw14_NetUnionMatches.j0 k l0 l1 t1249 t1252 t1256)) else (pylonlaw14_NetUnionMatches.j0 k l0 l1 t1249 t1252 false)))) = some r := H
  have A11 := Aside0.mk A110
  clear A110
  replace H := Option.bind_eq_some_iff.mp H
  obtain ⟨t1252, A120, H⟩ := H
  replace H : ((pylonref14_Rises.f k l0).bind fun t1255 => (if t1255 = true then ((pylonref14_Rises.f k l1).bind fun t1256 => (pylonlaw14_NetUnionMatches.j0 k l0 l1 t1249 t1252 t1256)) else (pylonlaw14_NetUnionMatches.j0 k l0 l1 t1249 t1252 false))) = some r := H
  have A12 := Aside0.mk A120
  clear A120
  have HC13 := Aside0.mk H
  clear H
  go_enter Try.func20, Try.ntmps20
  go_upto_region 4 with (first | ((with_reducible refine gate_dst (N := 14) rfl ?_); (try (refine gate_guard (by rfl) ?_; dsimp only)); refine Kd.N_lit (Kd.slice 3 (Kd.int .i64)) _ 25 ?hg (N' := 14) ?hd (xs := ([l0, l1] : List (List Int))) (inner := [.slice A0 l0.length c0, .slice A1 l1.length c1]) (ok := (fun k_ => ((P0_ k_ ∨ P1_ k_) ∨ w.heap.size ≤ k_))) (okp := (fun k_ => ((P0_ k_ ∨ P1_ k_) ∨ w.heap.size ≤ k_))) ?hr ?hp (fun _ hk => hk) ((show ∀ k_, w.heap.size ≤ k_ → (fun k_ => ((P0_ k_ ∨ P1_ k_) ∨ w.heap.size ≤ k_)) k_ from fun k_ hk => (.inr (Nat.le_trans (below_size (by repeat (first | (with_reducible first | exact HB.out | apply below_alloc | apply pw_below_drewN | apply below_drew1) | exact HB.out))) hk))) _ (Nat.le_refl _)) (Below.refl _ _) (Nat.le_refl _) (by simp) ?_; (case hd => rfl); (case hg => rfl); (case hr => first | (go_simp; done) | (go_simp; rfl)); (case hp => exact (Reps.one (show Kd.FK (Kd.slice 3 (Kd.int .i64)) _ _ l0 [.slice A0 l0.length c0] from (Kd.FK_slice_mk (Kd.V_reads' (Kd.V_mono (ok' := (fun k_ => ((P0_ k_ ∨ P1_ k_) ∨ w.heap.size ≤ k_))) (HO0.out) (fun k_ hk => hk))).2.1 (Kd.V_F (Kd.V_mono (ok' := (fun k_ => ((P0_ k_ ∨ P1_ k_) ∨ w.heap.size ≤ k_))) (HO0.out) (fun k_ hk => hk))))) (Reps.one (show Kd.FK (Kd.slice 3 (Kd.int .i64)) _ _ l1 [.slice A1 l1.length c1] from (Kd.FK_slice_mk (Kd.V_reads' (Kd.V_mono (ok' := (fun k_ => ((P0_ k_ ∨ P1_ k_) ∨ w.heap.size ≤ k_))) (HO1.out) (fun k_ hk => hk))).2.1 (Kd.V_F (Kd.V_mono (ok' := (fun k_ => ((P0_ k_ ∨ P1_ k_) ∨ w.heap.size ≤ k_))) (HO1.out) (fun k_ hk => hk))))) (Reps.none _ _)))); intro v1245 w14 ho15 hb hg_ hnew_; clear hg_ hnew_; (first | rw [← Ny1244.out] at ho15 | (simp only [Int.reduceToNat] at ho15; rw [← Ny1244.out] at ho15)); have n0_ := Aside0.mk (Kd.V_elder' (by (with_reducible repeat (first | apply Kd.V_alloc | apply Kd.V_drewN | apply Kd.V_drew)); exact HO0.out) (Kd.N_base ho15) hb); have n1_ := Aside0.mk (Kd.V_elder' (by (with_reducible repeat (first | apply Kd.V_alloc | apply Kd.V_drewN | apply Kd.V_drew)); exact HO1.out) (Kd.N_base ho15) hb); have n2_ := Aside0.mk (Kd.N_lower ho15 (below_size (by repeat (first | (with_reducible first | exact HB.out | apply below_alloc | apply pw_below_drewN | apply below_drew1) | exact HB.out)))); have n3_ := Aside0.mk (below_step (by repeat (first | (with_reducible first | exact HB.out | apply below_alloc | apply pw_below_drewN | apply below_drew1) | exact HB.out)) hb); clear HO0; clear HO1; clear HB; have HO0 := n0_; have HO1 := n1_; have HO1246 := n2_; have HB := n3_; clear n0_ n1_ n2_ n3_; clear hb ho15; obtain ⟨Ao16, co16, eo16⟩ := Kd.N_slice HO1246.out; subst eo16) | ((with_reducible refine gate_callee (f := 28) rfl ?_); refine goesL_ (some 15) rfl rfl Try.func28 (by kernel_rfl) rfl #[.agg #[.int .i64 0, .slice none 0 0], .slice Ao16 y1244.length co16] rfl (by (try simp only [List.map_toArray, List.map_cons, List.map_nil]); first | done | rfl | (simp only [List.length_drop, List.length_take]; rfl)) ?_; (refine (pylonlaw14_Long.calls k 0 _ _ ([] : List (S37)) _ _ y1244 false _ ?side1 ?side2 ?side3 ?side4 A3.out).mono ?_); (case side1 => exact Kd.C_nil _ _); (case side2 => exact Nat.le_refl _); (case side3 => repeat (first | exact (Kd.N_reads' HO1246.out).2.2 | (with_reducible refine Kd.C_alloc ?_ _) | (with_reducible refine Kd.C_drewN ?_ _) | (with_reducible refine Kd.C_drew ?_))); (case side4 => exact (Kd.N_reads' HO1246.out).2.1); rintro e w17 ⟨rfl, hb⟩; refine ⟨_, rfl, ?_⟩; have n0_ := Aside0.mk (Kd.V_below (by (with_reducible repeat (first | apply Kd.V_alloc | apply Kd.V_drewN | apply Kd.V_drew)); exact HO0.out) hb); have n1_ := Aside0.mk (Kd.V_below (by (with_reducible repeat (first | apply Kd.V_alloc | apply Kd.V_drewN | apply Kd.V_drew)); exact HO1.out) hb); have n2_ := Aside0.mk (Kd.N_below (by (with_reducible repeat (first | apply Kd.N_alloc | apply Kd.N_drewN | apply Kd.N_drew)); exact HO1246.out) hb); have n3_ := Aside0.mk (below_step (by repeat (first | (with_reducible first | exact HB.out | apply below_alloc | apply pw_below_drewN | apply below_drew1) | exact HB.out)) hb); clear HO0; clear HO1; clear HO1246; clear HB; have HO0 := n0_; have HO1 := n1_; have HO1246 := n2_; have HB := n3_; clear n0_ n1_ n2_ n3_; (try clear hb); (try clear hb2); (try clear hk); (try clear hi)) | ((with_reducible refine gate_callee (f := 68) rfl ?_); refine goesL_ (some 18) rfl rfl Try.func68 (by kernel_rfl) rfl #[.slice A0 l0.length c0] rfl (by (try simp only [List.map_toArray, List.map_cons, List.map_nil]); first | done | rfl | (simp only [List.length_drop, List.length_take]; rfl)) ?_; (with_reducible refine (pylonlaw14_ints.calls _ _ l0 t1249 _ ?side1 ?side2 A11.out).mono ?_); (case side1 => repeat (first | exact (Kd.V_reads' HO0.out).2.2 | (with_reducible refine Kd.C_alloc ?_ _) | (with_reducible refine Kd.C_drewN ?_ _) | (with_reducible refine Kd.C_drew ?_))); (case side2 => exact (Kd.V_reads' HO0.out).2.1); rintro e w18 ⟨v1250, rfl, ho0, hb⟩; refine ⟨_, rfl, ?_⟩; have n0_ := Aside0.mk (Kd.V_elder' (by (with_reducible repeat (first | apply Kd.V_alloc | apply Kd.V_drewN | apply Kd.V_drew)); exact HO0.out) (Kd.R_base ho0) hb); have n1_ := Aside0.mk (Kd.V_elder' (by (with_reducible repeat (first | apply Kd.V_alloc | apply Kd.V_drewN | apply Kd.V_drew)); exact HO1.out) (Kd.R_base ho0) hb); have n2_ := Aside0.mk (Kd.N_elder' (by (with_reducible repeat (first | apply Kd.N_alloc | apply Kd.N_drewN | apply Kd.N_drew)); exact HO1246.out) (Kd.R_base ho0) hb); have n3_ := Aside0.mk (Kd.R_lower (Kd.R_newM (M := fun k_ => (w.heap.size ≤ k_)) ho0 (below_size (by repeat (first | (with_reducible first | exact HB.out | apply below_alloc | apply pw_below_drewN | apply below_drew1) | exact HB.out))) (fun k_ h_ => h_)) (below_size (by repeat (first | (with_reducible first | exact HB.out | apply below_alloc | apply pw_below_drewN | apply below_drew1) | exact HB.out)))); have n4_ := Aside0.mk (below_step (by repeat (first | (with_reducible first | exact HB.out | apply below_alloc | apply pw_below_drewN | apply below_drew1) | exact HB.out)) hb); clear HO0; clear HO1; clear HO1246; clear HB; have HO0 := n0_; have HO1 := n1_; have HO1246 := n2_; have HO1251 := n3_; have HB := n4_; clear n0_ n1_ n2_ n3_ n4_; (try clear hb); (try clear hb2); (try clear hk); (try clear hi); (try clear ho0)) | ((with_reducible refine gate_callee (f := 68) rfl ?_); refine goesL_ (some 20) rfl rfl Try.func68 (by kernel_rfl) rfl #[.slice A1 l1.length c1] rfl (by (try simp only [List.map_toArray, List.map_cons, List.map_nil]); first | done | rfl | (simp only [List.length_drop, List.length_take]; rfl)) ?_; (with_reducible refine (pylonlaw14_ints.calls _ _ l1 t1252 _ ?side1 ?side2 A12.out).mono ?_); (case side1 => repeat (first | exact (Kd.V_reads' HO1.out).2.2 | (with_reducible refine Kd.C_alloc ?_ _) | (with_reducible refine Kd.C_drewN ?_ _) | (with_reducible refine Kd.C_drew ?_))); (case side2 => exact (Kd.V_reads' HO1.out).2.1); rintro e w19 ⟨v1253, rfl, ho0, hb⟩; refine ⟨_, rfl, ?_⟩; have n0_ := Aside0.mk (Kd.V_elder' (by (with_reducible repeat (first | apply Kd.V_alloc | apply Kd.V_drewN | apply Kd.V_drew)); exact HO0.out) (Kd.R_base ho0) hb); have n1_ := Aside0.mk (Kd.V_elder' (by (with_reducible repeat (first | apply Kd.V_alloc | apply Kd.V_drewN | apply Kd.V_drew)); exact HO1.out) (Kd.R_base ho0) hb); have n2_ := Aside0.mk (Kd.N_elder' (by (with_reducible repeat (first | apply Kd.N_alloc | apply Kd.N_drewN | apply Kd.N_drew)); exact HO1246.out) (Kd.R_base ho0) hb); have n3_ := Aside0.mk (Kd.R_elder' (by (with_reducible repeat (first | apply Kd.R_alloc | apply Kd.R_drewN | apply Kd.R_drew)); exact HO1251.out) (Kd.R_base ho0) hb); have n4_ := Aside0.mk (Kd.R_lower (Kd.R_new' (Kd.R_newM (M := fun k_ => (w.heap.size ≤ k_)) ho0 (below_size (by repeat (first | (with_reducible first | exact HB.out | apply below_alloc | apply pw_below_drewN | apply below_drew1) | exact HB.out))) (fun k_ h_ => h_)) (Kd.R_lt (by (with_reducible repeat (first | apply Kd.R_alloc | apply Kd.R_drewN | apply Kd.R_drew)); exact HO1251.out))) (below_size (by repeat (first | (with_reducible first | exact HB.out | apply below_alloc | apply pw_below_drewN | apply below_drew1) | exact HB.out)))); have n5_ := Aside0.mk (below_step (by repeat (first | (with_reducible first | exact HB.out | apply below_alloc | apply pw_below_drewN | apply below_drew1) | exact HB.out)) hb); clear HO0; clear HO1; clear HO1246; clear HO1251; clear HB; have HO0 := n0_; have HO1 := n1_; have HO1246 := n2_; have HO1251 := n3_; have HO1254 := n4_; have HB := n5_; clear n0_ n1_ n2_ n3_ n4_ n5_; (try clear hb); (try clear hb2); (try clear hk); (try clear hi); (try clear ho0)))
  (try simp only [Act.put, List.setIfInBounds_toArray, List.set_cons_zero, List.set_cons_succ])
  go_cut [7] (fun v7 wc => ∃ (kq : Nat) (x7_12 : Bool), v7 = .bool x7_12 ∧ Aside0 (pylonlaw14_NetUnionMatches.j0 kq l0 l1 t1249 t1252 x7_12 = some r) ∧ Aside0 (kq ≤ k) ∧ Aside0 (Kd.V (Kd.int .i64) 3 wc w.heap.size (fun k_ => ((P0_ k_ ∨ P1_ k_) ∨ w.heap.size ≤ k_) ∧ some k_ ≠ (v1250 : Value).ownBlock ∧ some k_ ≠ (v1253 : Value).ownBlock) (.slice A0 l0.length c0) l0) ∧ Aside0 (Kd.V (Kd.int .i64) 3 wc w.heap.size (fun k_ => ((P0_ k_ ∨ P1_ k_) ∨ w.heap.size ≤ k_) ∧ some k_ ≠ (v1250 : Value).ownBlock ∧ some k_ ≠ (v1253 : Value).ownBlock) (.slice A1 l1.length c1) l1) ∧ Aside0 (Kd.R (Kd.int .i64) 3 wc w.heap.size (fun k_ => (w.heap.size ≤ k_) ∧ some k_ ≠ (v1253 : Value).ownBlock) v1250 t1249) ∧ Aside0 (Kd.R (Kd.int .i64) 3 wc w.heap.size (fun k_ => (w.heap.size ≤ k_) ∧ some k_ ≠ (v1250 : Value).ownBlock) v1253 t1252) ∧ Aside0 (Below w.heap.size w wc))
  case first =>
   have H := HC13.out
   clear HC13
   replace H := Option.bind_eq_some_iff.mp H
   obtain ⟨t1255, A200, H⟩ := H
   replace H : (if t1255 = true then ((pylonref14_Rises.f k l1).bind fun t1256 => (pylonlaw14_NetUnionMatches.j0 k l0 l1 t1249 t1252 t1256)) else (pylonlaw14_NetUnionMatches.j0 k l0 l1 t1249 t1252 false)) = some r := H
   have A20 := Aside0.mk A200
   clear A200
   by_cases c21 : t1255 = true
   ·subst c21
    have H1 : ((pylonref14_Rises.f k l1).bind fun t1256 => (pylonlaw14_NetUnionMatches.j0 k l0 l1 t1249 t1252 t1256)) = some r := by rw [if_pos rfl] at H; exact H
    clear H
    have H := H1
    clear H1
    replace H := Option.bind_eq_some_iff.mp H
    obtain ⟨t1256, A220, H⟩ := H
    replace H : (pylonlaw14_NetUnionMatches.j0 k l0 l1 t1249 t1252 t1256) = some r := H
    have A22 := Aside0.mk A220
    clear A220
    have H' := Aside0.mk H
    clear H
    go_wp2_with (first | ((with_reducible refine gate_callee (f := 75) rfl ?_); refine goesL_ (some 22) rfl rfl Try.func75 (by kernel_rfl) rfl #[.slice A0 l0.length c0] rfl (by (try simp only [List.map_toArray, List.map_cons, List.map_nil]); first | done | rfl | (simp only [List.length_drop, List.length_take]; rfl)) ?_; (with_reducible refine (pylonref14_Rises.calls k _ _ l0 true _ ?side1 ?side2 A20.out).mono ?_); (case side1 => repeat (first | exact (Kd.V_reads' HO0.out).2.2 | (with_reducible refine Kd.C_alloc ?_ _) | (with_reducible refine Kd.C_drewN ?_ _) | (with_reducible refine Kd.C_drew ?_))); (case side2 => exact (Kd.V_reads' HO0.out).2.1); rintro e w' ⟨rfl, ⟨nd, rfl⟩⟩; refine ⟨_, rfl, ?_⟩) | (go_at_call 75; (with_reducible refine (pylonref14_Rises.calls k _ _ l1 t1256 _ ?side1 ?side2 A22.out).mono ?_); (case side1 => repeat (first | exact (Kd.V_reads' HO1.out).2.2 | (with_reducible refine Kd.C_alloc ?_ _) | (with_reducible refine Kd.C_drewN ?_ _) | (with_reducible refine Kd.C_drew ?_))); (case side2 => exact (Kd.V_reads' HO1.out).2.1); rintro e w' ⟨rfl, ⟨nd, rfl⟩⟩))
    go_meet
    case rel => exact ⟨_, (t1256), (by first | rfl | (simp; done) | (simp [*]; done)), H', ⟨by first | omega | exact Nat.le_refl _⟩, ⟨by (with_reducible repeat (first | apply Kd.V_alloc | apply Kd.V_drewN | apply Kd.V_drew)); exact Kd.V_mono HO0.out (fun _ hk => ⟨hk.1.1.1, ⟨hk.1.2, hk.2⟩⟩)⟩, ⟨by (with_reducible repeat (first | apply Kd.V_alloc | apply Kd.V_drewN | apply Kd.V_drew)); exact Kd.V_mono HO1.out (fun _ hk => ⟨hk.1.1.1, ⟨hk.1.2, hk.2⟩⟩)⟩, ⟨by (with_reducible repeat (first | apply Kd.R_alloc | apply Kd.R_drewN | apply Kd.R_drew)); exact Kd.R_mono HO1251.out (fun _ hk => ⟨hk.1.1, hk.2⟩)⟩, ⟨by (with_reducible repeat (first | apply Kd.R_alloc | apply Kd.R_drewN | apply Kd.R_drew)); exact Kd.R_mono HO1254.out (fun _ hk => ⟨hk.1.1, hk.2⟩)⟩, ⟨by repeat (first | (with_reducible first | exact HB.out | apply below_alloc | apply pw_below_drewN | apply below_drew1) | exact HB.out)⟩⟩
   ·replace c21 := Bool.eq_false_iff.mpr c21
    subst c21
    have H1 : (pylonlaw14_NetUnionMatches.j0 k l0 l1 t1249 t1252 false) = some r := by rw [if_neg (show ¬ (false = true) by decide)] at H; exact H
    clear H
    have H := H1
    clear H1
    have H' := Aside0.mk H
    clear H
    go_wp2_with (first | ((with_reducible refine gate_callee (f := 75) rfl ?_); refine goesL_ (some 22) rfl rfl Try.func75 (by kernel_rfl) rfl #[.slice A0 l0.length c0] rfl (by (try simp only [List.map_toArray, List.map_cons, List.map_nil]); first | done | rfl | (simp only [List.length_drop, List.length_take]; rfl)) ?_; (with_reducible refine (pylonref14_Rises.calls k _ _ l0 false _ ?side1 ?side2 A20.out).mono ?_); (case side1 => repeat (first | exact (Kd.V_reads' HO0.out).2.2 | (with_reducible refine Kd.C_alloc ?_ _) | (with_reducible refine Kd.C_drewN ?_ _) | (with_reducible refine Kd.C_drew ?_))); (case side2 => exact (Kd.V_reads' HO0.out).2.1); rintro e w' ⟨rfl, ⟨nd, rfl⟩⟩; refine ⟨_, rfl, ?_⟩))
    go_meet
    case rel => exact ⟨_, (false), (by first | rfl | (simp; done) | (simp [*]; done)), H', ⟨by first | omega | exact Nat.le_refl _⟩, ⟨by (with_reducible repeat (first | apply Kd.V_alloc | apply Kd.V_drewN | apply Kd.V_drew)); exact Kd.V_mono HO0.out (fun _ hk => ⟨hk.1.1.1, ⟨hk.1.2, hk.2⟩⟩)⟩, ⟨by (with_reducible repeat (first | apply Kd.V_alloc | apply Kd.V_drewN | apply Kd.V_drew)); exact Kd.V_mono HO1.out (fun _ hk => ⟨hk.1.1.1, ⟨hk.1.2, hk.2⟩⟩)⟩, ⟨by (with_reducible repeat (first | apply Kd.R_alloc | apply Kd.R_drewN | apply Kd.R_drew)); exact Kd.R_mono HO1251.out (fun _ hk => ⟨hk.1.1, hk.2⟩)⟩, ⟨by (with_reducible repeat (first | apply Kd.R_alloc | apply Kd.R_drewN | apply Kd.R_drew)); exact Kd.R_mono HO1254.out (fun _ hk => ⟨hk.1.1, hk.2⟩)⟩, ⟨by repeat (first | (with_reducible first | exact HB.out | apply below_alloc | apply pw_below_drewN | apply below_drew1) | exact HB.out)⟩⟩
  case rest =>
   clear HC13; (try clear c1); (try clear c2); (try clear p2); (try clear c4); (try clear c6); (try clear c7); (try clear c20); (try clear c21)
   obtain ⟨kq, x7_12, rfl, HA, HJ12, HO_0, HO_1, HO_5, HO_6, HB⟩ := hcut
   cases kq with
   | zero => exact absurd HA.out (by simp [pylonlaw14_NetUnionMatches.j0])
   | succ kj12 =>
    have H := HA.out
    clear HA
    simp only [pylonlaw14_NetUnionMatches.j0] at H
    have H' := Aside0.mk H
    clear H
    go_wp2
    go_loopg [8] kj12 (fun kq v8 w' => ∃ (x8_2 : Int), v8 = .int .i64 x8_2 ∧ Aside0 (pylonlaw14_NetUnionMatches.l0 kq l0 l1 t1249 t1252 x7_12 x8_2 = some r) ∧ Aside0 (kq ≤ kj12) ∧ Aside0 (Kd.V (Kd.int .i64) 3 w' w.heap.size (fun k_ => ((P0_ k_ ∨ P1_ k_) ∨ w.heap.size ≤ k_) ∧ some k_ ≠ (v1250 : Value).ownBlock ∧ some k_ ≠ (v1253 : Value).ownBlock) (.slice A0 l0.length c0) l0) ∧ Aside0 (Kd.V (Kd.int .i64) 3 w' w.heap.size (fun k_ => ((P0_ k_ ∨ P1_ k_) ∨ w.heap.size ≤ k_) ∧ some k_ ≠ (v1250 : Value).ownBlock ∧ some k_ ≠ (v1253 : Value).ownBlock) (.slice A1 l1.length c1) l1) ∧ Aside0 (Kd.R (Kd.int .i64) 3 w' w.heap.size (fun k_ => (w.heap.size ≤ k_) ∧ some k_ ≠ (v1253 : Value).ownBlock) v1250 t1249) ∧ Aside0 (Kd.R (Kd.int .i64) 3 w' w.heap.size (fun k_ => (w.heap.size ≤ k_) ∧ some k_ ≠ (v1250 : Value).ownBlock) v1253 t1252) ∧ Aside0 (Below w.heap.size w w'))
    case atStart => exact ⟨(0), (by first | rfl | (simp; done) | (simp [*]; done)), H', ⟨Nat.le_refl _⟩, ⟨by (with_reducible repeat (first | apply Kd.V_alloc | apply Kd.V_drewN | apply Kd.V_drew)); exact HO_0.out⟩, ⟨by (with_reducible repeat (first | apply Kd.V_alloc | apply Kd.V_drewN | apply Kd.V_drew)); exact HO_1.out⟩, ⟨by (with_reducible repeat (first | apply Kd.R_alloc | apply Kd.R_drewN | apply Kd.R_drew)); exact HO_5.out⟩, ⟨by (with_reducible repeat (first | apply Kd.R_alloc | apply Kd.R_drewN | apply Kd.R_drew)); exact HO_6.out⟩, ⟨by repeat (first | (with_reducible first | exact HB.out | apply below_alloc | apply pw_below_drewN | apply below_drew1) | exact HB.out)⟩⟩
    case round =>
     clear H'; (try clear c1); (try clear c2); (try clear p2); (try clear c4); (try clear c6); (try clear c7); (try clear c20); (try clear c21); (try clear p2)
     obtain ⟨x8_2, rfl, HA, HK2, HO_0, HO_1, HO_5, HO_6, HB⟩ := hrel
     have RB := Aside0.mk (Below.refl wr.heap.size wr)
     have SVHO_0 := HO_0
     have SVHO_1 := HO_1
     have SVHO_5 := HO_5
     have SVHO_6 := HO_6
     have SVHB := HB
     cases gk with
     | zero => exact absurd HA.out (by simp [pylonlaw14_NetUnionMatches.l0])
     | succ k2 =>
      have H := HA.out
      clear HA
      simp only [pylonlaw14_NetUnionMatches.l0] at H
      by_cases c23 : x8_2 < 2
      ·rw [if_pos c23] at H
       have c23b0 : decide (x8_2 < 2) = true := decide_eq_true c23
       clear c23
       replace H := Option.bind_eq_some_iff.mp H
       obtain ⟨⟨t1258, t1259⟩, A240, H⟩ := H
       replace H : (if x7_12 = true then (if t1259 = 0 then ((pylonref14_Both.f k2 l0 l1).bind fun t1262 => ((pylonref14_Ints.f k2 t1258 t1262).bind fun t1265 => (if t1265 = true then ((pylonref14_Ints.f k2 t1249 l0).bind fun t1266 => (if t1266 = true then ((pylonref14_Ints.f k2 t1252 l1).bind fun t1267 => (if t1267 = true then ((pylonlaw14_spoil.f 0 ([] : List (S37)) (([t1258] : List (List Int)))).bind fun _ => (pylonlaw14_NetUnionMatches.l0 k2 l0 l1 t1249 t1252 x7_12 (wrap64 (x8_2 + 1)))) else (some false))) else (some false))) else (some false)))) else (some false)) else (if t1259 = 1 then (if (t1258.length : Int) = 0 then ((pylonref14_Ints.f k2 t1249 l0).bind fun t1271 => (if t1271 = true then ((pylonref14_Ints.f k2 t1252 l1).bind fun t1272 => (if t1272 = true then ((pylonlaw14_spoil.f 0 ([] : List (S37)) (([t1258] : List (List Int)))).bind fun _ => (pylonlaw14_NetUnionMatches.l0 k2 l0 l1 t1249 t1252 x7_12 (wrap64 (x8_2 + 1)))) else (some false))) else (some false))) else (some false)) else (some false))) = some r := H
       have A24 := Aside0.mk A240
       clear A240
       by_cases c25 : x7_12 = true
       ·subst c25
        have H1 : (if t1259 = 0 then ((pylonref14_Both.f k2 l0 l1).bind fun t1262 => ((pylonref14_Ints.f k2 t1258 t1262).bind fun t1265 => (if t1265 = true then ((pylonref14_Ints.f k2 t1249 l0).bind fun t1266 => (if t1266 = true then ((pylonref14_Ints.f k2 t1252 l1).bind fun t1267 => (if t1267 = true then ((pylonlaw14_spoil.f 0 ([] : List (S37)) (([t1258] : List (List Int)))).bind fun _ => (pylonlaw14_NetUnionMatches.l0 k2 l0 l1 t1249 t1252 true (wrap64 (x8_2 + 1)))) else (some false))) else (some false))) else (some false)))) else (some false)) = some r := by rw [if_pos rfl] at H; exact H
        clear H
        have H := H1
        clear H1
        by_cases c26 : t1259 = 0
        ·rw [if_pos c26] at H
         have c26b0 : (t1259 == 0) = true := beq_iff_eq.mpr c26
         have c26b1 : (t1259 != 0) = false := bne_eq_false_iff_eq.mpr c26
         clear c26
         replace H := Option.bind_eq_some_iff.mp H
         obtain ⟨t1262, A270, H⟩ := H
         replace H : ((pylonref14_Ints.f k2 t1258 t1262).bind fun t1265 => (if t1265 = true then ((pylonref14_Ints.f k2 t1249 l0).bind fun t1266 => (if t1266 = true then ((pylonref14_Ints.f k2 t1252 l1).bind fun t1267 => (if t1267 = true then ((pylonlaw14_spoil.f 0 ([] : List (S37)) (([t1258] : List (List Int)))).bind fun _ => (pylonlaw14_NetUnionMatches.l0 k2 l0 l1 t1249 t1252 true (wrap64 (x8_2 + 1)))) else (some false))) else (some false))) else (some false))) = some r := H
         have A27 := Aside0.mk A270
         clear A270
         replace H := Option.bind_eq_some_iff.mp H
         obtain ⟨t1265, A280, H⟩ := H
         replace H : (if t1265 = true then ((pylonref14_Ints.f k2 t1249 l0).bind fun t1266 => (if t1266 = true then ((pylonref14_Ints.f k2 t1252 l1).bind fun t1267 => (if t1267 = true then ((pylonlaw14_spoil.f 0 ([] : List (S37)) (([t1258] : List (List Int)))).bind fun _ => (pylonlaw14_NetUnionMatches.l0 k2 l0 l1 t1249 t1252 true (wrap64 (x8_2 + 1)))) else (some false))) else (some false))) else (some false)) = some r := H
         have A28 := Aside0.mk A280
         clear A280
         by_cases c29 : t1265 = true
         ·subst c29
          have H1 : ((pylonref14_Ints.f k2 t1249 l0).bind fun t1266 => (if t1266 = true then ((pylonref14_Ints.f k2 t1252 l1).bind fun t1267 => (if t1267 = true then ((pylonlaw14_spoil.f 0 ([] : List (S37)) (([t1258] : List (List Int)))).bind fun _ => (pylonlaw14_NetUnionMatches.l0 k2 l0 l1 t1249 t1252 true (wrap64 (x8_2 + 1)))) else (some false))) else (some false))) = some r := by rw [if_pos rfl] at H; exact H
          clear H
          have H := H1
          clear H1
          replace H := Option.bind_eq_some_iff.mp H
          obtain ⟨t1266, A300, H⟩ := H
          replace H : (if t1266 = true then ((pylonref14_Ints.f k2 t1252 l1).bind fun t1267 => (if t1267 = true then ((pylonlaw14_spoil.f 0 ([] : List (S37)) (([t1258] : List (List Int)))).bind fun _ => (pylonlaw14_NetUnionMatches.l0 k2 l0 l1 t1249 t1252 true (wrap64 (x8_2 + 1)))) else (some false))) else (some false)) = some r := H
          have A30 := Aside0.mk A300
          clear A300
          by_cases c31 : t1266 = true
          ·subst c31
           have H1 : ((pylonref14_Ints.f k2 t1252 l1).bind fun t1267 => (if t1267 = true then ((pylonlaw14_spoil.f 0 ([] : List (S37)) (([t1258] : List (List Int)))).bind fun _ => (pylonlaw14_NetUnionMatches.l0 k2 l0 l1 t1249 t1252 true (wrap64 (x8_2 + 1)))) else (some false))) = some r := by rw [if_pos rfl] at H; exact H
           clear H
           have H := H1
           clear H1
           replace H := Option.bind_eq_some_iff.mp H
           obtain ⟨t1267, A320, H⟩ := H
           replace H : (if t1267 = true then ((pylonlaw14_spoil.f 0 ([] : List (S37)) (([t1258] : List (List Int)))).bind fun _ => (pylonlaw14_NetUnionMatches.l0 k2 l0 l1 t1249 t1252 true (wrap64 (x8_2 + 1)))) else (some false)) = some r := H
           have A32 := Aside0.mk A320
           clear A320
           by_cases c33 : t1267 = true
           ·subst c33
            have H1 : ((pylonlaw14_spoil.f 0 ([] : List (S37)) (([t1258] : List (List Int)))).bind fun _ => (pylonlaw14_NetUnionMatches.l0 k2 l0 l1 t1249 t1252 true (wrap64 (x8_2 + 1)))) = some r := by rw [if_pos rfl] at H; exact H
            clear H
            have H := H1
            clear H1
            obtain ⟨y1268, hy1268⟩ : ∃ y_ : List (List Int), y_ = (([t1258] : List (List Int))) := ⟨_, rfl⟩
            replace H : ((pylonlaw14_spoil.f 0 ([] : List (S37)) y1268).bind fun _ => (pylonlaw14_NetUnionMatches.l0 k2 l0 l1 t1249 t1252 true (wrap64 (x8_2 + 1)))) = some r := by first | (rw [hy1268]; with_reducible exact H) | (have H2_ := (Option.bind_some _ _).symm.trans H; rw [hy1268]; with_reducible exact H2_) | (have H2_ := (Option.bind_some _ _).symm.trans H; with_reducible exact H2_) | with_reducible exact H | (rw [hy1268]; exact H) | exact H
            have Ny1268 := Aside0.mk hy1268
            clear hy1268
            replace H := Option.bind_eq_some_iff.mp H
            obtain ⟨_, A340, H⟩ := H
            replace H : (pylonlaw14_NetUnionMatches.l0 k2 l0 l1 t1249 t1252 true (wrap64 (x8_2 + 1))) = some r := H
            have A34 := Aside0.mk A340
            clear A340
            have H' := Aside0.mk H
            clear H
            obtain ⟨Ao35, co35, eo35⟩ := Kd.R_slice HO_5.out
            subst eo35
            obtain ⟨Ao36, co36, eo36⟩ := Kd.R_slice HO_6.out
            subst eo36
            go_wp2_with (first | ((with_reducible refine gate_callee (f := 49) rfl ?_); refine goesL_ (some 34) rfl rfl Try.func49 (by kernel_rfl) rfl #[.slice Ao35 t1249.length co35, .slice Ao36 t1252.length co36] rfl (by (try simp only [List.map_toArray, List.map_cons, List.map_nil]); first | done | rfl | (simp only [List.length_drop, List.length_take]; rfl)) ?_; (with_reducible refine (net_Union.calls _ _ t1249 _ _ t1252 t1258 t1259 _ ?side1 ?side2 ?side3 ?side4 A24.out).mono ?_); (case side1 => repeat (first | exact (Kd.R_reads' HO_5.out).2.2 | (with_reducible refine Kd.C_alloc ?_ _) | (with_reducible refine Kd.C_drewN ?_ _) | (with_reducible refine Kd.C_drew ?_))); (case side2 => exact (Kd.R_reads' HO_5.out).2.1); (case side3 => repeat (first | exact (Kd.R_reads' HO_6.out).2.2 | (with_reducible refine Kd.C_alloc ?_ _) | (with_reducible refine Kd.C_drewN ?_ _) | (with_reducible refine Kd.C_drew ?_))); (case side4 => exact (Kd.R_reads' HO_6.out).2.1); rintro e w37 ⟨v1260, rfl, ho0, hb⟩; have KG1261 := Aside0.mk (show ∀ k_, some k_ = (v1260 : Value).ownBlock → wr.heap.size ≤ k_ from fun k_ h_ => Nat.le_trans RB.out.size (Kd.R_base ho0 k_ h_.symm)); have nR_ := Aside0.mk (below_step (by repeat (first | (with_reducible first | exact RB.out | apply below_alloc | apply pw_below_drewN | apply below_drew1) | exact RB.out)) hb); clear RB; have RB := nR_; clear nR_; refine ⟨_, rfl, ?_⟩; have n0_ := Aside0.mk (Kd.V_elder' (by (with_reducible repeat (first | apply Kd.V_alloc | apply Kd.V_drewN | apply Kd.V_drew)); exact HO_0.out) (Kd.R_base ho0) hb); have n1_ := Aside0.mk (Kd.V_elder' (by (with_reducible repeat (first | apply Kd.V_alloc | apply Kd.V_drewN | apply Kd.V_drew)); exact HO_1.out) (Kd.R_base ho0) hb); have n2_ := Aside0.mk (Kd.R_elder' (by (with_reducible repeat (first | apply Kd.R_alloc | apply Kd.R_drewN | apply Kd.R_drew)); exact HO_5.out) (Kd.R_base ho0) hb); have n3_ := Aside0.mk (Kd.R_elder' (by (with_reducible repeat (first | apply Kd.R_alloc | apply Kd.R_drewN | apply Kd.R_drew)); exact HO_6.out) (Kd.R_base ho0) hb); have n4_ := Aside0.mk (Kd.R_lower (Kd.R_new' (Kd.R_new' (Kd.R_newM (M := fun k_ => (w.heap.size ≤ k_)) ho0 (below_size (by repeat (first | (with_reducible first | exact HB.out | apply below_alloc | apply pw_below_drewN | apply below_drew1) | exact HB.out))) (fun k_ h_ => h_)) (Kd.R_lt (by (with_reducible repeat (first | apply Kd.R_alloc | apply Kd.R_drewN | apply Kd.R_drew)); exact HO_5.out))) (Kd.R_lt (by (with_reducible repeat (first | apply Kd.R_alloc | apply Kd.R_drewN | apply Kd.R_drew)); exact HO_6.out))) (below_size (by repeat (first | (with_reducible first | exact HB.out | apply below_alloc | apply pw_below_drewN | apply below_drew1) | exact HB.out)))); have n5_ := Aside0.mk (below_step (by repeat (first | (with_reducible first | exact HB.out | apply below_alloc | apply pw_below_drewN | apply below_drew1) | exact HB.out)) hb); clear HO_0; clear HO_1; clear HO_5; clear HO_6; clear HB; have HO_0 := n0_; have HO_1 := n1_; have HO_5 := n2_; have HO_6 := n3_; have HO1261 := n4_; have HB := n5_; clear n0_ n1_ n2_ n3_ n4_ n5_; (try clear hb); (try clear hb2); (try clear hk); (try clear hi); (try clear ho0)) | (go_at_call 76; (with_reducible refine (pylonref14_Both.calls k2 (fun k_ => ((((P0_ k_ ∨ P1_ k_) ∨ w.heap.size ≤ k_) ∧ (some k_ ≠ (.slice Ao35 t1249.length co35 : Value).ownBlock ∧ some k_ ≠ (.slice Ao36 t1252.length co36 : Value).ownBlock)) ∧ some k_ ≠ (v1260 : Value).ownBlock)) _ _ l0 (fun k_ => ((((P0_ k_ ∨ P1_ k_) ∨ w.heap.size ≤ k_) ∧ (some k_ ≠ (.slice Ao35 t1249.length co35 : Value).ownBlock ∧ some k_ ≠ (.slice Ao36 t1252.length co36 : Value).ownBlock)) ∧ some k_ ≠ (v1260 : Value).ownBlock)) _ _ l1 t1262 _ ?side1 ?side2 A27.out).mono ?_); (case side1 => exact HO_0.out); (case side2 => exact HO_1.out); rintro e w38 ⟨v1263, rfl, ho0, hb⟩; have KG1264 := Aside0.mk (show ∀ k_, some k_ = (v1263 : Value).ownBlock → wr.heap.size ≤ k_ from fun k_ h_ => Nat.le_trans RB.out.size (Kd.R_base ho0 k_ h_.symm)); have nR_ := Aside0.mk (below_step (by repeat (first | (with_reducible first | exact RB.out | apply below_alloc | apply pw_below_drewN | apply below_drew1) | exact RB.out)) hb); clear RB; have RB := nR_; clear nR_; have n0_ := Aside0.mk (Kd.V_elder' (by (with_reducible repeat (first | apply Kd.V_alloc | apply Kd.V_drewN | apply Kd.V_drew)); exact HO_0.out) (Kd.R_base ho0) hb); have n1_ := Aside0.mk (Kd.V_elder' (by (with_reducible repeat (first | apply Kd.V_alloc | apply Kd.V_drewN | apply Kd.V_drew)); exact HO_1.out) (Kd.R_base ho0) hb); have n2_ := Aside0.mk (Kd.R_elder' (by (with_reducible repeat (first | apply Kd.R_alloc | apply Kd.R_drewN | apply Kd.R_drew)); exact HO_5.out) (Kd.R_base ho0) hb); have n3_ := Aside0.mk (Kd.R_elder' (by (with_reducible repeat (first | apply Kd.R_alloc | apply Kd.R_drewN | apply Kd.R_drew)); exact HO_6.out) (Kd.R_base ho0) hb); have n4_ := Aside0.mk (Kd.R_elder' (by (with_reducible repeat (first | apply Kd.R_alloc | apply Kd.R_drewN | apply Kd.R_drew)); exact HO1261.out) (Kd.R_base ho0) hb); have n5_ := Aside0.mk (Kd.R_lower (Kd.R_new' (Kd.R_new' (Kd.R_new' (Kd.R_newM (M := fun k_ => (w.heap.size ≤ k_)) (Kd.R_mono (ok' := fun k_ => True) ho0 (fun _ hk_ => trivial)) (below_size (by repeat (first | (with_reducible first | exact HB.out | apply below_alloc | apply pw_below_drewN | apply below_drew1) | exact HB.out))) (fun k_ h_ => h_)) (Kd.R_lt (by (with_reducible repeat (first | apply Kd.R_alloc | apply Kd.R_drewN | apply Kd.R_drew)); exact HO_5.out))) (Kd.R_lt (by (with_reducible repeat (first | apply Kd.R_alloc | apply Kd.R_drewN | apply Kd.R_drew)); exact HO_6.out))) (Kd.R_lt (by (with_reducible repeat (first | apply Kd.R_alloc | apply Kd.R_drewN | apply Kd.R_drew)); exact HO1261.out))) (below_size (by repeat (first | (with_reducible first | exact HB.out | apply below_alloc | apply pw_below_drewN | apply below_drew1) | exact HB.out)))); have n6_ := Aside0.mk (below_step (by repeat (first | (with_reducible first | exact HB.out | apply below_alloc | apply pw_below_drewN | apply below_drew1) | exact HB.out)) hb); clear HO_0; clear HO_1; clear HO_5; clear HO_6; clear HO1261; clear HB; have HO_0 := n0_; have HO_1 := n1_; have HO_5 := n2_; have HO_6 := n3_; have HO1261 := n4_; have HO1264 := n5_; have HB := n6_; clear n0_ n1_ n2_ n3_ n4_ n5_ n6_; (try clear hb); (try clear hb2); (try clear hk); (try clear hi); (try clear ho0); obtain ⟨Ao39, co39, eo39⟩ := Kd.R_slice HO1261.out; subst eo39; obtain ⟨Ao40, co40, eo40⟩ := Kd.R_slice HO1264.out; subst eo40) | (go_at_call 36; (with_reducible refine (pylonref14_Ints.calls k2 _ _ t1258 _ _ t1262 true _ ?side1 ?side2 ?side3 ?side4 A28.out).mono ?_); (case side1 => repeat (first | exact (Kd.R_reads' HO1261.out).2.2 | (with_reducible refine Kd.C_alloc ?_ _) | (with_reducible refine Kd.C_drewN ?_ _) | (with_reducible refine Kd.C_drew ?_))); (case side2 => exact (Kd.R_reads' HO1261.out).2.1); (case side3 => repeat (first | exact (Kd.R_reads' HO1264.out).2.2 | (with_reducible refine Kd.C_alloc ?_ _) | (with_reducible refine Kd.C_drewN ?_ _) | (with_reducible refine Kd.C_drew ?_))); (case side4 => exact (Kd.R_reads' HO1264.out).2.1); rintro e w' ⟨rfl, ⟨nd, rfl⟩⟩) | (go_at_call 36; (with_reducible refine (pylonref14_Ints.calls k2 _ _ t1249 _ _ l0 true _ ?side1 ?side2 ?side3 ?side4 A30.out).mono ?_); (case side1 => repeat (first | exact (Kd.R_reads' HO_5.out).2.2 | (with_reducible refine Kd.C_alloc ?_ _) | (with_reducible refine Kd.C_drewN ?_ _) | (with_reducible refine Kd.C_drew ?_))); (case side2 => exact (Kd.R_reads' HO_5.out).2.1); (case side3 => repeat (first | exact (Kd.V_reads' HO_0.out).2.2 | (with_reducible refine Kd.C_alloc ?_ _) | (with_reducible refine Kd.C_drewN ?_ _) | (with_reducible refine Kd.C_drew ?_))); (case side4 => exact (Kd.V_reads' HO_0.out).2.1); rintro e w' ⟨rfl, ⟨nd, rfl⟩⟩) | (go_at_call 36; (with_reducible refine (pylonref14_Ints.calls k2 _ _ t1252 _ _ l1 true _ ?side1 ?side2 ?side3 ?side4 A32.out).mono ?_); (case side1 => repeat (first | exact (Kd.R_reads' HO_6.out).2.2 | (with_reducible refine Kd.C_alloc ?_ _) | (with_reducible refine Kd.C_drewN ?_ _) | (with_reducible refine Kd.C_drew ?_))); (case side2 => exact (Kd.R_reads' HO_6.out).2.1); (case side3 => repeat (first | exact (Kd.V_reads' HO_1.out).2.2 | (with_reducible refine Kd.C_alloc ?_ _) | (with_reducible refine Kd.C_drewN ?_ _) | (with_reducible refine Kd.C_drew ?_))); (case side4 => exact (Kd.V_reads' HO_1.out).2.1); rintro e w' ⟨rfl, ⟨nd, rfl⟩⟩) | ((with_reducible refine gate_dst (N := 77) rfl ?_); (try (refine gate_guard (by rfl) ?_; dsimp only)); refine rows_event ?hg (N := 77) ?hd (n := 1) (inner := [.slice Ao39 t1258.length co39]) (e := 25) ?hr ?_; (case hd => rfl); (case hg => rfl); (case hr => first | (go_simp; done) | (go_simp; rfl)); intro gy1268 hg_ w41 hrow_ hb; have KR0 := Aside0.mk (RowOk.below (RowOk.of_R (by (with_reducible repeat (first | apply Kd.R_alloc | apply Kd.R_drewN | apply Kd.R_drew)); exact HO1261.out)) hb); have KN0 := Aside0.mk (show ∀ k_, some k_ = (.slice Ao39 t1258.length co39 : Value).ownBlock → k_ < gy1268 from fun k_ h_ => by rw [hg_]; exact Kd.R_lt HO1261.out k_ h_.symm); have KY := Aside0.mk hrow_; clear hrow_ hg_; have nR_ := Aside0.mk (below_step (by repeat (first | (with_reducible first | exact RB.out | apply below_alloc | apply pw_below_drewN | apply below_drew1) | exact RB.out)) hb); clear RB; have RB := nR_; clear nR_; (try clear hb)) | ((with_reducible refine gate_callee (f := 74) rfl ?_); refine goesL_ (some 78) rfl rfl Try.func74 (by kernel_rfl) rfl #[.agg #[.int .i64 0, .slice none 0 0], .slice (some ⟨gy1268, 0, none⟩) 1 1] rfl (by (try simp only [List.map_toArray, List.map_cons, List.map_nil]); first | done | rfl | (simp only [List.length_drop, List.length_take]; rfl)) ?_; refine (pylonlaw14_spoil.real0 0 (fun k_ => some k_ = (.slice Ao39 t1258.length co39 : Value).ownBlock) (some ⟨gy1268, 0, none⟩) [.slice Ao39 t1258.length co39] 1 _ (show 1 ≤ 9223372036854775807 by decide) (rows_lit KY.out (fun h_ => Nat.lt_irrefl _ (KN0.out _ h_)) (List.forall_mem_cons.2 ⟨KR0.out.mono (fun k_ h_ => h_), List.forall_mem_nil _⟩))).mono ?_; rintro e w44 ⟨rfl, hsk_⟩; refine ⟨_, rfl, ?_⟩; have nR_ := Aside0.mk (SpoilKept.below hsk_ (by repeat (first | (with_reducible first | exact RB.out | apply below_alloc | apply pw_below_drewN | apply below_drew1) | exact RB.out)) RB.out.size (fun k_ h_ => (fun h_ => by first | exact KG1261.out k_ h_ | exact KG1264.out k_ h_) h_)); clear RB; have RB := nR_; clear nR_; have KS := Aside0.mk hsk_; clear hsk_))
            go_roundg k2
            case measure => have := HJ12.out; have := HK2.out; omega
            case rel => exact ⟨(wrap64 (x8_2 + 1)), (by first | rfl | (simp; done) | (simp [*]; done)), H', ⟨by have := HJ12.out; have := HK2.out; omega⟩, ⟨Kd.V_below SVHO_0.out RB.out⟩, ⟨Kd.V_below SVHO_1.out RB.out⟩, ⟨Kd.R_below SVHO_5.out RB.out⟩, ⟨Kd.R_below SVHO_6.out RB.out⟩, ⟨SVHB.out.trans (RB.out.mono SVHB.out.size)⟩⟩
           ·replace c33 := Bool.eq_false_iff.mpr c33
            subst c33
            have H1 : (some false) = some r := by rw [if_neg (show ¬ (false = true) by decide)] at H; exact H
            clear H
            have H := H1
            clear H1
            obtain rfl := Option.some.inj H
            obtain ⟨Ao45, co45, eo45⟩ := Kd.R_slice HO_5.out
            subst eo45
            obtain ⟨Ao46, co46, eo46⟩ := Kd.R_slice HO_6.out
            subst eo46
            go_wp2_with (first | ((with_reducible refine gate_callee (f := 49) rfl ?_); refine goesL_ (some 34) rfl rfl Try.func49 (by kernel_rfl) rfl #[.slice Ao45 t1249.length co45, .slice Ao46 t1252.length co46] rfl (by (try simp only [List.map_toArray, List.map_cons, List.map_nil]); first | done | rfl | (simp only [List.length_drop, List.length_take]; rfl)) ?_; (with_reducible refine (net_Union.calls _ _ t1249 _ _ t1252 t1258 t1259 _ ?side1 ?side2 ?side3 ?side4 A24.out).mono ?_); (case side1 => repeat (first | exact (Kd.R_reads' HO_5.out).2.2 | (with_reducible refine Kd.C_alloc ?_ _) | (with_reducible refine Kd.C_drewN ?_ _) | (with_reducible refine Kd.C_drew ?_))); (case side2 => exact (Kd.R_reads' HO_5.out).2.1); (case side3 => repeat (first | exact (Kd.R_reads' HO_6.out).2.2 | (with_reducible refine Kd.C_alloc ?_ _) | (with_reducible refine Kd.C_drewN ?_ _) | (with_reducible refine Kd.C_drew ?_))); (case side4 => exact (Kd.R_reads' HO_6.out).2.1); rintro e w47 ⟨v1260, rfl, ho0, hb⟩; have KG1261 := Aside0.mk (show ∀ k_, some k_ = (v1260 : Value).ownBlock → wr.heap.size ≤ k_ from fun k_ h_ => Nat.le_trans RB.out.size (Kd.R_base ho0 k_ h_.symm)); have nR_ := Aside0.mk (below_step (by repeat (first | (with_reducible first | exact RB.out | apply below_alloc | apply pw_below_drewN | apply below_drew1) | exact RB.out)) hb); clear RB; have RB := nR_; clear nR_; refine ⟨_, rfl, ?_⟩; have n0_ := Aside0.mk (Kd.V_elder' (by (with_reducible repeat (first | apply Kd.V_alloc | apply Kd.V_drewN | apply Kd.V_drew)); exact HO_0.out) (Kd.R_base ho0) hb); have n1_ := Aside0.mk (Kd.V_elder' (by (with_reducible repeat (first | apply Kd.V_alloc | apply Kd.V_drewN | apply Kd.V_drew)); exact HO_1.out) (Kd.R_base ho0) hb); have n2_ := Aside0.mk (Kd.R_elder' (by (with_reducible repeat (first | apply Kd.R_alloc | apply Kd.R_drewN | apply Kd.R_drew)); exact HO_5.out) (Kd.R_base ho0) hb); have n3_ := Aside0.mk (Kd.R_elder' (by (with_reducible repeat (first | apply Kd.R_alloc | apply Kd.R_drewN | apply Kd.R_drew)); exact HO_6.out) (Kd.R_base ho0) hb); have n4_ := Aside0.mk (Kd.R_lower (Kd.R_new' (Kd.R_new' (Kd.R_newM (M := fun k_ => (w.heap.size ≤ k_)) ho0 (below_size (by repeat (first | (with_reducible first | exact HB.out | apply below_alloc | apply pw_below_drewN | apply below_drew1) | exact HB.out))) (fun k_ h_ => h_)) (Kd.R_lt (by (with_reducible repeat (first | apply Kd.R_alloc | apply Kd.R_drewN | apply Kd.R_drew)); exact HO_5.out))) (Kd.R_lt (by (with_reducible repeat (first | apply Kd.R_alloc | apply Kd.R_drewN | apply Kd.R_drew)); exact HO_6.out))) (below_size (by repeat (first | (with_reducible first | exact HB.out | apply below_alloc | apply pw_below_drewN | apply below_drew1) | exact HB.out)))); have n5_ := Aside0.mk (below_step (by repeat (first | (with_reducible first | exact HB.out | apply below_alloc | apply pw_below_drewN | apply below_drew1) | exact HB.out)) hb); clear HO_0; clear HO_1; clear HO_5; clear HO_6; clear HB; have HO_0 := n0_; have HO_1 := n1_; have HO_5 := n2_; have HO_6 := n3_; have HO1261 := n4_; have HB := n5_; clear n0_ n1_ n2_ n3_ n4_ n5_; (try clear hb); (try clear hb2); (try clear hk); (try clear hi); (try clear ho0)) | (go_at_call 76; (with_reducible refine (pylonref14_Both.calls k2 (fun k_ => ((((P0_ k_ ∨ P1_ k_) ∨ w.heap.size ≤ k_) ∧ (some k_ ≠ (.slice Ao45 t1249.length co45 : Value).ownBlock ∧ some k_ ≠ (.slice Ao46 t1252.length co46 : Value).ownBlock)) ∧ some k_ ≠ (v1260 : Value).ownBlock)) _ _ l0 (fun k_ => ((((P0_ k_ ∨ P1_ k_) ∨ w.heap.size ≤ k_) ∧ (some k_ ≠ (.slice Ao45 t1249.length co45 : Value).ownBlock ∧ some k_ ≠ (.slice Ao46 t1252.length co46 : Value).ownBlock)) ∧ some k_ ≠ (v1260 : Value).ownBlock)) _ _ l1 t1262 _ ?side1 ?side2 A27.out).mono ?_); (case side1 => exact HO_0.out); (case side2 => exact HO_1.out); rintro e w48 ⟨v1263, rfl, ho0, hb⟩; have KG1264 := Aside0.mk (show ∀ k_, some k_ = (v1263 : Value).ownBlock → wr.heap.size ≤ k_ from fun k_ h_ => Nat.le_trans RB.out.size (Kd.R_base ho0 k_ h_.symm)); have nR_ := Aside0.mk (below_step (by repeat (first | (with_reducible first | exact RB.out | apply below_alloc | apply pw_below_drewN | apply below_drew1) | exact RB.out)) hb); clear RB; have RB := nR_; clear nR_; have n0_ := Aside0.mk (Kd.V_elder' (by (with_reducible repeat (first | apply Kd.V_alloc | apply Kd.V_drewN | apply Kd.V_drew)); exact HO_0.out) (Kd.R_base ho0) hb); have n1_ := Aside0.mk (Kd.V_elder' (by (with_reducible repeat (first | apply Kd.V_alloc | apply Kd.V_drewN | apply Kd.V_drew)); exact HO_1.out) (Kd.R_base ho0) hb); have n2_ := Aside0.mk (Kd.R_elder' (by (with_reducible repeat (first | apply Kd.R_alloc | apply Kd.R_drewN | apply Kd.R_drew)); exact HO_5.out) (Kd.R_base ho0) hb); have n3_ := Aside0.mk (Kd.R_elder' (by (with_reducible repeat (first | apply Kd.R_alloc | apply Kd.R_drewN | apply Kd.R_drew)); exact HO_6.out) (Kd.R_base ho0) hb); have n4_ := Aside0.mk (Kd.R_elder' (by (with_reducible repeat (first | apply Kd.R_alloc | apply Kd.R_drewN | apply Kd.R_drew)); exact HO1261.out) (Kd.R_base ho0) hb); have n5_ := Aside0.mk (Kd.R_lower (Kd.R_new' (Kd.R_new' (Kd.R_new' (Kd.R_newM (M := fun k_ => (w.heap.size ≤ k_)) (Kd.R_mono (ok' := fun k_ => True) ho0 (fun _ hk_ => trivial)) (below_size (by repeat (first | (with_reducible first | exact HB.out | apply below_alloc | apply pw_below_drewN | apply below_drew1) | exact HB.out))) (fun k_ h_ => h_)) (Kd.R_lt (by (with_reducible repeat (first | apply Kd.R_alloc | apply Kd.R_drewN | apply Kd.R_drew)); exact HO_5.out))) (Kd.R_lt (by (with_reducible repeat (first | apply Kd.R_alloc | apply Kd.R_drewN | apply Kd.R_drew)); exact HO_6.out))) (Kd.R_lt (by (with_reducible repeat (first | apply Kd.R_alloc | apply Kd.R_drewN | apply Kd.R_drew)); exact HO1261.out))) (below_size (by repeat (first | (with_reducible first | exact HB.out | apply below_alloc | apply pw_below_drewN | apply below_drew1) | exact HB.out)))); have n6_ := Aside0.mk (below_step (by repeat (first | (with_reducible first | exact HB.out | apply below_alloc | apply pw_below_drewN | apply below_drew1) | exact HB.out)) hb); clear HO_0; clear HO_1; clear HO_5; clear HO_6; clear HO1261; clear HB; have HO_0 := n0_; have HO_1 := n1_; have HO_5 := n2_; have HO_6 := n3_; have HO1261 := n4_; have HO1264 := n5_; have HB := n6_; clear n0_ n1_ n2_ n3_ n4_ n5_ n6_; (try clear hb); (try clear hb2); (try clear hk); (try clear hi); (try clear ho0); obtain ⟨Ao49, co49, eo49⟩ := Kd.R_slice HO1261.out; subst eo49; obtain ⟨Ao50, co50, eo50⟩ := Kd.R_slice HO1264.out; subst eo50) | (go_at_call 36; (with_reducible refine (pylonref14_Ints.calls k2 _ _ t1258 _ _ t1262 true _ ?side1 ?side2 ?side3 ?side4 A28.out).mono ?_); (case side1 => repeat (first | exact (Kd.R_reads' HO1261.out).2.2 | (with_reducible refine Kd.C_alloc ?_ _) | (with_reducible refine Kd.C_drewN ?_ _) | (with_reducible refine Kd.C_drew ?_))); (case side2 => exact (Kd.R_reads' HO1261.out).2.1); (case side3 => repeat (first | exact (Kd.R_reads' HO1264.out).2.2 | (with_reducible refine Kd.C_alloc ?_ _) | (with_reducible refine Kd.C_drewN ?_ _) | (with_reducible refine Kd.C_drew ?_))); (case side4 => exact (Kd.R_reads' HO1264.out).2.1); rintro e w' ⟨rfl, ⟨nd, rfl⟩⟩) | (go_at_call 36; (with_reducible refine (pylonref14_Ints.calls k2 _ _ t1249 _ _ l0 true _ ?side1 ?side2 ?side3 ?side4 A30.out).mono ?_); (case side1 => repeat (first | exact (Kd.R_reads' HO_5.out).2.2 | (with_reducible refine Kd.C_alloc ?_ _) | (with_reducible refine Kd.C_drewN ?_ _) | (with_reducible refine Kd.C_drew ?_))); (case side2 => exact (Kd.R_reads' HO_5.out).2.1); (case side3 => repeat (first | exact (Kd.V_reads' HO_0.out).2.2 | (with_reducible refine Kd.C_alloc ?_ _) | (with_reducible refine Kd.C_drewN ?_ _) | (with_reducible refine Kd.C_drew ?_))); (case side4 => exact (Kd.V_reads' HO_0.out).2.1); rintro e w' ⟨rfl, ⟨nd, rfl⟩⟩) | (go_at_call 36; (with_reducible refine (pylonref14_Ints.calls k2 _ _ t1252 _ _ l1 false _ ?side1 ?side2 ?side3 ?side4 A32.out).mono ?_); (case side1 => repeat (first | exact (Kd.R_reads' HO_6.out).2.2 | (with_reducible refine Kd.C_alloc ?_ _) | (with_reducible refine Kd.C_drewN ?_ _) | (with_reducible refine Kd.C_drew ?_))); (case side2 => exact (Kd.R_reads' HO_6.out).2.1); (case side3 => repeat (first | exact (Kd.V_reads' HO_1.out).2.2 | (with_reducible refine Kd.C_alloc ?_ _) | (with_reducible refine Kd.C_drewN ?_ _) | (with_reducible refine Kd.C_drew ?_))); (case side4 => exact (Kd.V_reads' HO_1.out).2.1); rintro e w' ⟨rfl, ⟨nd, rfl⟩⟩))
            go_ret
            exact ⟨by first | rfl | (simp [errW_none, errW_some] <;> rfl) | (simp [*, errW_none, errW_some] <;> rfl), by repeat (first | (with_reducible first | exact HB.out | apply below_alloc | apply pw_below_drewN | apply below_drew1) | exact HB.out)⟩
          ·replace c31 := Bool.eq_false_iff.mpr c31
           subst c31
           have H1 : (some false) = some r := by rw [if_neg (show ¬ (false = true) by decide)] at H; exact H
           clear H
           have H := H1
           clear H1
           obtain rfl := Option.some.inj H
           obtain ⟨Ao51, co51, eo51⟩ := Kd.R_slice HO_5.out
           subst eo51
           obtain ⟨Ao52, co52, eo52⟩ := Kd.R_slice HO_6.out
           subst eo52
           go_wp2_with (first | ((with_reducible refine gate_callee (f := 49) rfl ?_); refine goesL_ (some 34) rfl rfl Try.func49 (by kernel_rfl) rfl #[.slice Ao51 t1249.length co51, .slice Ao52 t1252.length co52] rfl (by (try simp only [List.map_toArray, List.map_cons, List.map_nil]); first | done | rfl | (simp only [List.length_drop, List.length_take]; rfl)) ?_; (with_reducible refine (net_Union.calls _ _ t1249 _ _ t1252 t1258 t1259 _ ?side1 ?side2 ?side3 ?side4 A24.out).mono ?_); (case side1 => repeat (first | exact (Kd.R_reads' HO_5.out).2.2 | (with_reducible refine Kd.C_alloc ?_ _) | (with_reducible refine Kd.C_drewN ?_ _) | (with_reducible refine Kd.C_drew ?_))); (case side2 => exact (Kd.R_reads' HO_5.out).2.1); (case side3 => repeat (first | exact (Kd.R_reads' HO_6.out).2.2 | (with_reducible refine Kd.C_alloc ?_ _) | (with_reducible refine Kd.C_drewN ?_ _) | (with_reducible refine Kd.C_drew ?_))); (case side4 => exact (Kd.R_reads' HO_6.out).2.1); rintro e w53 ⟨v1260, rfl, ho0, hb⟩; have KG1261 := Aside0.mk (show ∀ k_, some k_ = (v1260 : Value).ownBlock → wr.heap.size ≤ k_ from fun k_ h_ => Nat.le_trans RB.out.size (Kd.R_base ho0 k_ h_.symm)); have nR_ := Aside0.mk (below_step (by repeat (first | (with_reducible first | exact RB.out | apply below_alloc | apply pw_below_drewN | apply below_drew1) | exact RB.out)) hb); clear RB; have RB := nR_; clear nR_; refine ⟨_, rfl, ?_⟩; have n0_ := Aside0.mk (Kd.V_elder' (by (with_reducible repeat (first | apply Kd.V_alloc | apply Kd.V_drewN | apply Kd.V_drew)); exact HO_0.out) (Kd.R_base ho0) hb); have n1_ := Aside0.mk (Kd.V_elder' (by (with_reducible repeat (first | apply Kd.V_alloc | apply Kd.V_drewN | apply Kd.V_drew)); exact HO_1.out) (Kd.R_base ho0) hb); have n2_ := Aside0.mk (Kd.R_elder' (by (with_reducible repeat (first | apply Kd.R_alloc | apply Kd.R_drewN | apply Kd.R_drew)); exact HO_5.out) (Kd.R_base ho0) hb); have n3_ := Aside0.mk (Kd.R_elder' (by (with_reducible repeat (first | apply Kd.R_alloc | apply Kd.R_drewN | apply Kd.R_drew)); exact HO_6.out) (Kd.R_base ho0) hb); have n4_ := Aside0.mk (Kd.R_lower (Kd.R_new' (Kd.R_new' (Kd.R_newM (M := fun k_ => (w.heap.size ≤ k_)) ho0 (below_size (by repeat (first | (with_reducible first | exact HB.out | apply below_alloc | apply pw_below_drewN | apply below_drew1) | exact HB.out))) (fun k_ h_ => h_)) (Kd.R_lt (by (with_reducible repeat (first | apply Kd.R_alloc | apply Kd.R_drewN | apply Kd.R_drew)); exact HO_5.out))) (Kd.R_lt (by (with_reducible repeat (first | apply Kd.R_alloc | apply Kd.R_drewN | apply Kd.R_drew)); exact HO_6.out))) (below_size (by repeat (first | (with_reducible first | exact HB.out | apply below_alloc | apply pw_below_drewN | apply below_drew1) | exact HB.out)))); have n5_ := Aside0.mk (below_step (by repeat (first | (with_reducible first | exact HB.out | apply below_alloc | apply pw_below_drewN | apply below_drew1) | exact HB.out)) hb); clear HO_0; clear HO_1; clear HO_5; clear HO_6; clear HB; have HO_0 := n0_; have HO_1 := n1_; have HO_5 := n2_; have HO_6 := n3_; have HO1261 := n4_; have HB := n5_; clear n0_ n1_ n2_ n3_ n4_ n5_; (try clear hb); (try clear hb2); (try clear hk); (try clear hi); (try clear ho0)) | (go_at_call 76; (with_reducible refine (pylonref14_Both.calls k2 (fun k_ => ((((P0_ k_ ∨ P1_ k_) ∨ w.heap.size ≤ k_) ∧ (some k_ ≠ (.slice Ao51 t1249.length co51 : Value).ownBlock ∧ some k_ ≠ (.slice Ao52 t1252.length co52 : Value).ownBlock)) ∧ some k_ ≠ (v1260 : Value).ownBlock)) _ _ l0 (fun k_ => ((((P0_ k_ ∨ P1_ k_) ∨ w.heap.size ≤ k_) ∧ (some k_ ≠ (.slice Ao51 t1249.length co51 : Value).ownBlock ∧ some k_ ≠ (.slice Ao52 t1252.length co52 : Value).ownBlock)) ∧ some k_ ≠ (v1260 : Value).ownBlock)) _ _ l1 t1262 _ ?side1 ?side2 A27.out).mono ?_); (case side1 => exact HO_0.out); (case side2 => exact HO_1.out); rintro e w54 ⟨v1263, rfl, ho0, hb⟩; have KG1264 := Aside0.mk (show ∀ k_, some k_ = (v1263 : Value).ownBlock → wr.heap.size ≤ k_ from fun k_ h_ => Nat.le_trans RB.out.size (Kd.R_base ho0 k_ h_.symm)); have nR_ := Aside0.mk (below_step (by repeat (first | (with_reducible first | exact RB.out | apply below_alloc | apply pw_below_drewN | apply below_drew1) | exact RB.out)) hb); clear RB; have RB := nR_; clear nR_; have n0_ := Aside0.mk (Kd.V_elder' (by (with_reducible repeat (first | apply Kd.V_alloc | apply Kd.V_drewN | apply Kd.V_drew)); exact HO_0.out) (Kd.R_base ho0) hb); have n1_ := Aside0.mk (Kd.V_elder' (by (with_reducible repeat (first | apply Kd.V_alloc | apply Kd.V_drewN | apply Kd.V_drew)); exact HO_1.out) (Kd.R_base ho0) hb); have n2_ := Aside0.mk (Kd.R_elder' (by (with_reducible repeat (first | apply Kd.R_alloc | apply Kd.R_drewN | apply Kd.R_drew)); exact HO_5.out) (Kd.R_base ho0) hb); have n3_ := Aside0.mk (Kd.R_elder' (by (with_reducible repeat (first | apply Kd.R_alloc | apply Kd.R_drewN | apply Kd.R_drew)); exact HO_6.out) (Kd.R_base ho0) hb); have n4_ := Aside0.mk (Kd.R_elder' (by (with_reducible repeat (first | apply Kd.R_alloc | apply Kd.R_drewN | apply Kd.R_drew)); exact HO1261.out) (Kd.R_base ho0) hb); have n5_ := Aside0.mk (Kd.R_lower (Kd.R_new' (Kd.R_new' (Kd.R_new' (Kd.R_newM (M := fun k_ => (w.heap.size ≤ k_)) (Kd.R_mono (ok' := fun k_ => True) ho0 (fun _ hk_ => trivial)) (below_size (by repeat (first | (with_reducible first | exact HB.out | apply below_alloc | apply pw_below_drewN | apply below_drew1) | exact HB.out))) (fun k_ h_ => h_)) (Kd.R_lt (by (with_reducible repeat (first | apply Kd.R_alloc | apply Kd.R_drewN | apply Kd.R_drew)); exact HO_5.out))) (Kd.R_lt (by (with_reducible repeat (first | apply Kd.R_alloc | apply Kd.R_drewN | apply Kd.R_drew)); exact HO_6.out))) (Kd.R_lt (by (with_reducible repeat (first | apply Kd.R_alloc | apply Kd.R_drewN | apply Kd.R_drew)); exact HO1261.out))) (below_size (by repeat (first | (with_reducible first | exact HB.out | apply below_alloc | apply pw_below_drewN | apply below_drew1) | exact HB.out)))); have n6_ := Aside0.mk (below_step (by repeat (first | (with_reducible first | exact HB.out | apply below_alloc | apply pw_below_drewN | apply below_drew1) | exact HB.out)) hb); clear HO_0; clear HO_1; clear HO_5; clear HO_6; clear HO1261; clear HB; have HO_0 := n0_; have HO_1 := n1_; have HO_5 := n2_; have HO_6 := n3_; have HO1261 := n4_; have HO1264 := n5_; have HB := n6_; clear n0_ n1_ n2_ n3_ n4_ n5_ n6_; (try clear hb); (try clear hb2); (try clear hk); (try clear hi); (try clear ho0); obtain ⟨Ao55, co55, eo55⟩ := Kd.R_slice HO1261.out; subst eo55; obtain ⟨Ao56, co56, eo56⟩ := Kd.R_slice HO1264.out; subst eo56) | (go_at_call 36; (with_reducible refine (pylonref14_Ints.calls k2 _ _ t1258 _ _ t1262 true _ ?side1 ?side2 ?side3 ?side4 A28.out).mono ?_); (case side1 => repeat (first | exact (Kd.R_reads' HO1261.out).2.2 | (with_reducible refine Kd.C_alloc ?_ _) | (with_reducible refine Kd.C_drewN ?_ _) | (with_reducible refine Kd.C_drew ?_))); (case side2 => exact (Kd.R_reads' HO1261.out).2.1); (case side3 => repeat (first | exact (Kd.R_reads' HO1264.out).2.2 | (with_reducible refine Kd.C_alloc ?_ _) | (with_reducible refine Kd.C_drewN ?_ _) | (with_reducible refine Kd.C_drew ?_))); (case side4 => exact (Kd.R_reads' HO1264.out).2.1); rintro e w' ⟨rfl, ⟨nd, rfl⟩⟩) | (go_at_call 36; (with_reducible refine (pylonref14_Ints.calls k2 _ _ t1249 _ _ l0 false _ ?side1 ?side2 ?side3 ?side4 A30.out).mono ?_); (case side1 => repeat (first | exact (Kd.R_reads' HO_5.out).2.2 | (with_reducible refine Kd.C_alloc ?_ _) | (with_reducible refine Kd.C_drewN ?_ _) | (with_reducible refine Kd.C_drew ?_))); (case side2 => exact (Kd.R_reads' HO_5.out).2.1); (case side3 => repeat (first | exact (Kd.V_reads' HO_0.out).2.2 | (with_reducible refine Kd.C_alloc ?_ _) | (with_reducible refine Kd.C_drewN ?_ _) | (with_reducible refine Kd.C_drew ?_))); (case side4 => exact (Kd.V_reads' HO_0.out).2.1); rintro e w' ⟨rfl, ⟨nd, rfl⟩⟩))
           go_ret
           exact ⟨by first | rfl | (simp [errW_none, errW_some] <;> rfl) | (simp [*, errW_none, errW_some] <;> rfl), by repeat (first | (with_reducible first | exact HB.out | apply below_alloc | apply pw_below_drewN | apply below_drew1) | exact HB.out)⟩
         ·replace c29 := Bool.eq_false_iff.mpr c29
          subst c29
          have H1 : (some false) = some r := by rw [if_neg (show ¬ (false = true) by decide)] at H; exact H
          clear H
          have H := H1
          clear H1
          obtain rfl := Option.some.inj H
          obtain ⟨Ao57, co57, eo57⟩ := Kd.R_slice HO_5.out
          subst eo57
          obtain ⟨Ao58, co58, eo58⟩ := Kd.R_slice HO_6.out
          subst eo58
          go_wp2_with (first | ((with_reducible refine gate_callee (f := 49) rfl ?_); refine goesL_ (some 34) rfl rfl Try.func49 (by kernel_rfl) rfl #[.slice Ao57 t1249.length co57, .slice Ao58 t1252.length co58] rfl (by (try simp only [List.map_toArray, List.map_cons, List.map_nil]); first | done | rfl | (simp only [List.length_drop, List.length_take]; rfl)) ?_; (with_reducible refine (net_Union.calls _ _ t1249 _ _ t1252 t1258 t1259 _ ?side1 ?side2 ?side3 ?side4 A24.out).mono ?_); (case side1 => repeat (first | exact (Kd.R_reads' HO_5.out).2.2 | (with_reducible refine Kd.C_alloc ?_ _) | (with_reducible refine Kd.C_drewN ?_ _) | (with_reducible refine Kd.C_drew ?_))); (case side2 => exact (Kd.R_reads' HO_5.out).2.1); (case side3 => repeat (first | exact (Kd.R_reads' HO_6.out).2.2 | (with_reducible refine Kd.C_alloc ?_ _) | (with_reducible refine Kd.C_drewN ?_ _) | (with_reducible refine Kd.C_drew ?_))); (case side4 => exact (Kd.R_reads' HO_6.out).2.1); rintro e w59 ⟨v1260, rfl, ho0, hb⟩; have KG1261 := Aside0.mk (show ∀ k_, some k_ = (v1260 : Value).ownBlock → wr.heap.size ≤ k_ from fun k_ h_ => Nat.le_trans RB.out.size (Kd.R_base ho0 k_ h_.symm)); have nR_ := Aside0.mk (below_step (by repeat (first | (with_reducible first | exact RB.out | apply below_alloc | apply pw_below_drewN | apply below_drew1) | exact RB.out)) hb); clear RB; have RB := nR_; clear nR_; refine ⟨_, rfl, ?_⟩; have n0_ := Aside0.mk (Kd.V_elder' (by (with_reducible repeat (first | apply Kd.V_alloc | apply Kd.V_drewN | apply Kd.V_drew)); exact HO_0.out) (Kd.R_base ho0) hb); have n1_ := Aside0.mk (Kd.V_elder' (by (with_reducible repeat (first | apply Kd.V_alloc | apply Kd.V_drewN | apply Kd.V_drew)); exact HO_1.out) (Kd.R_base ho0) hb); have n2_ := Aside0.mk (Kd.R_elder' (by (with_reducible repeat (first | apply Kd.R_alloc | apply Kd.R_drewN | apply Kd.R_drew)); exact HO_5.out) (Kd.R_base ho0) hb); have n3_ := Aside0.mk (Kd.R_elder' (by (with_reducible repeat (first | apply Kd.R_alloc | apply Kd.R_drewN | apply Kd.R_drew)); exact HO_6.out) (Kd.R_base ho0) hb); have n4_ := Aside0.mk (Kd.R_lower (Kd.R_new' (Kd.R_new' (Kd.R_newM (M := fun k_ => (w.heap.size ≤ k_)) ho0 (below_size (by repeat (first | (with_reducible first | exact HB.out | apply below_alloc | apply pw_below_drewN | apply below_drew1) | exact HB.out))) (fun k_ h_ => h_)) (Kd.R_lt (by (with_reducible repeat (first | apply Kd.R_alloc | apply Kd.R_drewN | apply Kd.R_drew)); exact HO_5.out))) (Kd.R_lt (by (with_reducible repeat (first | apply Kd.R_alloc | apply Kd.R_drewN | apply Kd.R_drew)); exact HO_6.out))) (below_size (by repeat (first | (with_reducible first | exact HB.out | apply below_alloc | apply pw_below_drewN | apply below_drew1) | exact HB.out)))); have n5_ := Aside0.mk (below_step (by repeat (first | (with_reducible first | exact HB.out | apply below_alloc | apply pw_below_drewN | apply below_drew1) | exact HB.out)) hb); clear HO_0; clear HO_1; clear HO_5; clear HO_6; clear HB; have HO_0 := n0_; have HO_1 := n1_; have HO_5 := n2_; have HO_6 := n3_; have HO1261 := n4_; have HB := n5_; clear n0_ n1_ n2_ n3_ n4_ n5_; (try clear hb); (try clear hb2); (try clear hk); (try clear hi); (try clear ho0)) | (go_at_call 76; (with_reducible refine (pylonref14_Both.calls k2 (fun k_ => ((((P0_ k_ ∨ P1_ k_) ∨ w.heap.size ≤ k_) ∧ (some k_ ≠ (.slice Ao57 t1249.length co57 : Value).ownBlock ∧ some k_ ≠ (.slice Ao58 t1252.length co58 : Value).ownBlock)) ∧ some k_ ≠ (v1260 : Value).ownBlock)) _ _ l0 (fun k_ => ((((P0_ k_ ∨ P1_ k_) ∨ w.heap.size ≤ k_) ∧ (some k_ ≠ (.slice Ao57 t1249.length co57 : Value).ownBlock ∧ some k_ ≠ (.slice Ao58 t1252.length co58 : Value).ownBlock)) ∧ some k_ ≠ (v1260 : Value).ownBlock)) _ _ l1 t1262 _ ?side1 ?side2 A27.out).mono ?_); (case side1 => exact HO_0.out); (case side2 => exact HO_1.out); rintro e w60 ⟨v1263, rfl, ho0, hb⟩; have KG1264 := Aside0.mk (show ∀ k_, some k_ = (v1263 : Value).ownBlock → wr.heap.size ≤ k_ from fun k_ h_ => Nat.le_trans RB.out.size (Kd.R_base ho0 k_ h_.symm)); have nR_ := Aside0.mk (below_step (by repeat (first | (with_reducible first | exact RB.out | apply below_alloc | apply pw_below_drewN | apply below_drew1) | exact RB.out)) hb); clear RB; have RB := nR_; clear nR_; have n0_ := Aside0.mk (Kd.V_elder' (by (with_reducible repeat (first | apply Kd.V_alloc | apply Kd.V_drewN | apply Kd.V_drew)); exact HO_0.out) (Kd.R_base ho0) hb); have n1_ := Aside0.mk (Kd.V_elder' (by (with_reducible repeat (first | apply Kd.V_alloc | apply Kd.V_drewN | apply Kd.V_drew)); exact HO_1.out) (Kd.R_base ho0) hb); have n2_ := Aside0.mk (Kd.R_elder' (by (with_reducible repeat (first | apply Kd.R_alloc | apply Kd.R_drewN | apply Kd.R_drew)); exact HO_5.out) (Kd.R_base ho0) hb); have n3_ := Aside0.mk (Kd.R_elder' (by (with_reducible repeat (first | apply Kd.R_alloc | apply Kd.R_drewN | apply Kd.R_drew)); exact HO_6.out) (Kd.R_base ho0) hb); have n4_ := Aside0.mk (Kd.R_elder' (by (with_reducible repeat (first | apply Kd.R_alloc | apply Kd.R_drewN | apply Kd.R_drew)); exact HO1261.out) (Kd.R_base ho0) hb); have n5_ := Aside0.mk (Kd.R_lower (Kd.R_new' (Kd.R_new' (Kd.R_new' (Kd.R_newM (M := fun k_ => (w.heap.size ≤ k_)) (Kd.R_mono (ok' := fun k_ => True) ho0 (fun _ hk_ => trivial)) (below_size (by repeat (first | (with_reducible first | exact HB.out | apply below_alloc | apply pw_below_drewN | apply below_drew1) | exact HB.out))) (fun k_ h_ => h_)) (Kd.R_lt (by (with_reducible repeat (first | apply Kd.R_alloc | apply Kd.R_drewN | apply Kd.R_drew)); exact HO_5.out))) (Kd.R_lt (by (with_reducible repeat (first | apply Kd.R_alloc | apply Kd.R_drewN | apply Kd.R_drew)); exact HO_6.out))) (Kd.R_lt (by (with_reducible repeat (first | apply Kd.R_alloc | apply Kd.R_drewN | apply Kd.R_drew)); exact HO1261.out))) (below_size (by repeat (first | (with_reducible first | exact HB.out | apply below_alloc | apply pw_below_drewN | apply below_drew1) | exact HB.out)))); have n6_ := Aside0.mk (below_step (by repeat (first | (with_reducible first | exact HB.out | apply below_alloc | apply pw_below_drewN | apply below_drew1) | exact HB.out)) hb); clear HO_0; clear HO_1; clear HO_5; clear HO_6; clear HO1261; clear HB; have HO_0 := n0_; have HO_1 := n1_; have HO_5 := n2_; have HO_6 := n3_; have HO1261 := n4_; have HO1264 := n5_; have HB := n6_; clear n0_ n1_ n2_ n3_ n4_ n5_ n6_; (try clear hb); (try clear hb2); (try clear hk); (try clear hi); (try clear ho0); obtain ⟨Ao61, co61, eo61⟩ := Kd.R_slice HO1261.out; subst eo61; obtain ⟨Ao62, co62, eo62⟩ := Kd.R_slice HO1264.out; subst eo62) | (go_at_call 36; (with_reducible refine (pylonref14_Ints.calls k2 _ _ t1258 _ _ t1262 false _ ?side1 ?side2 ?side3 ?side4 A28.out).mono ?_); (case side1 => repeat (first | exact (Kd.R_reads' HO1261.out).2.2 | (with_reducible refine Kd.C_alloc ?_ _) | (with_reducible refine Kd.C_drewN ?_ _) | (with_reducible refine Kd.C_drew ?_))); (case side2 => exact (Kd.R_reads' HO1261.out).2.1); (case side3 => repeat (first | exact (Kd.R_reads' HO1264.out).2.2 | (with_reducible refine Kd.C_alloc ?_ _) | (with_reducible refine Kd.C_drewN ?_ _) | (with_reducible refine Kd.C_drew ?_))); (case side4 => exact (Kd.R_reads' HO1264.out).2.1); rintro e w' ⟨rfl, ⟨nd, rfl⟩⟩))
          go_ret
          exact ⟨by first | rfl | (simp [errW_none, errW_some] <;> rfl) | (simp [*, errW_none, errW_some] <;> rfl), by repeat (first | (with_reducible first | exact HB.out | apply below_alloc | apply pw_below_drewN | apply below_drew1) | exact HB.out)⟩
        ·rw [if_neg c26] at H
         have c26b0 : (t1259 == 0) = false := beq_eq_false_iff_ne.mpr c26
         have c26b1 : (t1259 != 0) = true := bne_iff_ne.mpr c26
         obtain rfl := Option.some.inj H
         obtain ⟨Ao63, co63, eo63⟩ := Kd.R_slice HO_5.out
         subst eo63
         obtain ⟨Ao64, co64, eo64⟩ := Kd.R_slice HO_6.out
         subst eo64
         go_wp2_with (first | ((with_reducible refine gate_callee (f := 49) rfl ?_); refine goesL_ (some 34) rfl rfl Try.func49 (by kernel_rfl) rfl #[.slice Ao63 t1249.length co63, .slice Ao64 t1252.length co64] rfl (by (try simp only [List.map_toArray, List.map_cons, List.map_nil]); first | done | rfl | (simp only [List.length_drop, List.length_take]; rfl)) ?_; (with_reducible refine (net_Union.calls _ _ t1249 _ _ t1252 t1258 t1259 _ ?side1 ?side2 ?side3 ?side4 A24.out).mono ?_); (case side1 => repeat (first | exact (Kd.R_reads' HO_5.out).2.2 | (with_reducible refine Kd.C_alloc ?_ _) | (with_reducible refine Kd.C_drewN ?_ _) | (with_reducible refine Kd.C_drew ?_))); (case side2 => exact (Kd.R_reads' HO_5.out).2.1); (case side3 => repeat (first | exact (Kd.R_reads' HO_6.out).2.2 | (with_reducible refine Kd.C_alloc ?_ _) | (with_reducible refine Kd.C_drewN ?_ _) | (with_reducible refine Kd.C_drew ?_))); (case side4 => exact (Kd.R_reads' HO_6.out).2.1); rintro e w65 ⟨v1260, rfl, ho0, hb⟩; have KG1261 := Aside0.mk (show ∀ k_, some k_ = (v1260 : Value).ownBlock → wr.heap.size ≤ k_ from fun k_ h_ => Nat.le_trans RB.out.size (Kd.R_base ho0 k_ h_.symm)); have nR_ := Aside0.mk (below_step (by repeat (first | (with_reducible first | exact RB.out | apply below_alloc | apply pw_below_drewN | apply below_drew1) | exact RB.out)) hb); clear RB; have RB := nR_; clear nR_; refine ⟨_, rfl, ?_⟩; have n0_ := Aside0.mk (Kd.V_elder' (by (with_reducible repeat (first | apply Kd.V_alloc | apply Kd.V_drewN | apply Kd.V_drew)); exact HO_0.out) (Kd.R_base ho0) hb); have n1_ := Aside0.mk (Kd.V_elder' (by (with_reducible repeat (first | apply Kd.V_alloc | apply Kd.V_drewN | apply Kd.V_drew)); exact HO_1.out) (Kd.R_base ho0) hb); have n2_ := Aside0.mk (Kd.R_elder' (by (with_reducible repeat (first | apply Kd.R_alloc | apply Kd.R_drewN | apply Kd.R_drew)); exact HO_5.out) (Kd.R_base ho0) hb); have n3_ := Aside0.mk (Kd.R_elder' (by (with_reducible repeat (first | apply Kd.R_alloc | apply Kd.R_drewN | apply Kd.R_drew)); exact HO_6.out) (Kd.R_base ho0) hb); have n4_ := Aside0.mk (Kd.R_lower (Kd.R_new' (Kd.R_new' (Kd.R_newM (M := fun k_ => (w.heap.size ≤ k_)) ho0 (below_size (by repeat (first | (with_reducible first | exact HB.out | apply below_alloc | apply pw_below_drewN | apply below_drew1) | exact HB.out))) (fun k_ h_ => h_)) (Kd.R_lt (by (with_reducible repeat (first | apply Kd.R_alloc | apply Kd.R_drewN | apply Kd.R_drew)); exact HO_5.out))) (Kd.R_lt (by (with_reducible repeat (first | apply Kd.R_alloc | apply Kd.R_drewN | apply Kd.R_drew)); exact HO_6.out))) (below_size (by repeat (first | (with_reducible first | exact HB.out | apply below_alloc | apply pw_below_drewN | apply below_drew1) | exact HB.out)))); have n5_ := Aside0.mk (below_step (by repeat (first | (with_reducible first | exact HB.out | apply below_alloc | apply pw_below_drewN | apply below_drew1) | exact HB.out)) hb); clear HO_0; clear HO_1; clear HO_5; clear HO_6; clear HB; have HO_0 := n0_; have HO_1 := n1_; have HO_5 := n2_; have HO_6 := n3_; have HO1261 := n4_; have HB := n5_; clear n0_ n1_ n2_ n3_ n4_ n5_; (try clear hb); (try clear hb2); (try clear hk); (try clear hi); (try clear ho0)))
         go_ret
         exact ⟨by first | rfl | (simp [errW_none, errW_some] <;> rfl) | (simp [*, errW_none, errW_some] <;> rfl), by repeat (first | (with_reducible first | exact HB.out | apply below_alloc | apply pw_below_drewN | apply below_drew1) | exact HB.out)⟩
       ·replace c25 := Bool.eq_false_iff.mpr c25
        subst c25
        have H1 : (if t1259 = 1 then (if (t1258.length : Int) = 0 then ((pylonref14_Ints.f k2 t1249 l0).bind fun t1271 => (if t1271 = true then ((pylonref14_Ints.f k2 t1252 l1).bind fun t1272 => (if t1272 = true then ((pylonlaw14_spoil.f 0 ([] : List (S37)) (([t1258] : List (List Int)))).bind fun _ => (pylonlaw14_NetUnionMatches.l0 k2 l0 l1 t1249 t1252 false (wrap64 (x8_2 + 1)))) else (some false))) else (some false))) else (some false)) else (some false)) = some r := by rw [if_neg (show ¬ (false = true) by decide)] at H; exact H
        clear H
        have H := H1
        clear H1
        by_cases c66 : t1259 = 1
        ·rw [if_pos c66] at H
         have c66b0 : (t1259 == 1) = true := beq_iff_eq.mpr c66
         have c66b1 : (t1259 != 1) = false := bne_eq_false_iff_eq.mpr c66
         clear c66
         by_cases c67 : (t1258.length : Int) = 0
         ·rw [if_pos c67] at H
          have c67b0 : ((t1258.length : Int) == 0) = true := beq_iff_eq.mpr c67
          have c67b1 : ((t1258.length : Int) != 0) = false := bne_eq_false_iff_eq.mpr c67
          clear c67
          replace H := Option.bind_eq_some_iff.mp H
          obtain ⟨t1271, A680, H⟩ := H
          replace H : (if t1271 = true then ((pylonref14_Ints.f k2 t1252 l1).bind fun t1272 => (if t1272 = true then ((pylonlaw14_spoil.f 0 ([] : List (S37)) (([t1258] : List (List Int)))).bind fun _ => (pylonlaw14_NetUnionMatches.l0 k2 l0 l1 t1249 t1252 false (wrap64 (x8_2 + 1)))) else (some false))) else (some false)) = some r := H
          have A68 := Aside0.mk A680
          clear A680
          by_cases c69 : t1271 = true
          ·subst c69
           have H1 : ((pylonref14_Ints.f k2 t1252 l1).bind fun t1272 => (if t1272 = true then ((pylonlaw14_spoil.f 0 ([] : List (S37)) (([t1258] : List (List Int)))).bind fun _ => (pylonlaw14_NetUnionMatches.l0 k2 l0 l1 t1249 t1252 false (wrap64 (x8_2 + 1)))) else (some false))) = some r := by rw [if_pos rfl] at H; exact H
           clear H
           have H := H1
           clear H1
           replace H := Option.bind_eq_some_iff.mp H
           obtain ⟨t1272, A700, H⟩ := H
           replace H : (if t1272 = true then ((pylonlaw14_spoil.f 0 ([] : List (S37)) (([t1258] : List (List Int)))).bind fun _ => (pylonlaw14_NetUnionMatches.l0 k2 l0 l1 t1249 t1252 false (wrap64 (x8_2 + 1)))) else (some false)) = some r := H
           have A70 := Aside0.mk A700
           clear A700
           by_cases c71 : t1272 = true
           ·subst c71
            have H1 : ((pylonlaw14_spoil.f 0 ([] : List (S37)) (([t1258] : List (List Int)))).bind fun _ => (pylonlaw14_NetUnionMatches.l0 k2 l0 l1 t1249 t1252 false (wrap64 (x8_2 + 1)))) = some r := by rw [if_pos rfl] at H; exact H
            clear H
            have H := H1
            clear H1
            obtain ⟨y1273, hy1273⟩ : ∃ y_ : List (List Int), y_ = (([t1258] : List (List Int))) := ⟨_, rfl⟩
            replace H : ((pylonlaw14_spoil.f 0 ([] : List (S37)) y1273).bind fun _ => (pylonlaw14_NetUnionMatches.l0 k2 l0 l1 t1249 t1252 false (wrap64 (x8_2 + 1)))) = some r := by first | (rw [hy1273]; with_reducible exact H) | (have H2_ := (Option.bind_some _ _).symm.trans H; rw [hy1273]; with_reducible exact H2_) | (have H2_ := (Option.bind_some _ _).symm.trans H; with_reducible exact H2_) | with_reducible exact H | (rw [hy1273]; exact H) | exact H
            have Ny1273 := Aside0.mk hy1273
            clear hy1273
            replace H := Option.bind_eq_some_iff.mp H
            obtain ⟨_, A720, H⟩ := H
            replace H : (pylonlaw14_NetUnionMatches.l0 k2 l0 l1 t1249 t1252 false (wrap64 (x8_2 + 1))) = some r := H
            have A72 := Aside0.mk A720
            clear A720
            have H' := Aside0.mk H
            clear H
            obtain ⟨Ao73, co73, eo73⟩ := Kd.R_slice HO_5.out
            subst eo73
            obtain ⟨Ao74, co74, eo74⟩ := Kd.R_slice HO_6.out
            subst eo74
            go_wp2_with (first | ((with_reducible refine gate_callee (f := 49) rfl ?_); refine goesL_ (some 34) rfl rfl Try.func49 (by kernel_rfl) rfl #[.slice Ao73 t1249.length co73, .slice Ao74 t1252.length co74] rfl (by (try simp only [List.map_toArray, List.map_cons, List.map_nil]); first | done | rfl | (simp only [List.length_drop, List.length_take]; rfl)) ?_; (with_reducible refine (net_Union.calls _ _ t1249 _ _ t1252 t1258 t1259 _ ?side1 ?side2 ?side3 ?side4 A24.out).mono ?_); (case side1 => repeat (first | exact (Kd.R_reads' HO_5.out).2.2 | (with_reducible refine Kd.C_alloc ?_ _) | (with_reducible refine Kd.C_drewN ?_ _) | (with_reducible refine Kd.C_drew ?_))); (case side2 => exact (Kd.R_reads' HO_5.out).2.1); (case side3 => repeat (first | exact (Kd.R_reads' HO_6.out).2.2 | (with_reducible refine Kd.C_alloc ?_ _) | (with_reducible refine Kd.C_drewN ?_ _) | (with_reducible refine Kd.C_drew ?_))); (case side4 => exact (Kd.R_reads' HO_6.out).2.1); rintro e w75 ⟨v1260, rfl, ho0, hb⟩; have KG1261 := Aside0.mk (show ∀ k_, some k_ = (v1260 : Value).ownBlock → wr.heap.size ≤ k_ from fun k_ h_ => Nat.le_trans RB.out.size (Kd.R_base ho0 k_ h_.symm)); have nR_ := Aside0.mk (below_step (by repeat (first | (with_reducible first | exact RB.out | apply below_alloc | apply pw_below_drewN | apply below_drew1) | exact RB.out)) hb); clear RB; have RB := nR_; clear nR_; refine ⟨_, rfl, ?_⟩; have n0_ := Aside0.mk (Kd.V_elder' (by (with_reducible repeat (first | apply Kd.V_alloc | apply Kd.V_drewN | apply Kd.V_drew)); exact HO_0.out) (Kd.R_base ho0) hb); have n1_ := Aside0.mk (Kd.V_elder' (by (with_reducible repeat (first | apply Kd.V_alloc | apply Kd.V_drewN | apply Kd.V_drew)); exact HO_1.out) (Kd.R_base ho0) hb); have n2_ := Aside0.mk (Kd.R_elder' (by (with_reducible repeat (first | apply Kd.R_alloc | apply Kd.R_drewN | apply Kd.R_drew)); exact HO_5.out) (Kd.R_base ho0) hb); have n3_ := Aside0.mk (Kd.R_elder' (by (with_reducible repeat (first | apply Kd.R_alloc | apply Kd.R_drewN | apply Kd.R_drew)); exact HO_6.out) (Kd.R_base ho0) hb); have n4_ := Aside0.mk (Kd.R_lower (Kd.R_new' (Kd.R_new' (Kd.R_newM (M := fun k_ => (w.heap.size ≤ k_)) ho0 (below_size (by repeat (first | (with_reducible first | exact HB.out | apply below_alloc | apply pw_below_drewN | apply below_drew1) | exact HB.out))) (fun k_ h_ => h_)) (Kd.R_lt (by (with_reducible repeat (first | apply Kd.R_alloc | apply Kd.R_drewN | apply Kd.R_drew)); exact HO_5.out))) (Kd.R_lt (by (with_reducible repeat (first | apply Kd.R_alloc | apply Kd.R_drewN | apply Kd.R_drew)); exact HO_6.out))) (below_size (by repeat (first | (with_reducible first | exact HB.out | apply below_alloc | apply pw_below_drewN | apply below_drew1) | exact HB.out)))); have n5_ := Aside0.mk (below_step (by repeat (first | (with_reducible first | exact HB.out | apply below_alloc | apply pw_below_drewN | apply below_drew1) | exact HB.out)) hb); clear HO_0; clear HO_1; clear HO_5; clear HO_6; clear HB; have HO_0 := n0_; have HO_1 := n1_; have HO_5 := n2_; have HO_6 := n3_; have HO1261 := n4_; have HB := n5_; clear n0_ n1_ n2_ n3_ n4_ n5_; (try clear hb); (try clear hb2); (try clear hk); (try clear hi); (try clear ho0); obtain ⟨Ao76, co76, eo76⟩ := Kd.R_slice HO1261.out; subst eo76) | (go_at_call 36; (with_reducible refine (pylonref14_Ints.calls k2 _ _ t1249 _ _ l0 true _ ?side1 ?side2 ?side3 ?side4 A68.out).mono ?_); (case side1 => repeat (first | exact (Kd.R_reads' HO_5.out).2.2 | (with_reducible refine Kd.C_alloc ?_ _) | (with_reducible refine Kd.C_drewN ?_ _) | (with_reducible refine Kd.C_drew ?_))); (case side2 => exact (Kd.R_reads' HO_5.out).2.1); (case side3 => repeat (first | exact (Kd.V_reads' HO_0.out).2.2 | (with_reducible refine Kd.C_alloc ?_ _) | (with_reducible refine Kd.C_drewN ?_ _) | (with_reducible refine Kd.C_drew ?_))); (case side4 => exact (Kd.V_reads' HO_0.out).2.1); rintro e w' ⟨rfl, ⟨nd, rfl⟩⟩) | (go_at_call 36; (with_reducible refine (pylonref14_Ints.calls k2 _ _ t1252 _ _ l1 true _ ?side1 ?side2 ?side3 ?side4 A70.out).mono ?_); (case side1 => repeat (first | exact (Kd.R_reads' HO_6.out).2.2 | (with_reducible refine Kd.C_alloc ?_ _) | (with_reducible refine Kd.C_drewN ?_ _) | (with_reducible refine Kd.C_drew ?_))); (case side2 => exact (Kd.R_reads' HO_6.out).2.1); (case side3 => repeat (first | exact (Kd.V_reads' HO_1.out).2.2 | (with_reducible refine Kd.C_alloc ?_ _) | (with_reducible refine Kd.C_drewN ?_ _) | (with_reducible refine Kd.C_drew ?_))); (case side4 => exact (Kd.V_reads' HO_1.out).2.1); rintro e w' ⟨rfl, ⟨nd, rfl⟩⟩) | ((with_reducible refine gate_dst (N := 77) rfl ?_); (try (refine gate_guard (by rfl) ?_; dsimp only)); refine rows_event ?hg (N := 77) ?hd (n := 1) (inner := [.slice Ao76 t1258.length co76]) (e := 25) ?hr ?_; (case hd => rfl); (case hg => rfl); (case hr => first | (go_simp; done) | (go_simp; rfl)); intro gy1273 hg_ w77 hrow_ hb; have KR0 := Aside0.mk (RowOk.below (RowOk.of_R (by (with_reducible repeat (first | apply Kd.R_alloc | apply Kd.R_drewN | apply Kd.R_drew)); exact HO1261.out)) hb); have KN0 := Aside0.mk (show ∀ k_, some k_ = (.slice Ao76 t1258.length co76 : Value).ownBlock → k_ < gy1273 from fun k_ h_ => by rw [hg_]; exact Kd.R_lt HO1261.out k_ h_.symm); have KY := Aside0.mk hrow_; clear hrow_ hg_; have nR_ := Aside0.mk (below_step (by repeat (first | (with_reducible first | exact RB.out | apply below_alloc | apply pw_below_drewN | apply below_drew1) | exact RB.out)) hb); clear RB; have RB := nR_; clear nR_; (try clear hb)) | ((with_reducible refine gate_callee (f := 74) rfl ?_); refine goesL_ (some 78) rfl rfl Try.func74 (by kernel_rfl) rfl #[.agg #[.int .i64 0, .slice none 0 0], .slice (some ⟨gy1273, 0, none⟩) 1 1] rfl (by (try simp only [List.map_toArray, List.map_cons, List.map_nil]); first | done | rfl | (simp only [List.length_drop, List.length_take]; rfl)) ?_; refine (pylonlaw14_spoil.real0 0 (fun k_ => some k_ = (.slice Ao76 t1258.length co76 : Value).ownBlock) (some ⟨gy1273, 0, none⟩) [.slice Ao76 t1258.length co76] 1 _ (show 1 ≤ 9223372036854775807 by decide) (rows_lit KY.out (fun h_ => Nat.lt_irrefl _ (KN0.out _ h_)) (List.forall_mem_cons.2 ⟨KR0.out.mono (fun k_ h_ => h_), List.forall_mem_nil _⟩))).mono ?_; rintro e w80 ⟨rfl, hsk_⟩; refine ⟨_, rfl, ?_⟩; have nR_ := Aside0.mk (SpoilKept.below hsk_ (by repeat (first | (with_reducible first | exact RB.out | apply below_alloc | apply pw_below_drewN | apply below_drew1) | exact RB.out)) RB.out.size (fun k_ h_ => (fun h_ => by first | exact KG1261.out k_ h_ | exact KG1264.out k_ h_) h_)); clear RB; have RB := nR_; clear nR_; have KS := Aside0.mk hsk_; clear hsk_))
            go_roundg k2
            case measure => have := HJ12.out; have := HK2.out; omega
            case rel => exact ⟨(wrap64 (x8_2 + 1)), (by first | rfl | (simp; done) | (simp [*]; done)), H', ⟨by have := HJ12.out; have := HK2.out; omega⟩, ⟨Kd.V_below SVHO_0.out RB.out⟩, ⟨Kd.V_below SVHO_1.out RB.out⟩, ⟨Kd.R_below SVHO_5.out RB.out⟩, ⟨Kd.R_below SVHO_6.out RB.out⟩, ⟨SVHB.out.trans (RB.out.mono SVHB.out.size)⟩⟩
           ·replace c71 := Bool.eq_false_iff.mpr c71
            subst c71
            have H1 : (some false) = some r := by rw [if_neg (show ¬ (false = true) by decide)] at H; exact H
            clear H
            have H := H1
            clear H1
            obtain rfl := Option.some.inj H
            obtain ⟨Ao81, co81, eo81⟩ := Kd.R_slice HO_5.out
            subst eo81
            obtain ⟨Ao82, co82, eo82⟩ := Kd.R_slice HO_6.out
            subst eo82
            go_wp2_with (first | ((with_reducible refine gate_callee (f := 49) rfl ?_); refine goesL_ (some 34) rfl rfl Try.func49 (by kernel_rfl) rfl #[.slice Ao81 t1249.length co81, .slice Ao82 t1252.length co82] rfl (by (try simp only [List.map_toArray, List.map_cons, List.map_nil]); first | done | rfl | (simp only [List.length_drop, List.length_take]; rfl)) ?_; (with_reducible refine (net_Union.calls _ _ t1249 _ _ t1252 t1258 t1259 _ ?side1 ?side2 ?side3 ?side4 A24.out).mono ?_); (case side1 => repeat (first | exact (Kd.R_reads' HO_5.out).2.2 | (with_reducible refine Kd.C_alloc ?_ _) | (with_reducible refine Kd.C_drewN ?_ _) | (with_reducible refine Kd.C_drew ?_))); (case side2 => exact (Kd.R_reads' HO_5.out).2.1); (case side3 => repeat (first | exact (Kd.R_reads' HO_6.out).2.2 | (with_reducible refine Kd.C_alloc ?_ _) | (with_reducible refine Kd.C_drewN ?_ _) | (with_reducible refine Kd.C_drew ?_))); (case side4 => exact (Kd.R_reads' HO_6.out).2.1); rintro e w83 ⟨v1260, rfl, ho0, hb⟩; have KG1261 := Aside0.mk (show ∀ k_, some k_ = (v1260 : Value).ownBlock → wr.heap.size ≤ k_ from fun k_ h_ => Nat.le_trans RB.out.size (Kd.R_base ho0 k_ h_.symm)); have nR_ := Aside0.mk (below_step (by repeat (first | (with_reducible first | exact RB.out | apply below_alloc | apply pw_below_drewN | apply below_drew1) | exact RB.out)) hb); clear RB; have RB := nR_; clear nR_; refine ⟨_, rfl, ?_⟩; have n0_ := Aside0.mk (Kd.V_elder' (by (with_reducible repeat (first | apply Kd.V_alloc | apply Kd.V_drewN | apply Kd.V_drew)); exact HO_0.out) (Kd.R_base ho0) hb); have n1_ := Aside0.mk (Kd.V_elder' (by (with_reducible repeat (first | apply Kd.V_alloc | apply Kd.V_drewN | apply Kd.V_drew)); exact HO_1.out) (Kd.R_base ho0) hb); have n2_ := Aside0.mk (Kd.R_elder' (by (with_reducible repeat (first | apply Kd.R_alloc | apply Kd.R_drewN | apply Kd.R_drew)); exact HO_5.out) (Kd.R_base ho0) hb); have n3_ := Aside0.mk (Kd.R_elder' (by (with_reducible repeat (first | apply Kd.R_alloc | apply Kd.R_drewN | apply Kd.R_drew)); exact HO_6.out) (Kd.R_base ho0) hb); have n4_ := Aside0.mk (Kd.R_lower (Kd.R_new' (Kd.R_new' (Kd.R_newM (M := fun k_ => (w.heap.size ≤ k_)) ho0 (below_size (by repeat (first | (with_reducible first | exact HB.out | apply below_alloc | apply pw_below_drewN | apply below_drew1) | exact HB.out))) (fun k_ h_ => h_)) (Kd.R_lt (by (with_reducible repeat (first | apply Kd.R_alloc | apply Kd.R_drewN | apply Kd.R_drew)); exact HO_5.out))) (Kd.R_lt (by (with_reducible repeat (first | apply Kd.R_alloc | apply Kd.R_drewN | apply Kd.R_drew)); exact HO_6.out))) (below_size (by repeat (first | (with_reducible first | exact HB.out | apply below_alloc | apply pw_below_drewN | apply below_drew1) | exact HB.out)))); have n5_ := Aside0.mk (below_step (by repeat (first | (with_reducible first | exact HB.out | apply below_alloc | apply pw_below_drewN | apply below_drew1) | exact HB.out)) hb); clear HO_0; clear HO_1; clear HO_5; clear HO_6; clear HB; have HO_0 := n0_; have HO_1 := n1_; have HO_5 := n2_; have HO_6 := n3_; have HO1261 := n4_; have HB := n5_; clear n0_ n1_ n2_ n3_ n4_ n5_; (try clear hb); (try clear hb2); (try clear hk); (try clear hi); (try clear ho0); obtain ⟨Ao84, co84, eo84⟩ := Kd.R_slice HO1261.out; subst eo84) | (go_at_call 36; (with_reducible refine (pylonref14_Ints.calls k2 _ _ t1249 _ _ l0 true _ ?side1 ?side2 ?side3 ?side4 A68.out).mono ?_); (case side1 => repeat (first | exact (Kd.R_reads' HO_5.out).2.2 | (with_reducible refine Kd.C_alloc ?_ _) | (with_reducible refine Kd.C_drewN ?_ _) | (with_reducible refine Kd.C_drew ?_))); (case side2 => exact (Kd.R_reads' HO_5.out).2.1); (case side3 => repeat (first | exact (Kd.V_reads' HO_0.out).2.2 | (with_reducible refine Kd.C_alloc ?_ _) | (with_reducible refine Kd.C_drewN ?_ _) | (with_reducible refine Kd.C_drew ?_))); (case side4 => exact (Kd.V_reads' HO_0.out).2.1); rintro e w' ⟨rfl, ⟨nd, rfl⟩⟩) | (go_at_call 36; (with_reducible refine (pylonref14_Ints.calls k2 _ _ t1252 _ _ l1 false _ ?side1 ?side2 ?side3 ?side4 A70.out).mono ?_); (case side1 => repeat (first | exact (Kd.R_reads' HO_6.out).2.2 | (with_reducible refine Kd.C_alloc ?_ _) | (with_reducible refine Kd.C_drewN ?_ _) | (with_reducible refine Kd.C_drew ?_))); (case side2 => exact (Kd.R_reads' HO_6.out).2.1); (case side3 => repeat (first | exact (Kd.V_reads' HO_1.out).2.2 | (with_reducible refine Kd.C_alloc ?_ _) | (with_reducible refine Kd.C_drewN ?_ _) | (with_reducible refine Kd.C_drew ?_))); (case side4 => exact (Kd.V_reads' HO_1.out).2.1); rintro e w' ⟨rfl, ⟨nd, rfl⟩⟩))
            go_ret
            exact ⟨by first | rfl | (simp [errW_none, errW_some] <;> rfl) | (simp [*, errW_none, errW_some] <;> rfl), by repeat (first | (with_reducible first | exact HB.out | apply below_alloc | apply pw_below_drewN | apply below_drew1) | exact HB.out)⟩
          ·replace c69 := Bool.eq_false_iff.mpr c69
           subst c69
           have H1 : (some false) = some r := by rw [if_neg (show ¬ (false = true) by decide)] at H; exact H
           clear H
           have H := H1
           clear H1
           obtain rfl := Option.some.inj H
           obtain ⟨Ao85, co85, eo85⟩ := Kd.R_slice HO_5.out
           subst eo85
           obtain ⟨Ao86, co86, eo86⟩ := Kd.R_slice HO_6.out
           subst eo86
           go_wp2_with (first | ((with_reducible refine gate_callee (f := 49) rfl ?_); refine goesL_ (some 34) rfl rfl Try.func49 (by kernel_rfl) rfl #[.slice Ao85 t1249.length co85, .slice Ao86 t1252.length co86] rfl (by (try simp only [List.map_toArray, List.map_cons, List.map_nil]); first | done | rfl | (simp only [List.length_drop, List.length_take]; rfl)) ?_; (with_reducible refine (net_Union.calls _ _ t1249 _ _ t1252 t1258 t1259 _ ?side1 ?side2 ?side3 ?side4 A24.out).mono ?_); (case side1 => repeat (first | exact (Kd.R_reads' HO_5.out).2.2 | (with_reducible refine Kd.C_alloc ?_ _) | (with_reducible refine Kd.C_drewN ?_ _) | (with_reducible refine Kd.C_drew ?_))); (case side2 => exact (Kd.R_reads' HO_5.out).2.1); (case side3 => repeat (first | exact (Kd.R_reads' HO_6.out).2.2 | (with_reducible refine Kd.C_alloc ?_ _) | (with_reducible refine Kd.C_drewN ?_ _) | (with_reducible refine Kd.C_drew ?_))); (case side4 => exact (Kd.R_reads' HO_6.out).2.1); rintro e w87 ⟨v1260, rfl, ho0, hb⟩; have KG1261 := Aside0.mk (show ∀ k_, some k_ = (v1260 : Value).ownBlock → wr.heap.size ≤ k_ from fun k_ h_ => Nat.le_trans RB.out.size (Kd.R_base ho0 k_ h_.symm)); have nR_ := Aside0.mk (below_step (by repeat (first | (with_reducible first | exact RB.out | apply below_alloc | apply pw_below_drewN | apply below_drew1) | exact RB.out)) hb); clear RB; have RB := nR_; clear nR_; refine ⟨_, rfl, ?_⟩; have n0_ := Aside0.mk (Kd.V_elder' (by (with_reducible repeat (first | apply Kd.V_alloc | apply Kd.V_drewN | apply Kd.V_drew)); exact HO_0.out) (Kd.R_base ho0) hb); have n1_ := Aside0.mk (Kd.V_elder' (by (with_reducible repeat (first | apply Kd.V_alloc | apply Kd.V_drewN | apply Kd.V_drew)); exact HO_1.out) (Kd.R_base ho0) hb); have n2_ := Aside0.mk (Kd.R_elder' (by (with_reducible repeat (first | apply Kd.R_alloc | apply Kd.R_drewN | apply Kd.R_drew)); exact HO_5.out) (Kd.R_base ho0) hb); have n3_ := Aside0.mk (Kd.R_elder' (by (with_reducible repeat (first | apply Kd.R_alloc | apply Kd.R_drewN | apply Kd.R_drew)); exact HO_6.out) (Kd.R_base ho0) hb); have n4_ := Aside0.mk (Kd.R_lower (Kd.R_new' (Kd.R_new' (Kd.R_newM (M := fun k_ => (w.heap.size ≤ k_)) ho0 (below_size (by repeat (first | (with_reducible first | exact HB.out | apply below_alloc | apply pw_below_drewN | apply below_drew1) | exact HB.out))) (fun k_ h_ => h_)) (Kd.R_lt (by (with_reducible repeat (first | apply Kd.R_alloc | apply Kd.R_drewN | apply Kd.R_drew)); exact HO_5.out))) (Kd.R_lt (by (with_reducible repeat (first | apply Kd.R_alloc | apply Kd.R_drewN | apply Kd.R_drew)); exact HO_6.out))) (below_size (by repeat (first | (with_reducible first | exact HB.out | apply below_alloc | apply pw_below_drewN | apply below_drew1) | exact HB.out)))); have n5_ := Aside0.mk (below_step (by repeat (first | (with_reducible first | exact HB.out | apply below_alloc | apply pw_below_drewN | apply below_drew1) | exact HB.out)) hb); clear HO_0; clear HO_1; clear HO_5; clear HO_6; clear HB; have HO_0 := n0_; have HO_1 := n1_; have HO_5 := n2_; have HO_6 := n3_; have HO1261 := n4_; have HB := n5_; clear n0_ n1_ n2_ n3_ n4_ n5_; (try clear hb); (try clear hb2); (try clear hk); (try clear hi); (try clear ho0); obtain ⟨Ao88, co88, eo88⟩ := Kd.R_slice HO1261.out; subst eo88) | (go_at_call 36; (with_reducible refine (pylonref14_Ints.calls k2 _ _ t1249 _ _ l0 false _ ?side1 ?side2 ?side3 ?side4 A68.out).mono ?_); (case side1 => repeat (first | exact (Kd.R_reads' HO_5.out).2.2 | (with_reducible refine Kd.C_alloc ?_ _) | (with_reducible refine Kd.C_drewN ?_ _) | (with_reducible refine Kd.C_drew ?_))); (case side2 => exact (Kd.R_reads' HO_5.out).2.1); (case side3 => repeat (first | exact (Kd.V_reads' HO_0.out).2.2 | (with_reducible refine Kd.C_alloc ?_ _) | (with_reducible refine Kd.C_drewN ?_ _) | (with_reducible refine Kd.C_drew ?_))); (case side4 => exact (Kd.V_reads' HO_0.out).2.1); rintro e w' ⟨rfl, ⟨nd, rfl⟩⟩))
           go_ret
           exact ⟨by first | rfl | (simp [errW_none, errW_some] <;> rfl) | (simp [*, errW_none, errW_some] <;> rfl), by repeat (first | (with_reducible first | exact HB.out | apply below_alloc | apply pw_below_drewN | apply below_drew1) | exact HB.out)⟩
         ·rw [if_neg c67] at H
          have c67b0 : ((t1258.length : Int) == 0) = false := beq_eq_false_iff_ne.mpr c67
          have c67b1 : ((t1258.length : Int) != 0) = true := bne_iff_ne.mpr c67
          have c67b2 : ¬ (t1258 = []) := fun h_ => c67 (by rw [h_]; rfl)
          obtain rfl := Option.some.inj H
          obtain ⟨Ao89, co89, eo89⟩ := Kd.R_slice HO_5.out
          subst eo89
          obtain ⟨Ao90, co90, eo90⟩ := Kd.R_slice HO_6.out
          subst eo90
          go_wp2_with (first | ((with_reducible refine gate_callee (f := 49) rfl ?_); refine goesL_ (some 34) rfl rfl Try.func49 (by kernel_rfl) rfl #[.slice Ao89 t1249.length co89, .slice Ao90 t1252.length co90] rfl (by (try simp only [List.map_toArray, List.map_cons, List.map_nil]); first | done | rfl | (simp only [List.length_drop, List.length_take]; rfl)) ?_; (with_reducible refine (net_Union.calls _ _ t1249 _ _ t1252 t1258 t1259 _ ?side1 ?side2 ?side3 ?side4 A24.out).mono ?_); (case side1 => repeat (first | exact (Kd.R_reads' HO_5.out).2.2 | (with_reducible refine Kd.C_alloc ?_ _) | (with_reducible refine Kd.C_drewN ?_ _) | (with_reducible refine Kd.C_drew ?_))); (case side2 => exact (Kd.R_reads' HO_5.out).2.1); (case side3 => repeat (first | exact (Kd.R_reads' HO_6.out).2.2 | (with_reducible refine Kd.C_alloc ?_ _) | (with_reducible refine Kd.C_drewN ?_ _) | (with_reducible refine Kd.C_drew ?_))); (case side4 => exact (Kd.R_reads' HO_6.out).2.1); rintro e w91 ⟨v1260, rfl, ho0, hb⟩; have KG1261 := Aside0.mk (show ∀ k_, some k_ = (v1260 : Value).ownBlock → wr.heap.size ≤ k_ from fun k_ h_ => Nat.le_trans RB.out.size (Kd.R_base ho0 k_ h_.symm)); have nR_ := Aside0.mk (below_step (by repeat (first | (with_reducible first | exact RB.out | apply below_alloc | apply pw_below_drewN | apply below_drew1) | exact RB.out)) hb); clear RB; have RB := nR_; clear nR_; refine ⟨_, rfl, ?_⟩; have n0_ := Aside0.mk (Kd.V_elder' (by (with_reducible repeat (first | apply Kd.V_alloc | apply Kd.V_drewN | apply Kd.V_drew)); exact HO_0.out) (Kd.R_base ho0) hb); have n1_ := Aside0.mk (Kd.V_elder' (by (with_reducible repeat (first | apply Kd.V_alloc | apply Kd.V_drewN | apply Kd.V_drew)); exact HO_1.out) (Kd.R_base ho0) hb); have n2_ := Aside0.mk (Kd.R_elder' (by (with_reducible repeat (first | apply Kd.R_alloc | apply Kd.R_drewN | apply Kd.R_drew)); exact HO_5.out) (Kd.R_base ho0) hb); have n3_ := Aside0.mk (Kd.R_elder' (by (with_reducible repeat (first | apply Kd.R_alloc | apply Kd.R_drewN | apply Kd.R_drew)); exact HO_6.out) (Kd.R_base ho0) hb); have n4_ := Aside0.mk (Kd.R_lower (Kd.R_new' (Kd.R_new' (Kd.R_newM (M := fun k_ => (w.heap.size ≤ k_)) ho0 (below_size (by repeat (first | (with_reducible first | exact HB.out | apply below_alloc | apply pw_below_drewN | apply below_drew1) | exact HB.out))) (fun k_ h_ => h_)) (Kd.R_lt (by (with_reducible repeat (first | apply Kd.R_alloc | apply Kd.R_drewN | apply Kd.R_drew)); exact HO_5.out))) (Kd.R_lt (by (with_reducible repeat (first | apply Kd.R_alloc | apply Kd.R_drewN | apply Kd.R_drew)); exact HO_6.out))) (below_size (by repeat (first | (with_reducible first | exact HB.out | apply below_alloc | apply pw_below_drewN | apply below_drew1) | exact HB.out)))); have n5_ := Aside0.mk (below_step (by repeat (first | (with_reducible first | exact HB.out | apply below_alloc | apply pw_below_drewN | apply below_drew1) | exact HB.out)) hb); clear HO_0; clear HO_1; clear HO_5; clear HO_6; clear HB; have HO_0 := n0_; have HO_1 := n1_; have HO_5 := n2_; have HO_6 := n3_; have HO1261 := n4_; have HB := n5_; clear n0_ n1_ n2_ n3_ n4_ n5_; (try clear hb); (try clear hb2); (try clear hk); (try clear hi); (try clear ho0); obtain ⟨Ao92, co92, eo92⟩ := Kd.R_slice HO1261.out; subst eo92))
          go_ret
          exact ⟨by first | rfl | (simp [errW_none, errW_some] <;> rfl) | (simp [*, errW_none, errW_some] <;> rfl), by repeat (first | (with_reducible first | exact HB.out | apply below_alloc | apply pw_below_drewN | apply below_drew1) | exact HB.out)⟩
        ·rw [if_neg c66] at H
         have c66b0 : (t1259 == 1) = false := beq_eq_false_iff_ne.mpr c66
         have c66b1 : (t1259 != 1) = true := bne_iff_ne.mpr c66
         obtain rfl := Option.some.inj H
         obtain ⟨Ao93, co93, eo93⟩ := Kd.R_slice HO_5.out
         subst eo93
         obtain ⟨Ao94, co94, eo94⟩ := Kd.R_slice HO_6.out
         subst eo94
         go_wp2_with (first | ((with_reducible refine gate_callee (f := 49) rfl ?_); refine goesL_ (some 34) rfl rfl Try.func49 (by kernel_rfl) rfl #[.slice Ao93 t1249.length co93, .slice Ao94 t1252.length co94] rfl (by (try simp only [List.map_toArray, List.map_cons, List.map_nil]); first | done | rfl | (simp only [List.length_drop, List.length_take]; rfl)) ?_; (with_reducible refine (net_Union.calls _ _ t1249 _ _ t1252 t1258 t1259 _ ?side1 ?side2 ?side3 ?side4 A24.out).mono ?_); (case side1 => repeat (first | exact (Kd.R_reads' HO_5.out).2.2 | (with_reducible refine Kd.C_alloc ?_ _) | (with_reducible refine Kd.C_drewN ?_ _) | (with_reducible refine Kd.C_drew ?_))); (case side2 => exact (Kd.R_reads' HO_5.out).2.1); (case side3 => repeat (first | exact (Kd.R_reads' HO_6.out).2.2 | (with_reducible refine Kd.C_alloc ?_ _) | (with_reducible refine Kd.C_drewN ?_ _) | (with_reducible refine Kd.C_drew ?_))); (case side4 => exact (Kd.R_reads' HO_6.out).2.1); rintro e w95 ⟨v1260, rfl, ho0, hb⟩; have KG1261 := Aside0.mk (show ∀ k_, some k_ = (v1260 : Value).ownBlock → wr.heap.size ≤ k_ from fun k_ h_ => Nat.le_trans RB.out.size (Kd.R_base ho0 k_ h_.symm)); have nR_ := Aside0.mk (below_step (by repeat (first | (with_reducible first | exact RB.out | apply below_alloc | apply pw_below_drewN | apply below_drew1) | exact RB.out)) hb); clear RB; have RB := nR_; clear nR_; refine ⟨_, rfl, ?_⟩; have n0_ := Aside0.mk (Kd.V_elder' (by (with_reducible repeat (first | apply Kd.V_alloc | apply Kd.V_drewN | apply Kd.V_drew)); exact HO_0.out) (Kd.R_base ho0) hb); have n1_ := Aside0.mk (Kd.V_elder' (by (with_reducible repeat (first | apply Kd.V_alloc | apply Kd.V_drewN | apply Kd.V_drew)); exact HO_1.out) (Kd.R_base ho0) hb); have n2_ := Aside0.mk (Kd.R_elder' (by (with_reducible repeat (first | apply Kd.R_alloc | apply Kd.R_drewN | apply Kd.R_drew)); exact HO_5.out) (Kd.R_base ho0) hb); have n3_ := Aside0.mk (Kd.R_elder' (by (with_reducible repeat (first | apply Kd.R_alloc | apply Kd.R_drewN | apply Kd.R_drew)); exact HO_6.out) (Kd.R_base ho0) hb); have n4_ := Aside0.mk (Kd.R_lower (Kd.R_new' (Kd.R_new' (Kd.R_newM (M := fun k_ => (w.heap.size ≤ k_)) ho0 (below_size (by repeat (first | (with_reducible first | exact HB.out | apply below_alloc | apply pw_below_drewN | apply below_drew1) | exact HB.out))) (fun k_ h_ => h_)) (Kd.R_lt (by (with_reducible repeat (first | apply Kd.R_alloc | apply Kd.R_drewN | apply Kd.R_drew)); exact HO_5.out))) (Kd.R_lt (by (with_reducible repeat (first | apply Kd.R_alloc | apply Kd.R_drewN | apply Kd.R_drew)); exact HO_6.out))) (below_size (by repeat (first | (with_reducible first | exact HB.out | apply below_alloc | apply pw_below_drewN | apply below_drew1) | exact HB.out)))); have n5_ := Aside0.mk (below_step (by repeat (first | (with_reducible first | exact HB.out | apply below_alloc | apply pw_below_drewN | apply below_drew1) | exact HB.out)) hb); clear HO_0; clear HO_1; clear HO_5; clear HO_6; clear HB; have HO_0 := n0_; have HO_1 := n1_; have HO_5 := n2_; have HO_6 := n3_; have HO1261 := n4_; have HB := n5_; clear n0_ n1_ n2_ n3_ n4_ n5_; (try clear hb); (try clear hb2); (try clear hk); (try clear hi); (try clear ho0)))
         go_ret
         exact ⟨by first | rfl | (simp [errW_none, errW_some] <;> rfl) | (simp [*, errW_none, errW_some] <;> rfl), by repeat (first | (with_reducible first | exact HB.out | apply below_alloc | apply pw_below_drewN | apply below_drew1) | exact HB.out)⟩
      ·rw [if_neg c23] at H
       have c23b0 : decide (x8_2 < 2) = false := decide_eq_false c23
       clear c23
       replace H := Option.bind_eq_some_iff.mp H
       obtain ⟨t1257, A960, H⟩ := H
       replace H : (some t1257) = some r := H
       have A96 := Aside0.mk A960
       clear A960
       obtain rfl := Option.some.inj H
       go_wp2_with (first | ((with_reducible refine gate_callee (f := 66) rfl ?_); refine goesL_ (some 79) rfl rfl Try.func66 (by kernel_rfl) rfl #[] rfl (by (try simp only [List.map_toArray, List.map_cons, List.map_nil]); first | done | rfl | (simp only [List.length_drop, List.length_take]; rfl)) ?_; (with_reducible refine (pylonlaw14_awake.calls  t1257 _ A96.out).mono ?_); rintro e w97 ⟨rfl, hb⟩; have nR_ := Aside0.mk (below_step (by repeat (first | (with_reducible first | exact RB.out | apply below_alloc | apply pw_below_drewN | apply below_drew1) | exact RB.out)) hb); clear RB; have RB := nR_; clear nR_; refine ⟨_, rfl, ?_⟩; have n0_ := Aside0.mk (Kd.V_below (by (with_reducible repeat (first | apply Kd.V_alloc | apply Kd.V_drewN | apply Kd.V_drew)); exact HO_0.out) hb); have n1_ := Aside0.mk (Kd.V_below (by (with_reducible repeat (first | apply Kd.V_alloc | apply Kd.V_drewN | apply Kd.V_drew)); exact HO_1.out) hb); have n2_ := Aside0.mk (Kd.R_below (by (with_reducible repeat (first | apply Kd.R_alloc | apply Kd.R_drewN | apply Kd.R_drew)); exact HO_5.out) hb); have n3_ := Aside0.mk (Kd.R_below (by (with_reducible repeat (first | apply Kd.R_alloc | apply Kd.R_drewN | apply Kd.R_drew)); exact HO_6.out) hb); have n4_ := Aside0.mk (below_step (by repeat (first | (with_reducible first | exact HB.out | apply below_alloc | apply pw_below_drewN | apply below_drew1) | exact HB.out)) hb); clear HO_0; clear HO_1; clear HO_5; clear HO_6; clear HB; have HO_0 := n0_; have HO_1 := n1_; have HO_5 := n2_; have HO_6 := n3_; have HB := n4_; clear n0_ n1_ n2_ n3_ n4_; (try clear hb); (try clear hb2); (try clear hk); (try clear hi)))
       go_ret
       exact ⟨by first | rfl | (simp [errW_none, errW_some] <;> rfl) | (simp [*, errW_none, errW_some] <;> rfl), by repeat (first | (with_reducible first | exact HB.out | apply below_alloc | apply pw_below_drewN | apply below_drew1) | exact HB.out)⟩

end Go.Proofs.Ytdpgdelimffjpaa.P

namespace Go.Proofs.Ytdpgdelimffjpaa.P
open Go.RowKit Go.Proofs.YtdpgdelimffjpaaW.PrintWords Go.Proofs.YtdpgdelimffjpaaW.PrintLast Go.Proofs.YtdpgdelimffjpaaW.PrintMore
attribute [local go_sem] max2_int min2_int max_two min_two max_three min_three max_four min_four
set_option linter.unusedVariables false
set_option linter.unusedSimpArgs false
section
open Go.Joins Go.ChangeShapes Go.WideShapes Go.Deep
section
variable {H : Type} {enc : TypeId × Value → H} {W : World} {base : Nat} {spare : Nat → Bool} {held : Bool}
end
section
variable {H : Type} {enc : TypeId × Value → H} {W : World} {base : Nat} {spare : Nat → Bool} {held : Bool}
set_option maxRecDepth 100000 in
/-- A list of ints that comes in. -/
theorem open_intl {r : Reach} {b0 : Nat} {v : Value} {d : DataW H} {p : List MemPlace} (hv : Value.okWide Try.prog W r b0 25 v) (h : DataW.Trod enc Try.prog W base spare held 25 v d p) : ∃ (A : Option Addr) (c : Nat) (l : List Int), v = .slice A l.length c ∧ l.length ≤ c ∧ Kd.C (Kd.int .i64) W A l.length l := by
  have hc3 : Try.prog.cellsOf 3 = 1 := by kernel_rfl
  obtain ⟨A0, n0, c0, rfl⟩ := okWide_slice Try.underlying25 hv
  obtain ⟨fuel, hf⟩ := h
  have hf' : DataW.trod enc Try.prog W base spare held fuel 25 [.slice A0 n0 c0] = some (d, p) := hf
  rcases open_slice Try.underlying25 hf' with ⟨hcs, _⟩ | ⟨a, len, cap, m, n, D, Pl, hcs, _, hl, hm, hmm, _, hi⟩
  · cases hcs
    exact ⟨none, 0, [], rfl, Nat.le_refl _, Kd.C_nil _ _⟩
  · cases hcs
    have hlm : n0 ≤ m := by rw [hmm]; split <;> omega
    have hint : ∀ i, i < n0 → ∃ x : Int, W.cell? (a.add i) = some (.int .i64 x) := by
      intro i hil
      obtain ⟨cs', hc, ht⟩ := hi i (by omega)
      rw [hc3] at hc
      obtain ⟨x, hx, _, _⟩ := DataW.trod_int Try.underlying3 ht
      obtain ⟨_, hcl, hat⟩ := World.cells?_some hc
      refine ⟨x, ?_⟩
      have e := hat 0 (by omega)
      rw [hx, Go.Deep.add_add, Nat.mul_one, Nat.add_zero] at e
      exact e
    have hinh : Inhabited Int := ⟨0⟩
    obtain ⟨f, hf2⟩ := choose_lt hint
    have hll : ((List.range n0).map f).length = n0 := by simp
    refine ⟨some a, c0, (List.range n0).map f, by rw [hll], by rw [hll]; exact hl, ?_⟩
    refine Kd.C_of_reads (d := (0 : Int)) ⟨rfl, by rw [hll]; have : maxLen ≤ 9223372036854775807 := by decide
                                                   omega, fun _ => ⟨a, rfl, fun j hj => ?_⟩⟩
    rw [hll] at hj
    rw [hf2 j hj, List.getD_eq_getElem?_getD, List.getElem?_map, List.getElem?_range hj]
    rfl
end
end
section
set_option maxRecDepth 100000
set_option linter.unusedSimpArgs false
def headNums : List Nat := [104, 97, 114, 110, 101, 115, 115, 32, 48, 97, 48, 51, 98, 100, 102, 102, 48, 48, 50, 49, 101, 101, 102, 100, 56, 56, 55, 53, 98, 57, 51, 50, 53, 53, 99, 99, 57, 52, 54, 102, 98, 55, 48, 51, 52, 97, 52, 55, 55, 98, 54, 50, 97, 57, 101, 56, 52, 54, 98, 98, 100, 51, 53, 48, 57, 102, 98, 56, 53, 101, 98, 101, 32, 99, 117, 116, 32, 97, 116, 32, 112, 121, 108, 111, 110, 47, 112, 121, 108, 111, 110, 108, 97, 119, 49, 53, 46, 73, 115, 108, 97, 110, 100, 67, 111, 110, 110, 101, 99, 116, 101, 100, 32, 112, 121, 108, 111, 110, 47, 112, 121, 108, 111, 110, 108, 97, 119, 49, 53, 46, 73, 115, 108, 97, 110, 100, 82, 101, 118, 101, 114, 115, 101, 32, 112, 121, 108, 111, 110, 47, 112, 121, 108, 111, 110, 108, 97, 119, 49, 53, 46, 73, 115, 108, 97, 110, 100, 76, 97, 98, 101, 108, 108, 105, 110, 103, 32, 112, 121, 108, 111, 110, 47, 112, 121, 108, 111, 110, 108, 97, 119, 49, 53, 46, 73, 115, 108, 97, 110, 100, 77, 97, 116, 99, 104, 101, 115, 32, 112, 121, 108, 111, 110, 47, 112, 121, 108, 111, 110, 108, 97, 119, 49, 53, 46, 73, 115, 108, 97, 110, 100, 78, 117, 109, 98, 101, 114, 105, 110, 103, 32, 112, 121, 108, 111, 110, 47, 112, 121, 108, 111, 110, 108, 97, 119, 49, 53, 46, 73, 115, 108, 97, 110, 100, 80, 114, 101, 100, 105, 99, 97, 116, 101, 115, 77, 97, 116, 99, 104, 32, 112, 121, 108, 111, 110, 47, 112, 121, 108, 111, 110, 108, 97, 119, 49, 53, 46, 73, 115, 108, 97, 110, 100, 79, 117, 116, 97, 103, 101, 32, 112, 121, 108, 111, 110, 47, 112, 121, 108, 111, 110, 108, 97, 119, 49, 53, 46, 73, 115, 108, 97, 110, 100, 69, 120, 97, 109, 112, 108, 101, 115, 32, 112, 121, 108, 111, 110, 47, 112, 121, 108, 111, 110, 108, 97, 119, 49, 54, 46, 84, 114, 101, 101, 77, 97, 116, 99, 104, 101, 115, 32, 112, 121, 108, 111, 110, 47, 112, 121, 108, 111, 110, 108, 97, 119, 49, 54, 46, 84, 114, 101, 101, 66, 114, 105, 100, 103, 101, 115, 32, 112, 121, 108, 111, 110, 47, 112, 121, 108, 111, 110, 108, 97, 119, 49, 54, 46, 84, 114, 101, 101, 80, 97, 116, 104, 77, 97, 116, 99, 104, 101, 115, 32, 112, 121, 108, 111, 110, 47, 112, 121, 108, 111, 110, 108, 97, 119, 49, 54, 46, 84, 114, 101, 101, 69, 120, 97, 109, 112, 108, 101, 115, 32, 112, 121, 108, 111, 110, 47, 112, 121, 108, 111, 110, 108, 97, 119, 49, 54, 46, 84, 114, 101, 101, 71, 114, 101, 101, 100, 121, 32, 112, 121, 108, 111, 110, 47, 112, 121, 108, 111, 110, 108, 97, 119, 49, 54, 46, 84, 114, 101, 101, 66, 97, 108, 97, 110, 99, 101, 32, 112, 121, 108, 111, 110, 47, 112, 121, 108, 111, 110, 108, 97, 119, 49, 54, 46, 84, 114, 101, 101, 67, 121, 99, 108, 101, 115, 32, 112, 121, 108, 111, 110, 47, 112, 121, 108, 111, 110, 108, 97, 119, 49, 54, 46, 84, 114, 101, 101, 83, 112, 97, 110, 110, 105, 110, 103, 32, 112, 121, 108, 111, 110, 47, 112, 121, 108, 111, 110, 108, 97, 119, 49, 52, 46, 78, 101, 116, 77, 97, 116, 99, 104, 101, 115, 32, 112, 121, 108, 111, 110, 47, 112, 121, 108, 111, 110, 108, 97, 119, 49, 52, 46, 78, 101, 116, 85, 110, 105, 111, 110, 77, 97, 116, 99, 104, 101, 115, 32, 112, 121, 108, 111, 110, 47, 112, 121, 108, 111, 110, 108, 97, 119, 49, 52, 46, 78, 101, 116, 80, 97, 114, 116, 105, 116, 105, 111, 110, 32, 112, 121, 108, 111, 110, 47, 112, 121, 108, 111, 110, 108, 97, 119, 49, 52, 46, 78, 101, 116, 69, 110, 100, 112, 111, 105, 110, 116, 115, 32, 112, 121, 108, 111, 110, 47, 112, 121, 108, 111, 110, 108, 97, 119, 49, 52, 46, 78, 101, 116, 85, 110, 105, 111, 110, 32, 112, 121, 108, 111, 110, 47, 112, 121, 108, 111, 110, 108, 97, 119, 49, 52, 46, 78, 101, 116, 69, 120, 97, 109, 112, 108, 101, 115, 32, 112, 121, 108, 111, 110, 47, 112, 121, 108, 111, 110, 108, 97, 119, 49, 52, 46, 78, 101, 116, 83, 116, 114, 105, 112, 32, 112, 121, 108, 111, 110, 47, 112, 121, 108, 111, 110, 108, 97, 119, 49, 52, 46, 78, 101, 116, 66, 117, 105, 108, 100, 77, 97, 116, 99, 104, 101, 115, 32, 112, 121, 108, 111, 110, 47, 112, 121, 108, 111, 110, 108, 97, 119, 49, 52, 46, 78, 101, 116, 82, 101, 118, 101, 114, 115, 101]
theorem headOf : Try.prog.initOrder = String.ofList (headNums.map Char.ofNat) := by kernel_rfl
theorem headList : Try.prog.initOrder.toList = headNums.map Char.ofNat := by rw [headOf, String.toList_ofList]
def headTail : List (List Nat) := [[97, 116], [112, 121, 108, 111, 110, 47, 112, 121, 108, 111, 110, 108, 97, 119, 49, 53, 46, 73, 115, 108, 97, 110, 100, 67, 111, 110, 110, 101, 99, 116, 101, 100], [112, 121, 108, 111, 110, 47, 112, 121, 108, 111, 110, 108, 97, 119, 49, 53, 46, 73, 115, 108, 97, 110, 100, 82, 101, 118, 101, 114, 115, 101], [112, 121, 108, 111, 110, 47, 112, 121, 108, 111, 110, 108, 97, 119, 49, 53, 46, 73, 115, 108, 97, 110, 100, 76, 97, 98, 101, 108, 108, 105, 110, 103], [112, 121, 108, 111, 110, 47, 112, 121, 108, 111, 110, 108, 97, 119, 49, 53, 46, 73, 115, 108, 97, 110, 100, 77, 97, 116, 99, 104, 101, 115], [112, 121, 108, 111, 110, 47, 112, 121, 108, 111, 110, 108, 97, 119, 49, 53, 46, 73, 115, 108, 97, 110, 100, 78, 117, 109, 98, 101, 114, 105, 110, 103], [112, 121, 108, 111, 110, 47, 112, 121, 108, 111, 110, 108, 97, 119, 49, 53, 46, 73, 115, 108, 97, 110, 100, 80, 114, 101, 100, 105, 99, 97, 116, 101, 115, 77, 97, 116, 99, 104], [112, 121, 108, 111, 110, 47, 112, 121, 108, 111, 110, 108, 97, 119, 49, 53, 46, 73, 115, 108, 97, 110, 100, 79, 117, 116, 97, 103, 101], [112, 121, 108, 111, 110, 47, 112, 121, 108, 111, 110, 108, 97, 119, 49, 53, 46, 73, 115, 108, 97, 110, 100, 69, 120, 97, 109, 112, 108, 101, 115], [112, 121, 108, 111, 110, 47, 112, 121, 108, 111, 110, 108, 97, 119, 49, 54, 46, 84, 114, 101, 101, 77, 97, 116, 99, 104, 101, 115], [112, 121, 108, 111, 110, 47, 112, 121, 108, 111, 110, 108, 97, 119, 49, 54, 46, 84, 114, 101, 101, 66, 114, 105, 100, 103, 101, 115], [112, 121, 108, 111, 110, 47, 112, 121, 108, 111, 110, 108, 97, 119, 49, 54, 46, 84, 114, 101, 101, 80, 97, 116, 104, 77, 97, 116, 99, 104, 101, 115], [112, 121, 108, 111, 110, 47, 112, 121, 108, 111, 110, 108, 97, 119, 49, 54, 46, 84, 114, 101, 101, 69, 120, 97, 109, 112, 108, 101, 115], [112, 121, 108, 111, 110, 47, 112, 121, 108, 111, 110, 108, 97, 119, 49, 54, 46, 84, 114, 101, 101, 71, 114, 101, 101, 100, 121], [112, 121, 108, 111, 110, 47, 112, 121, 108, 111, 110, 108, 97, 119, 49, 54, 46, 84, 114, 101, 101, 66, 97, 108, 97, 110, 99, 101], [112, 121, 108, 111, 110, 47, 112, 121, 108, 111, 110, 108, 97, 119, 49, 54, 46, 84, 114, 101, 101, 67, 121, 99, 108, 101, 115], [112, 121, 108, 111, 110, 47, 112, 121, 108, 111, 110, 108, 97, 119, 49, 54, 46, 84, 114, 101, 101, 83, 112, 97, 110, 110, 105, 110, 103], [112, 121, 108, 111, 110, 47, 112, 121, 108, 111, 110, 108, 97, 119, 49, 52, 46, 78, 101, 116, 77, 97, 116, 99, 104, 101, 115], [112, 121, 108, 111, 110, 47, 112, 121, 108, 111, 110, 108, 97, 119, 49, 52, 46, 78, 101, 116, 85, 110, 105, 111, 110, 77, 97, 116, 99, 104, 101, 115], [112, 121, 108, 111, 110, 47, 112, 121, 108, 111, 110, 108, 97, 119, 49, 52, 46, 78, 101, 116, 80, 97, 114, 116, 105, 116, 105, 111, 110], [112, 121, 108, 111, 110, 47, 112, 121, 108, 111, 110, 108, 97, 119, 49, 52, 46, 78, 101, 116, 69, 110, 100, 112, 111, 105, 110, 116, 115], [112, 121, 108, 111, 110, 47, 112, 121, 108, 111, 110, 108, 97, 119, 49, 52, 46, 78, 101, 116, 85, 110, 105, 111, 110], [112, 121, 108, 111, 110, 47, 112, 121, 108, 111, 110, 108, 97, 119, 49, 52, 46, 78, 101, 116, 69, 120, 97, 109, 112, 108, 101, 115], [112, 121, 108, 111, 110, 47, 112, 121, 108, 111, 110, 108, 97, 119, 49, 52, 46, 78, 101, 116, 83, 116, 114, 105, 112], [112, 121, 108, 111, 110, 47, 112, 121, 108, 111, 110, 108, 97, 119, 49, 52, 46, 78, 101, 116, 66, 117, 105, 108, 100, 77, 97, 116, 99, 104, 101, 115], [112, 121, 108, 111, 110, 47, 112, 121, 108, 111, 110, 108, 97, 119, 49, 52, 46, 78, 101, 116, 82, 101, 118, 101, 114, 115, 101]]
def headRest : List (List Char) := headTail.map (fun l => l.map Char.ofNat)
theorem headBehind : behindMainWord (wordsSigns Try.prog.initOrder.toList) = "cut".toList :: headRest := by rw [headList]; kernel_rfl
theorem eCutGc : ("cut".toList == "gc".toList) = false := by kernel_rfl
theorem eCutSpec : ("cut".toList == "spec".toList) = false := by kernel_rfl
theorem eCutCarried : ("cut".toList == "carried".toList) = false := by kernel_rfl
theorem eCutCut : ("cut".toList == "cut".toList) = true := by kernel_rfl
theorem headStrip : stripLifts liftWords ("cut".toList :: headRest) = ([], "cut".toList :: headRest) := by kernel_rfl
theorem headLiftsNil : Try.prog.headLifts = [] := by unfold Program.headLifts; rw [headBehind, headStrip]; kernel_rfl
theorem headFinal : Try.prog.liftsFinal = false := by unfold Program.liftsFinal; rw [headLiftsNil, headBehind]; kernel_rfl
theorem headMake0 (P : Program) (c : List Char) (r : List (List Char)) (h : behindMainWord (wordsSigns P.initOrder.toList) = c :: r) (h1 : (c == "gc".toList) = false) (h2 : (c == "spec".toList) = false) (h3 : (c == "cut".toList) = true) : P.make = some .cut := by
  unfold Program.make
  rw [h]
  simp only [h1, h2, h3, Bool.or_self, Bool.true_or, if_true, Bool.false_eq_true, if_false]
theorem headMake : Try.prog.make = some .cut := headMake0 _ _ _ headBehind eCutGc eCutSpec eCutCut
theorem headEnter0 (P : Program) (c : List Char) (r : List (List Char)) (h : behindMainWord (wordsSigns P.initOrder.toList) = c :: r) (h1 : (c == "gc".toList) = false) (h2 : (c == "spec".toList) = false) (h3 : (c == "carried".toList) = false) (h4 : stripLifts liftWords (c :: r) = ([], c :: r)) (h5 : (some c == some "cut".toList) = true) (h6 : P.laysLater = false) (h7 : P.bearsReflect = false) (h8 : P.doorFits [] = true) : P.mayEnter = true := by
  unfold Program.mayEnter
  rw [h]
  simp only [h1, h2, h3, h4, h6, h7, h8, h5, Bool.or_self, Bool.true_or, Bool.false_and, Bool.and_true, List.head?_cons, Bool.not_false, Bool.or_true, List.contains_nil, beq_self_eq_true, Bool.false_or, Bool.not_true, Bool.and_self]
theorem headEnter : Try.prog.mayEnter = true := headEnter0 _ _ _ headBehind eCutGc eCutSpec eCutCarried headStrip (by kernel_rfl) (by kernel_rfl) (by kernel_rfl) (by kernel_rfl)
end
end Go.Proofs.Ytdpgdelimffjpaa.P

namespace Go.Proofs.Ytdpgdelimffjpaa.P
open Go.RowKit Go.Proofs.YtdpgdelimffjpaaW.PrintWords Go.Proofs.YtdpgdelimffjpaaW.PrintLast Go.Proofs.YtdpgdelimffjpaaW.PrintMore
attribute [local go_sem] max2_int min2_int max_two min_two max_three min_three max_four min_four
set_option linter.unusedVariables false
set_option linter.unusedSimpArgs false
section
/-- Labels after one more edge: the greater label gives way to the smaller. -/
def merge (f : Nat → Nat) (e : Nat × Nat) : Nat → Nat := fun x => if f x = max (f e.1) (f e.2) then min (f e.1) (f e.2) else f x
/-- The smallest bus of each bus' island. -/
def lab (E : List (Nat × Nat)) : Nat → Nat := E.foldl merge id
theorem lab_snoc (E : List (Nat × Nat)) (e : Nat × Nat) : lab (E ++ [e]) = merge (lab E) e := by simp [lab]
theorem merge_same {f : Nat → Nat} {e : Nat × Nat} (h : f e.1 = f e.2) : merge f e = f := by
  funext x; unfold merge; split <;> omega
/-- The list that 'stands' keeps, against the labels. -/
structure UF (l : List Int) (f : Nat → Nat) (N : Nat) : Prop where
  len : l.length = N
  le : ∀ b, f b ≤ b
  idem : ∀ b, f (f b) = f b
  par : ∀ b, b < N → ∃ p : Nat, rd l (b : Int) = (p : Int) ∧ p ≤ b ∧ f p = f b ∧ (p = b → f b = b)
theorem idem_max {f : Nat → Nat} {u v : Nat} (h1 : f (f u) = f u) (h2 : f (f v) = f v) : f (max (f u) (f v)) = max (f u) (f v) := by
  rcases Nat.le_total (f u) (f v) with hh | hh
  · rw [Nat.max_eq_right hh]; exact h2
  · rw [Nat.max_eq_left hh]; exact h1
theorem idem_min {f : Nat → Nat} {u v : Nat} (h1 : f (f u) = f u) (h2 : f (f v) = f v) : f (min (f u) (f v)) = min (f u) (f v) := by
  rcases Nat.le_total (f u) (f v) with hh | hh
  · rw [Nat.min_eq_left hh]; exact h1
  · rw [Nat.min_eq_right hh]; exact h2
def Lb (f : Nat → Nat) : Prop := ∀ b, f b ≤ b ∧ f (f b) = f b
theorem Lb.merge {f : Nat → Nat} (ih : Lb f) (e : Nat × Nat) : Lb (merge f e) := by
  intro b
  by_cases hs : f e.1 = f e.2
  · rw [merge_same hs]; exact ih b
  · have iM := idem_max (ih e.1).2 (ih e.2).2
    have im := idem_min (ih e.1).2 (ih e.2).2
    have hmg : ∀ x, P.merge f e x = if f x = max (f e.1) (f e.2) then min (f e.1) (f e.2) else f x := fun x => rfl
    have hlt : min (f e.1) (f e.2) < max (f e.1) (f e.2) := by omega
    generalize max (f e.1) (f e.2) = M at *
    generalize min (f e.1) (f e.2) = m at *
    have := (ih b).1
    by_cases hb : f b = M
    · rw [hmg b, if_pos hb, hmg, im, if_neg (by omega)]; omega
    · rw [hmg b, if_neg hb, hmg, (ih b).2, if_neg hb]; omega
end
section
/-- An edge's ends are joined, and joined they stay. -/
theorem merge_keep {f : Nat → Nat} (e : Nat × Nat) {x y : Nat} (h : f x = f y) : merge f e x = merge f e y := by
  unfold merge; rw [h]
theorem merge_ends (f : Nat → Nat) (u v : Nat) : merge f (u, v) u = merge f (u, v) v := by
  unfold merge
  simp only
  split <;> split <;> omega
theorem fold_keep (E : List (Nat × Nat)) : ∀ (f : Nat → Nat) (x y : Nat), f x = f y → (E.foldl merge f) x = (E.foldl merge f) y := by
  induction E with
  | nil => intro f x y h; exact h
  | cons e E ih => intro f x y h; exact ih _ x y (merge_keep e h)
theorem fold_edge (E : List (Nat × Nat)) : ∀ (f : Nat → Nat) (e : Nat × Nat), e ∈ E → (E.foldl merge f) e.1 = (E.foldl merge f) e.2 := by
  induction E with
  | nil => intro f e h; cases h
  | cons a E ih =>
    intro f e h
    rcases List.mem_cons.1 h with rfl | h
    · exact fold_keep E _ _ _ (merge_ends f e.1 e.2)
    · exact ih _ e h
theorem lab_edge {E : List (Nat × Nat)} {e : Nat × Nat} (h : e ∈ E) : lab E e.1 = lab E e.2 := fold_edge E id e h
/-- What every edge keeps, the labels keep. -/
theorem fold_const {α : Type} (g : Nat → α) (E : List (Nat × Nat)) : ∀ f : Nat → Nat, (∀ x, g (f x) = g x) → (∀ e ∈ E, g e.1 = g e.2) → ∀ x, g ((E.foldl merge f) x) = g x := by
  induction E with
  | nil => intro f hf _ x; exact hf x
  | cons e E ih =>
    intro f hf hE x
    refine ih (merge f e) (fun z => ?_) (fun e' h => hE e' (List.mem_cons_of_mem _ h)) x
    have he := hE e (List.mem_cons_self ..)
    unfold merge
    have h1 := hf e.1
    have h2 := hf e.2
    split
    · rename_i hz
      rw [← hf z, hz]
      rcases Nat.le_total (f e.1) (f e.2) with h | h
      · rw [Nat.min_eq_left h, Nat.max_eq_right h, h1, h2, he]
      · rw [Nat.min_eq_right h, Nat.max_eq_left h, h1, h2, he]
    · exact hf z
theorem lab_const {α : Type} (g : Nat → α) {E : List (Nat × Nat)} (h : ∀ e ∈ E, g e.1 = g e.2) {x y : Nat} (hxy : lab E x = lab E y) : g x = g y := by
  have k := fold_const g E id (fun _ => rfl) h
  have e1 : g (lab E x) = g x := k x
  have e2 : g (lab E y) = g y := k y
  rw [← e1, ← e2, hxy]
end
end Go.Proofs.Ytdpgdelimffjpaa.P

namespace Go.Proofs.Ytdpgdelimffjpaa.P
open Go.RowKit Go.Proofs.YtdpgdelimffjpaaW.PrintWords Go.Proofs.YtdpgdelimffjpaaW.PrintLast Go.Proofs.YtdpgdelimffjpaaW.PrintMore
attribute [local go_sem] max2_int min2_int max_two min_two max_three min_three max_four min_four   -- for this text's walks alone
set_option linter.unusedVariables false
set_option linter.unusedSimpArgs false

/-! ### island_stands: function 81: by hand -/
structure St (a0 : Int) (H B0 g6 : Nat) (Am : Option Addr) (cm : Nat) (SL : List S37) (w : World) (v : Value) (X : List Int) (W : World) : Prop where
 b : W.heap[H + 1]? = some (.cells #[v] 25 (0, 0))
 m : W.heap[g6]? = some (.cells #[.int .i64 a0, .slice Am SL.length cm] 24 (0, 0))
 s : Kd.R k37 37 W H (fun k => k < B0 ∧ k ≠ H + 1) (.slice Am SL.length cm) SL
 r : Kd.R (Kd.int .i64) 3 W B0 (fun _ => True) v X
 bl : Below H w W
 sz : B0 ≤ W.heap.size
section
variable {a0 : Int} {H B0 g6 : Nat} {Am : Option Addr} {cm : Nat} {SL : List S37} {w W W5 : World} {v v' : Value} {X X' : List Int}
theorem St.alloc (h : St a0 H B0 g6 Am cm SL w v X W) (hH : H ≤ B0) (o : Obj) : St a0 H B0 g6 Am cm SL w v X (W.alloc o) :=
 ⟨blk_alloc h.b _, blk_alloc h.m _, Kd.R_alloc h.s _, Kd.R_alloc h.r _, h.bl.alloc (by have := h.sz; omega) _, by have := h.sz; simp; omega⟩
theorem St.drew (h : St a0 H B0 g6 Am cm SL w v X W) : St a0 H B0 g6 Am cm SL w v X W.drew := ⟨h.b, h.m, Kd.R_drew h.s, Kd.R_drew h.r, h.bl.drew, h.sz⟩
theorem St.drewN (h : St a0 H B0 g6 Am cm SL w v X W) (n : Nat) : St a0 H B0 g6 Am cm SL w v X (W.drewN n) := ⟨h.b, h.m, Kd.R_drewN h.s n, Kd.R_drewN h.r n, pw_below_drewN h.bl n, h.sz⟩
theorem St.append (h : St a0 H B0 g6 Am cm SL w v X W) (hH : H + 1 < B0) (h6 : g6 < B0) (h6' : g6 ≠ H + 1) (hr : Kd.R (Kd.int .i64) 3 W5 B0 (fun _ => True) v' X') (hg : W.grownBy W5 v.ownBlock) : W5.heap[H + 1]? = some (.cells #[v] 25 (0, 0)) ∧ St a0 H B0 g6 Am cm SL w v' X' (W5.setCell ⟨H + 1, 0, none⟩ v') := by
 have hne : ∀ k, k < B0 → some k ≠ v.ownBlock := fun k hk e => by have := Kd.R_base h.r k e.symm; omega
 have hb5 := blk_grown h.b hg (hne _ hH)
 refine ⟨hb5, blk_set hb5 0 v', blk_far (p := ⟨H + 1, 0, none⟩) (blk_grown h.m hg (hne _ h6)) h6' v', ?_, ?_, ?_, ?_⟩
 ·exact Kd.R_far (Kd.R_grown h.s hg (fun k hk => hne k hk.1)) (fun k hk => hk.2) _
 ·exact Kd.R_mono (Kd.R_far (Kd.R_reok (ok := fun k => k ≠ H + 1) rfl hr (fun k e => by have := Kd.R_base hr k e; omega)) (fun k hk => hk) _) (fun _ _ => trivial)
 ·exact (h.bl.grown hg (by have := h.sz; omega) (fun k e => by have := Kd.R_base h.r k e; omega)).setCell (p := ⟨H + 1, 0, none⟩) (by simp) _
 ·have := hg.size; have := h.sz; simp [World.setCell]; omega
theorem St.put {g c : Nat} (h : St a0 H B0 g6 Am cm SL w (.slice (some ⟨g, 0, none⟩) X.length c) X W) (hH : H + 1 < B0) (h6 : g6 < B0) (i : Nat) (y : Int) : St a0 H B0 g6 Am cm SL w (.slice (some ⟨g, 0, none⟩) X.length c) (X.set i y) (W.setCell ⟨g, i, none⟩ (.int .i64 y)) := by
 obtain ⟨hr, hg⟩ := Kd.R_put h.r (i : Int) y
 simp only [Int.toNat_natCast] at hr hg
 have hg0 : B0 ≤ g := Kd.R_base h.r g rfl
 have hne : ∀ k, k < B0 → k ≠ g := fun k hk => by omega
 refine ⟨blk_far (p := ⟨g, i, none⟩) h.b (hne _ hH) _, blk_far (p := ⟨g, i, none⟩) h.m (hne _ h6) _, Kd.R_far h.s (fun k hk => hne k hk.1) _, hr, h.bl.setCell (p := ⟨g, i, none⟩) (by show H ≤ g; omega) _, by have := h.sz; simp [World.setCell]; omega⟩
end
def edges (L : List S37) (out : List Int) : List (Nat × Nat) := (inn L out).map (fun (k : Nat) => ((rd_T37 L (k : Int)).f0.toNat, (rd_T37 L (k : Int)).f1.toNat))
def island_stands.f (a0_0 : Int) (l0_1 : List (S37)) (l1 : List Int) : Option (List Int × Int) :=
 if outsV a0_0 l0_1 l1 = 0 then some ((List.range a0_0.toNat).map (fun (b : Nat) => ((lab (edges l0_1 l1) b : Nat) : Int)), 0) else some ([], outsV a0_0 l0_1 l1)
end Go.Proofs.Ytdpgdelimffjpaa.P

namespace Go.Proofs.Ytdpgdelimffjpaa.P
open Go.RowKit Go.Proofs.YtdpgdelimffjpaaW.PrintWords Go.Proofs.YtdpgdelimffjpaaW.PrintLast Go.Proofs.YtdpgdelimffjpaaW.PrintMore
attribute [local go_sem] max2_int min2_int max_two min_two max_three min_three max_four min_four   -- for this text's walks alone
set_option linter.unusedVariables false
set_option linter.unusedSimpArgs false

section
/-! ### island_Refs: function 41 -/
def island_Refs.l0 : Nat → List Int → Int → List Int → Int → Int → Option (List Int × Int)
 | 0, _, _, _, _, _ => none
 | k + 1, x4, x5, x15, x16, x17 => if x17 < x16 then (if 0 ≤ x17 then (if x17 < (x15.length : Int) then (if x17 = (rd x15 x17) then (if x4.length < 17592186044416 then (island_Refs.l0 k (x4 ++ [x17]) x5 x15 x16 (wrap64 (x17 + 1))) else (none)) else (island_Refs.l0 k x4 x5 x15 x16 (wrap64 (x17 + 1)))) else (none)) else (none)) else (some (x4, x5))
def island_Refs.f (k : Nat) (a0_0 : Int) (l0_1 : List (S37)) (l1 : List Int) : Option (List Int × Int) := (island_stands.f a0_0 l0_1 l1).bind fun bt117 => (island_Refs.l0 k ([] : List Int) bt117.2 bt117.1 (bt117.1.length : Int) 0)
end
section
/-! ### island_Of: function 30 -/
def island_Of.l0 : Nat → List Int → Int → List Int → List Int → Int → Int → Option (List Int × Int)
 | 0, _, _, _, _, _, _ => none
 | k + 1, x4, x5, x7, x23, x24, x25 => if x25 < x24 then (if 0 ≤ x25 then (if x25 < (x23.length : Int) then ((slices_Index_int_int.f k x7 (rd x23 x25)).bind fun t136 => (if x4.length < 17592186044416 then (island_Of.l0 k (x4 ++ [t136]) x5 x7 x23 x24 (wrap64 (x25 + 1))) else (none))) else (none)) else (none)) else (some (x4, x5))
def island_Of.f (k : Nat) (a0_0 : Int) (l0_1 : List (S37)) (l1 : List Int) : Option (List Int × Int) := (island_stands.f a0_0 l0_1 l1).bind fun bt127 => ((island_Refs.f k a0_0 l0_1 l1).bind fun bt131 => (island_Of.l0 k ([] : List Int) bt127.2 bt131.1 bt127.1 (bt127.1.length : Int) 0))
end
section
/-! ### island_Count: function 43 -/
def island_Count.f (k : Nat) (a0_0 : Int) (l0_1 : List (S37)) (l1 : List Int) : Option (Int × Int) := (island_Refs.f k a0_0 l0_1 l1).bind fun bt317 => (some ((bt317.1.length : Int), bt317.2))
end
end Go.Proofs.Ytdpgdelimffjpaa.P

namespace Go.Proofs.Ytdpgdelimffjpaa.P
open Go.RowKit Go.Proofs.YtdpgdelimffjpaaW.PrintWords Go.Proofs.YtdpgdelimffjpaaW.PrintLast Go.Proofs.YtdpgdelimffjpaaW.PrintMore
attribute [local go_sem] max2_int min2_int max_two min_two max_three min_three max_four min_four
set_option linter.unusedVariables false
set_option linter.unusedSimpArgs false
/-- With rounds enough the function tells v. -/
def Ev {α : Type} (F : Nat → Option α) (v : α) : Prop := ∃ K, ∀ k, K ≤ k → F k = some v
theorem Ev.some_ {α : Type} (v : α) : Ev (fun _ => some v) v := ⟨0, fun _ _ => rfl⟩
theorem Ev.bind {α β : Type} {F : Nat → Option α} {G : Nat → α → Option β} {a : α} {b : β} (h : Ev F a) (h2 : Ev (fun k => G k a) b) : Ev (fun k => (F k).bind (G k)) b := by
  obtain ⟨K, hK⟩ := h
  obtain ⟨L, hL⟩ := h2
  exact ⟨max K L, fun k hk => by show (F k).bind (G k) = some b; rw [hK k (by omega), Option.bind_some]; exact hL k (by omega)⟩
theorem Ev.const {α : Type} {o : Option α} {v : α} (h : o = some v) : Ev (fun _ => o) v := ⟨0, fun _ _ => h⟩
theorem Ev.succ {α : Type} {F G : Nat → Option α} {v : α} (hs : ∀ k, F (k + 1) = G k) (h : Ev G v) : Ev F v := by
  obtain ⟨K, hK⟩ := h
  exact ⟨K + 1, fun k hk => by obtain ⟨j, rfl⟩ : ∃ j, k = j + 1 := ⟨k - 1, by omega⟩
                               rw [hs]; exact hK j (by omega)⟩
theorem Ev.eq {α : Type} {F G : Nat → Option α} {v : α} (hs : ∀ k, F k = G k) (h : Ev G v) : Ev F v := by
  obtain ⟨K, hK⟩ := h
  exact ⟨K, fun k hk => by rw [hs]; exact hK k hk⟩
theorem Ev.tell {α : Type} {F : Nat → Option α} {v : α} (h : Ev F v) : ∃ k, F k = some v := by
  obtain ⟨K, hK⟩ := h
  exact ⟨K, hK K (Nat.le_refl _)⟩
/-- A loop over i: N rounds at most, each hands on to the next; a relation I is kept. -/
theorem Ev.loop {σ α : Type} {F : Nat → σ → Nat → Option α} {v : α} (N : Nat) (I : Nat → σ → Prop) (hstep : ∀ i s, i < N → I i s → (∃ s', I (i + 1) s' ∧ (Ev (fun k => F k s' (i + 1)) v → Ev (fun k => F k s i) v)) ∨ Ev (fun k => F k s i) v) (hend : ∀ s, I N s → Ev (fun k => F k s N) v) : ∀ i s, i ≤ N → I i s → Ev (fun k => F k s i) v := by
  have key : ∀ m i s, i + m = N → I i s → Ev (fun k => F k s i) v := by
    intro m
    induction m with
    | zero => intro i s hi hI; have : i = N := by omega
              subst this; exact hend s hI
    | succ m ih =>
      intro i s hi hI
      rcases hstep i s (by omega) hI with ⟨s', hI', hgo⟩ | hdone
      · exact hgo (ih (i + 1) s' (by omega) hI')
      · exact hdone
  intro i s hi hI
  exact key (N - i) i s (by omega) hI
/-- 'Long' on lists of a length of at most 100. -/
theorem long_f (b : Int) (L : List S37) (ls : List (List Int)) (hs : ls.length ≤ 1000) : ∃ r, Ev (fun k => pylonlaw14_Long.f k b L ls) r ∧ (r = false → L.length ≤ 100 ∧ ∀ l ∈ ls, l.length ≤ 100) := by
  have key : ∀ m i, i + m = ls.length → ∃ r, Ev (fun k => pylonlaw14_Long.l0 k ls (i : Int) b L) r ∧ (r = false → L.length ≤ 100 ∧ ∀ l ∈ ls.drop i, l.length ≤ 100) := by
    intro m
    induction m with
    | zero =>
      intro i hi
      refine ⟨decide ((L.length : Int) > 100), Ev.succ (G := fun _ => some (decide ((L.length : Int) > 100))) (fun k => ?_) (Ev.some_ _), fun h => ?_⟩
      · rw [pylonlaw14_Long.l0, if_neg (by omega)]
      · have := of_decide_eq_false h
        refine ⟨by omega, fun l hl => ?_⟩
        rw [List.drop_eq_nil_of_le (by omega)] at hl
        cases hl
    | succ m ih =>
      intro i hi
      obtain ⟨r, hr, hx⟩ := ih (i + 1) (by omega)
      have hil : i < ls.length := by omega
      have hrd : rd_L1 ls (i : Int) = ls[i] := by simp [rd_L1, List.getD_eq_getElem?_getD, hil]
      by_cases hlong : ((ls[i].length : Int) > 100)
      · refine ⟨true, Ev.succ (G := fun _ => some true) (fun k => ?_) (Ev.some_ _), fun h => by cases h⟩
        rw [pylonlaw14_Long.l0, if_pos (by omega), if_pos (by omega), hrd, if_pos hlong]
      · refine ⟨r, Ev.succ (G := fun k => pylonlaw14_Long.l0 k ls ((i + 1 : Nat) : Int) b L) (fun k => ?_) hr, fun h => ⟨(hx h).1, fun l hl => ?_⟩⟩
        · rw [pylonlaw14_Long.l0, if_pos (by omega), if_pos (by omega), hrd, if_neg hlong, wrap_small (by omega) (by omega)]; rfl
        · rw [List.drop_eq_getElem_cons hil] at hl
          rcases List.mem_cons.1 hl with rfl | hl
          · omega
          · exact (hx h).2 l hl
  obtain ⟨r, hr, hx⟩ := key ls.length 0 (by omega)
  exact ⟨r, hr, fun h => by simpa using hx h⟩
/-- The place of x in l, or -1. -/
def idx (l : List Int) (x : Int) : Int := if x ∈ l then (l.idxOf x : Int) else -1
/-- The reference buses: those that are their own label. -/
def refsOf (f : Nat → Nat) (N : Nat) : List Int := ((List.range N).filter (fun b => f b == b)).map (fun (b : Nat) => (b : Int))
def labsOf (f : Nat → Nat) (N : Nat) : List Int := (List.range N).map (fun (b : Nat) => ((f b : Nat) : Int))
def isl (f : Nat → Nat) (N : Nat) (i : Nat) : Int := idx (refsOf f N) ((f i : Nat) : Int)
def islOf (f : Nat → Nat) (N n : Nat) : List Int := (List.range n).map (isl f N)
end Go.Proofs.Ytdpgdelimffjpaa.P

namespace Go.Proofs.Ytdpgdelimffjpaa.P
open Go.RowKit Go.Proofs.YtdpgdelimffjpaaW.PrintWords Go.Proofs.YtdpgdelimffjpaaW.PrintLast Go.Proofs.YtdpgdelimffjpaaW.PrintMore
attribute [local go_sem] max2_int min2_int max_two min_two max_three min_three max_four min_four
set_option linter.unusedVariables false
set_option linter.unusedSimpArgs false
/-- Ints tells whether two lists are alike. -/
theorem ints_ev (a b : List Int) (ha : a.length ≤ 1000000) : Ev (fun k => pylonref14_Ints.f k a b) (decide (a = b)) := by
  by_cases hl : a.length = b.length
  · have key : ∀ m i, i + m = a.length → (∀ j, j < i → rd a (j : Int) = rd b (j : Int)) → Ev (fun k => pylonref14_Ints.l0 k a b (i : Int)) (decide (a = b)) := by
      intro m
      induction m with
      | zero =>
        intro i hi hh
        have e : a = b := by
          apply List.ext_getElem hl
          intro j h1 h2
          have := hh j (by omega)
          rwa [rd_nat _ j h1, rd_nat _ j h2] at this
        refine Ev.succ (G := fun _ => some (decide (a = b))) (fun k => ?_) (Ev.some_ _)
        rw [pylonref14_Ints.l0, if_neg (by omega), decide_eq_true e]
      | succ m ih =>
        intro i hi hh
        by_cases he : rd a (i : Int) = rd b (i : Int)
        · refine Ev.succ (G := fun k => pylonref14_Ints.l0 k a b ((i + 1 : Nat) : Int)) (fun k => ?_) (ih (i + 1) (by omega) (fun j hj => ?_))
          · rw [pylonref14_Ints.l0, if_pos (by omega), if_pos (by omega), if_pos (by omega), if_pos he, wrap_small (by omega) (by omega)]; rfl
          · by_cases h : j = i
            · subst h; exact he
            · exact hh j (by omega)
        · have hne : ¬ a = b := fun e => he (by rw [e])
          refine Ev.succ (G := fun _ => some (decide (a = b))) (fun k => ?_) (Ev.some_ _)
          rw [pylonref14_Ints.l0, if_pos (by omega), if_pos (by omega), if_pos (by omega), if_neg he, decide_eq_false hne]
    refine Ev.eq (fun k => ?_) (key a.length 0 (by omega) (fun j hj => absurd hj (Nat.not_lt_zero _)))
    rw [pylonref14_Ints.f, if_pos (by omega)]; rfl
  · have hne : ¬ a = b := fun e => hl (by rw [e])
    refine Ev.eq (G := fun _ => some (decide (a = b))) (fun k => ?_) (Ev.some_ _)
    rw [pylonref14_Ints.f, if_neg (by omega), decide_eq_false hne]
theorem union_ok {a b : List Int} (ha : risesFrom (-1) a = true) (hb : risesFrom (-1) b = true) (h1 : a.length ≤ 1000000) (h2 : b.length ≤ 1000000) : net_Union.f a b = some (uni a b, 0) := by
  rw [net_Union.f, if_pos ⟨h1, h2⟩, if_pos ha, if_pos hb]
theorem union_bad {a b : List Int} (h : ¬ (risesFrom (-1) a = true ∧ risesFrom (-1) b = true)) (h1 : a.length ≤ 1000000) (h2 : b.length ≤ 1000000) : net_Union.f a b = some ([], 1) := by
  rw [net_Union.f, if_pos ⟨h1, h2⟩]
  by_cases ha : risesFrom (-1) a = true
  · rw [if_pos ha, if_neg (fun hb => h ⟨ha, hb⟩)]
  · rw [if_neg ha]
/-- The lines in service, as numbers. -/
def inL (L : List S37) (out : List Int) : List Int := (inn L out).map (fun (k : Nat) => (k : Int))
end Go.Proofs.Ytdpgdelimffjpaa.P

namespace Go.Proofs.Ytdpgdelimffjpaa.P
open Go.RowKit Go.Proofs.YtdpgdelimffjpaaW.PrintWords Go.Proofs.YtdpgdelimffjpaaW.PrintLast Go.Proofs.YtdpgdelimffjpaaW.PrintMore
attribute [local go_sem] max2_int min2_int max_two min_two max_three min_three max_four min_four
set_option linter.unusedVariables false
set_option linter.unusedSimpArgs false
section
/-- Two buses are joined by a list of edges. -/
def conn (E : List (Nat × Nat)) (x y : Nat) : Prop := lab E x = lab E y
instance (E : List (Nat × Nat)) (x y : Nat) : Decidable (conn E x y) := inferInstanceAs (Decidable (lab E x = lab E y))
theorem conn.symm {E : List (Nat × Nat)} {x y : Nat} (h : conn E x y) : conn E y x := Eq.symm h
theorem conn.trans {E : List (Nat × Nat)} {x y z : Nat} (h : conn E x y) (k : conn E y z) : conn E x z := Eq.trans h k
theorem conn_edge {E : List (Nat × Nat)} {e : Nat × Nat} (h : e ∈ E) : conn E e.1 e.2 := lab_edge h
/-- What joins every edge's ends joins all that the edges join. -/
theorem conn_of {E E' : List (Nat × Nat)} (h : ∀ e ∈ E, conn E' e.1 e.2) {x y : Nat} (k : conn E x y) : conn E' x y := lab_const (lab E') h k
theorem conn_mono {E E' : List (Nat × Nat)} (h : ∀ e ∈ E, e ∈ E') {x y : Nat} (k : conn E x y) : conn E' x y := conn_of (fun e he => conn_edge (h e he)) k
theorem conn_snoc {E : List (Nat × Nat)} {e : Nat × Nat} {x y : Nat} : conn (E ++ [e]) x y ↔ conn E x y ∨ (conn E x e.1 ∧ conn E e.2 y) ∨ (conn E x e.2 ∧ conn E e.1 y) := by
  unfold conn
  rw [lab_snoc]
  unfold merge
  generalize lab E x = fx
  generalize lab E y = fy
  generalize lab E e.1 = f1
  generalize lab E e.2 = f2
  constructor
  · intro h; split at h <;> split at h <;> omega
  · intro h; split <;> split <;> omega
/-- An edge that x does not reach is of no use to x. -/
theorem conn_drop {E E' : List (Nat × Nat)} {e : Nat × Nat} (hE : ∀ d, d ∈ E → d = e ∨ d ∈ E') (hs : ∀ d, d ∈ E' → d ∈ E) (he : e ∈ E) {x y : Nat} (hn : ¬ conn E x e.1) (h : conn E x y) : conn E' x y := by
  have h' : conn (E' ++ [e]) x y := conn_mono (fun d hd => by rcases hE d hd with rfl | h <;> simp_all) h
  have hm : ∀ {u v}, conn E' u v → conn E u v := fun k => conn_mono hs k
  rcases conn_snoc.1 h' with h' | ⟨h', _⟩ | ⟨h', _⟩
  · exact h'
  · exact absurd (hm h') hn
  · exact absurd ((hm h').trans (conn_edge he).symm) hn
/-- A bus that is joined to another has an edge whose other end is joined to it without the bus' own edges. -/
theorem conn_first {E : List (Nat × Nat)} {x y : Nat} (h : conn E x y) (hne : x ≠ y) : ∃ e ∈ E, ∃ z, ((e.1 = x ∧ e.2 = z) ∨ (e.2 = x ∧ e.1 = z)) ∧ conn (E.filter (fun d => d.1 != x && d.2 != x)) z y := by
  have hg := lab_const (fun v => (v = x ∨ ∃ e ∈ E, ∃ z, ((e.1 = x ∧ e.2 = z) ∨ (e.2 = x ∧ e.1 = z)) ∧ conn (E.filter (fun d => d.1 != x && d.2 != x)) z v)) (E := E) (x := x) (y := y) (by
    intro d hd
    apply propext
    by_cases h1 : d.1 = x
    · exact ⟨fun _ => Or.inr ⟨d, hd, d.2, Or.inl ⟨h1, rfl⟩, rfl⟩, fun _ => Or.inl h1⟩
    · by_cases h2 : d.2 = x
      · exact ⟨fun _ => Or.inl h2, fun _ => Or.inr ⟨d, hd, d.1, Or.inr ⟨h2, rfl⟩, rfl⟩⟩
      · have hd0 : conn (E.filter (fun d => d.1 != x && d.2 != x)) d.1 d.2 := conn_edge (List.mem_filter.2 ⟨hd, by simp [h1, h2]⟩)
        constructor
        · rintro (h | ⟨e, he, z, hz, hc⟩)
          · exact absurd h h1
          · exact Or.inr ⟨e, he, z, hz, hc.trans hd0⟩
        · rintro (h | ⟨e, he, z, hz, hc⟩)
          · exact absurd h h2
          · exact Or.inr ⟨e, he, z, hz, hc.trans hd0.symm⟩) h
  have hg2 : (y = x ∨ ∃ e ∈ E, ∃ z, ((e.1 = x ∧ e.2 = z) ∨ (e.2 = x ∧ e.1 = z)) ∧ conn (E.filter (fun d => d.1 != x && d.2 != x)) z y) := hg.mp (Or.inl rfl)
  rcases hg2 with h2 | h2
  · exact absurd h2.symm hne
  · exact h2
end
section
/-- The lines T but k. -/
def less (T : List Nat) (k : Nat) : List Nat := T.filter (fun j => j != k)
theorem mem_less {T : List Nat} {j k : Nat} : j ∈ less T k ↔ j ∈ T ∧ j ≠ k := by simp [less]
/-- Two buses are joined by the lines ks, whose ends en tells. -/
def cn (en : Nat → Nat × Nat) (ks : List Nat) (x y : Nat) : Prop := conn (ks.map en) x y
instance (en : Nat → Nat × Nat) (ks : List Nat) (x y : Nat) : Decidable (cn en ks x y) := inferInstanceAs (Decidable (conn _ x y))
section
variable {en : Nat → Nat × Nat} {T : List Nat} {a x y z k : Nat}
theorem cn_refl : cn en T x x := rfl
theorem cn.symm (h : cn en T x y) : cn en T y x := Eq.symm h
theorem cn.trans (h : cn en T x y) (k : cn en T y z) : cn en T x z := Eq.trans h k
theorem cn_line (h : k ∈ T) : cn en T (en k).1 (en k).2 := conn_edge (List.mem_map_of_mem h)
theorem cn_of {T' : List Nat} (h : ∀ k ∈ T, cn en T' (en k).1 (en k).2) (hc : cn en T x y) : cn en T' x y := conn_of (fun e he => by obtain ⟨k, hk, rfl⟩ := List.mem_map.1 he; exact h k hk) hc
theorem cn_mono {T' : List Nat} (h : ∀ k ∈ T, k ∈ T') (hc : cn en T x y) : cn en T' x y := cn_of (fun _ hk => cn_line (h _ hk)) hc
theorem cn_congr {T' : List Nat} (h : ∀ k, k ∈ T ↔ k ∈ T') : cn en T x y ↔ cn en T' x y := ⟨cn_mono fun k => (h k).1, cn_mono fun k => (h k).2⟩
theorem cn_snoc : cn en (T ++ [k]) x y ↔ cn en T x y ∨ (cn en T x (en k).1 ∧ cn en T (en k).2 y) ∨ (cn en T x (en k).2 ∧ cn en T (en k).1 y) := by
  unfold cn
  rw [List.map_append, List.map_cons, List.map_nil]
  exact conn_snoc
theorem cn_drop {T' : List Nat} (hE : ∀ d, d ∈ T → d = k ∨ d ∈ T') (hs : ∀ d, d ∈ T' → d ∈ T) (hk : k ∈ T) (hn : ¬ cn en T x (en k).1) (h : cn en T x y) : cn en T' x y := by
  refine conn_drop (E := T.map en) (E' := T'.map en) (e := en k) (fun d hd => ?_) (fun d hd => ?_) (List.mem_map_of_mem hk) hn h
  · obtain ⟨j, hj, rfl⟩ := List.mem_map.1 hd
    rcases hE j hj with rfl | h
    · exact Or.inl rfl
    · exact Or.inr (List.mem_map_of_mem h)
  · obtain ⟨j, hj, rfl⟩ := List.mem_map.1 hd
    exact List.mem_map_of_mem (hs j hj)
/-- Line k has the ends x and z. -/
def Inc (en : Nat → Nat × Nat) (k x z : Nat) : Prop := ((en k).1 = x ∧ (en k).2 = z) ∨ ((en k).2 = x ∧ (en k).1 = z)
theorem Inc.cn (h : Inc en k x z) (hk : k ∈ T) : cn en T x z := by
  rcases h with ⟨rfl, rfl⟩ | ⟨rfl, rfl⟩
  · exact cn_line hk
  · exact (cn_line hk).symm
/-- No line joins what the others join: a forest. -/
structure Fo (en : Nat → Nat × Nat) (T : List Nat) : Prop where
  nodup : T.Nodup
  cut : ∀ k ∈ T, ¬ cn en (less T k) (en k).1 (en k).2
theorem Fo.nil : Fo en [] := ⟨List.nodup_nil, fun _ h => absurd h List.not_mem_nil⟩
theorem Fo.snoc (h : Fo en T) (hk : k ∉ T) (hn : ¬ cn en T (en k).1 (en k).2) : Fo en (T ++ [k]) := by
  refine ⟨?_, fun j hj hc => ?_⟩
  · rw [List.nodup_append]
    exact ⟨h.nodup, List.pairwise_singleton _ _, fun a ha b hb e => by simp at hb; subst hb; subst e; exact hk ha⟩
  · rcases List.mem_append.1 hj with hj | hj
    · have hjk : j ≠ k := fun e => hk (e ▸ hj)
      have hl : ∀ d, d ∈ less (T ++ [k]) j ↔ d ∈ less T j ++ [k] := by
        intro d; rw [mem_less]; simp only [List.mem_append, List.mem_singleton, mem_less]
        constructor
        · rintro ⟨h1 | h1, h2⟩
          · exact Or.inl ⟨h1, h2⟩
          · exact Or.inr h1
        · rintro (⟨h1, h2⟩ | h1)
          · exact ⟨Or.inl h1, h2⟩
          · exact ⟨Or.inr h1, fun e => hjk (e.symm.trans h1)⟩
      have hm : ∀ {u v}, cn en (less T j) u v → cn en T u v := fun c => cn_mono (fun d hd => (mem_less.1 hd).1) c
      rcases cn_snoc.1 ((cn_congr hl).1 hc) with hc | ⟨h1, h2⟩ | ⟨h1, h2⟩
      · exact h.cut j hj hc
      · exact hn (((hm h1).symm.trans (cn_line hj)).trans (hm h2).symm)
      · exact hn ((((hm h1).symm.trans (cn_line hj)).trans (hm h2).symm).symm)
    · have e : j = k := by simpa using hj
      subst e
      refine hn ((cn_congr fun d => ?_).1 hc)
      rw [mem_less]; simp only [List.mem_append, List.mem_singleton]
      constructor
      · rintro ⟨h1 | h1, h2⟩
        · exact h1
        · exact absurd h1 h2
      · intro h1; exact ⟨Or.inl h1, fun e => hk (e ▸ h1)⟩
theorem Fo.inc (h : Fo en T) (hk : k ∈ T) (hi : Inc en k x z) : ¬ cn en (less T k) x z := by
  intro hc
  rcases hi with ⟨rfl, rfl⟩ | ⟨rfl, rfl⟩
  · exact h.cut k hk hc
  · exact h.cut k hk hc.symm
/-- What is joined behind line k does without the line by which x was reached. -/
theorem Fo.far (h : Fo en T) {j : Nat} (hk : k ∈ T) (hi : Inc en k x z) (hj : j ∈ T) (hjk : j ≠ k) {p : Nat} (hj2 : Inc en j x p) (hc : cn en (less T k) z y) : cn en (less T j) z y := by
  have hn : ¬ cn en (less T k) z (en j).1 := by
    intro hz
    have hjl : j ∈ less T k := mem_less.2 ⟨hj, hjk⟩
    have : cn en (less T k) x (en j).1 := by
      rcases hj2 with ⟨rfl, rfl⟩ | ⟨rfl, rfl⟩
      · exact cn_refl
      · exact (cn_line hjl).symm
    exact h.inc hk hi (this.trans hz.symm)
  have := cn_drop (T' := less (less T k) j) (fun d hd => (Decidable.em (d = j)).imp id (fun hne => mem_less.2 ⟨hd, hne⟩)) (fun d hd => (mem_less.1 hd).1) (mem_less.2 ⟨hj, hjk⟩) hn hc
  exact cn_mono (fun d hd => mem_less.2 ⟨(mem_less.1 (mem_less.1 hd).1).1, (mem_less.1 hd).2⟩) this
/-- Where a search from x, come by the line 'last', goes on. -/
theorem Fo.step (h : Fo en T) (last : Option Nat) (hl : ∀ j, last = some j → j ∈ T ∧ ∃ p, Inc en j x p) (hne : x ≠ y) :
    cn en (T.filter (fun j => some j != last)) x y ↔ ∃ k ∈ T, some k ≠ last ∧ ∃ z, Inc en k x z ∧ cn en (less T k) z y := by
  constructor
  · intro hc
    obtain ⟨e, he, z, hz, hc2⟩ := conn_first hc hne
    obtain ⟨k, hk, rfl⟩ := List.mem_map.1 he
    have hk2 := List.mem_filter.1 hk
    refine ⟨k, hk2.1, by simpa using hk2.2, z, hz, ?_⟩
    refine conn_mono (fun d hd => ?_) hc2
    obtain ⟨hd1, hd2⟩ := List.mem_filter.1 hd
    obtain ⟨j, hj, rfl⟩ := List.mem_map.1 hd1
    refine List.mem_map_of_mem (mem_less.2 ⟨(List.mem_filter.1 hj).1, fun e => ?_⟩)
    subst e
    simp only [Bool.and_eq_true, bne_iff_ne, ne_eq] at hd2
    rcases hz with ⟨h1, _⟩ | ⟨h1, _⟩
    · exact hd2.1 h1
    · exact hd2.2 h1
  · rintro ⟨k, hk, hkl, z, hi, hc⟩
    have hkm : k ∈ T.filter (fun j => some j != last) := List.mem_filter.2 ⟨hk, by simpa using hkl⟩
    refine (hi.cn hkm).trans ?_
    cases last with
    | none => exact cn_mono (fun d hd => List.mem_filter.2 ⟨(mem_less.1 hd).1, rfl⟩) hc
    | some j =>
      obtain ⟨hj, p, hp⟩ := hl j rfl
      have := h.far hk hi hj (fun e => hkl (by rw [e])) hp hc
      exact cn_mono (fun d hd => List.mem_filter.2 ⟨(mem_less.1 hd).1, by have := (mem_less.1 hd).2; simpa using this⟩) this
/-- The signed use of line t on the way from a to x. -/
def b2i (p : Prop) [Decidable p] : Int := if p then 1 else 0
def W (en : Nat → Nat × Nat) (T : List Nat) (a x t : Nat) : Int := if t ∈ T then b2i (cn en (less T t) a (en t).1) - b2i (cn en (less T t) x (en t).1) else 0
end
end
section
/-- One try of a line: it is written down, and wiped where the search behind it fails. -/
def stepF (on : List Int → Int → Int → Option (Bool × List Int)) (way : List Int) (k next sign : Int) : Option (Bool × List Int) :=
  (on (way.set k.toNat sign) next k).bind fun r => some (r.1, if r.1 = true then r.2 else r.2.set k.toNat 0)
def goF (on : List Int → Int → Int → Option (Bool × List Int)) (L : List S37) (at_ last : Int) : List Int → List Int → Option (Bool × List Int)
  | [], way => some (false, way)
  | k :: ks, way =>
    if k = last then goF on L at_ last ks way
    else if (rd_T37 L k).f0 = at_ then
      (stepF on way k (rd_T37 L k).f1 1).bind fun r => if r.1 = true then some (true, r.2) else
        if (rd_T37 L k).f1 = at_ then (stepF on r.2 k (rd_T37 L k).f0 (-1)).bind fun r => if r.1 = true then some (true, r.2) else goF on L at_ last ks r.2
        else goF on L at_ last ks r.2
    else if (rd_T37 L k).f1 = at_ then (stepF on way k (rd_T37 L k).f0 (-1)).bind fun r => if r.1 = true then some (true, r.2) else goF on L at_ last ks r.2
    else goF on L at_ last ks way
/-- The search, with rounds. -/
def onF (L : List S37) (T : List Int) (tgt : Int) : Nat → List Int → Int → Int → Option (Bool × List Int)
  | 0, _, _, _ => none
  | k + 1, way, at_, last => if at_ = tgt then some (true, way) else goF (onF L T tgt k) L at_ last T way
def enL (L : List S37) (k : Nat) : Nat × Nat := ((rd_T37 L (k : Int)).f0.toNat, (rd_T37 L (k : Int)).f1.toNat)
def castL (T : List Nat) : List Int := T.map (fun (k : Nat) => (k : Int))
def wayOf (L : List S37) (T : List Nat) (a x : Nat) : List Int := (List.range L.length).map (W (enL L) T a x)
structure GoodL (L : List S37) (T : List Nat) : Prop where
  lt : ∀ k ∈ T, k < L.length
  f0 : ∀ k ∈ T, (rd_T37 L (k : Int)).f0 = (((enL L k).1 : Nat) : Int)
  f1 : ∀ k ∈ T, (rd_T37 L (k : Int)).f1 = (((enL L k).2 : Nat) : Int)
  ne : ∀ k ∈ T, (enL L k).1 ≠ (enL L k).2
section
variable {L : List S37} {T : List Nat} {a x z k tgt : Nat}
def OnOk (L : List S37) (T : List Nat) (a tgt : Nat) (last : Option Nat) (x : Nat) (on : List Int → Int → Int → Option (Bool × List Int)) : Prop :=
  ∀ k ∈ T, some k ≠ last → ∀ z, Inc (enL L) k x z → ∃ b, on (wayOf L T a z) (z : Int) (k : Int) = some (b, if b = true then wayOf L T a tgt else wayOf L T a z) ∧ (b = true ↔ cn (enL L) (less T k) z tgt)
/-- How many lines of the forest are not on the way. -/
def off (L : List S37) (T : List Nat) (a x : Nat) : Nat := (T.filter (fun t => W (enL L) T a x t == 0)).length
end
end
section
/-- The spanning forest: line by line, each that the lines before it do not join. -/
def trStep (en : Nat → Nat × Nat) (t : List Nat) (k : Nat) : List Nat := if cn en t (en k).1 (en k).2 then t else t ++ [k]
def tr (en : Nat → Nat × Nat) (ks : List Nat) : List Nat := ks.foldl (trStep en) []
section
variable {en : Nat → Nat × Nat} {T ks : List Nat} {a b x y z k : Nat}
/-! ### how many islands -/
def cnt (f : Nat → Nat) (N : Nat) : Nat := ((List.range N).filter (fun b => f b == b)).length
/-! ### the way, bus by bus -/
def sumTo (F : Nat → Int) : Nat → Int
  | 0 => 0
  | n + 1 => sumTo F n + F n
def dl (x y : Nat) : Int := if x = y then 1 else 0
/-- What line t's ends give to bus x. -/
def dd (en : Nat → Nat × Nat) (t x : Nat) : Int := dl (en t).1 x - dl (en t).2 x
end
end
end Go.Proofs.Ytdpgdelimffjpaa.P

namespace Go.Proofs.Ytdpgdelimffjpaa.P
open Go.RowKit Go.Proofs.YtdpgdelimffjpaaW.PrintWords Go.Proofs.YtdpgdelimffjpaaW.PrintLast Go.Proofs.YtdpgdelimffjpaaW.PrintMore
attribute [local go_sem] max2_int min2_int max_two min_two max_three min_three max_four min_four
set_option linter.unusedVariables false
set_option linter.unusedSimpArgs false
end Go.Proofs.Ytdpgdelimffjpaa.P

namespace Go.Proofs.Ytdpgdelimffjpaa.P
open Go.RowKit Go.Proofs.YtdpgdelimffjpaaW.PrintWords Go.Proofs.YtdpgdelimffjpaaW.PrintLast Go.Proofs.YtdpgdelimffjpaaW.PrintMore
attribute [local go_sem] max2_int min2_int max_two min_two max_three min_three max_four min_four   -- for this text's walks alone
set_option linter.unusedVariables false
set_option linter.unusedSimpArgs false

theorem eqA37 (d : Nat) (w : World) (x0 y0 : Int) (x1 y1 : Int) (x2 y2 : Int) (x3 y3 : Int) :
  (Op.equalIn (d + 2) 37 (.agg #[.int .i64 x0, .int .i64 x1, .int .i64 x2, .int .i64 x3]) (.agg #[.int .i64 y0, .int .i64 y1, .int .i64 y2, .int .i64 y3])).run Try.prog w = .ok (x0 == y0 && (x1 == y1 && (x2 == y2 && (x3 == y3)))) w := by
 refine eqA_of Try.underlying37 (by kernel_rfl) ?_
 refine eqf_cons (by rfl) (by go_simp; rfl) (by go_simp; rfl) (by go_simp) ?_
 refine eqf_cons (by rfl) (by go_simp; rfl) (by go_simp; rfl) (by go_simp) ?_
 refine eqf_cons (by rfl) (by go_simp; rfl) (by go_simp; rfl) (by go_simp) ?_
 exact eqf_last (by rfl) (by go_simp; rfl) (by go_simp; rfl) (by go_simp)
end Go.Proofs.Ytdpgdelimffjpaa.P

namespace Go.Proofs.Ytdpgdelimffjpaa.P
open Go.RowKit Go.Proofs.YtdpgdelimffjpaaW.PrintWords Go.Proofs.YtdpgdelimffjpaaW.PrintLast Go.Proofs.YtdpgdelimffjpaaW.PrintMore
attribute [local go_sem] max2_int min2_int max_two min_two max_three min_three max_four min_four   -- for this text's walks alone
set_option linter.unusedVariables false
set_option linter.unusedSimpArgs false

attribute [local go_sem high] eqA37
/-! ### api_Line: function 104 -/
def api_Line.l0 : Nat → List (S37) → List (S37) → Int → Int → Option (Bool)
 | 0, _, _, _, _ => none
 | k + 1, x0, x1, x12, x13 => if x13 < x12 then (if 0 ≤ x13 then (if x13 < (x0.length : Int) then (if x13 < (x1.length : Int) then (if (!(((rd_T37 x0 x13).f0) == ((rd_T37 x1 x13).f0)) || (!(((rd_T37 x0 x13).f1) == ((rd_T37 x1 x13).f1)) || (!(((rd_T37 x0 x13).f2) == ((rd_T37 x1 x13).f2)) || (!(((rd_T37 x0 x13).f3) == ((rd_T37 x1 x13).f3)))))) = true then (some false) else (api_Line.l0 k x0 x1 x12 (wrap64 (x13 + 1)))) else (none)) else (none)) else (none)) else (some true)
def api_Line.f (k : Nat) (l0 : List (S37)) (l1 : List (S37)) : Option (Bool) := if (l0.length : Int) = (l1.length : Int) then (api_Line.l0 k l0 l1 (l0.length : Int) 0) else (some false)
end Go.Proofs.Ytdpgdelimffjpaa.P

namespace Go.Proofs.Ytdpgdelimffjpaa.P
open Go.RowKit Go.Proofs.YtdpgdelimffjpaaW.PrintWords Go.Proofs.YtdpgdelimffjpaaW.PrintLast Go.Proofs.YtdpgdelimffjpaaW.PrintMore
attribute [local go_sem] max2_int min2_int max_two min_two max_three min_three max_four min_four   -- for this text's walks alone
set_option linter.unusedVariables false
set_option linter.unusedSimpArgs false

/-! ### net_Equal: function 78 -/
def net_Equal.f (k : Nat) (a0_0 : Int) (l0_1 : List (S37)) (a1_0 : Int) (l1_1 : List (S37)) : Option (Bool) := if a0_0 = a1_0 then ((api_Line.f k l0_1 l1_1).bind fun t1506 => (some t1506)) else (some false)
end Go.Proofs.Ytdpgdelimffjpaa.P

namespace Go.Proofs.Ytdpgdelimffjpaa.P
open Go.RowKit Go.Proofs.YtdpgdelimffjpaaW.PrintWords Go.Proofs.YtdpgdelimffjpaaW.PrintLast Go.Proofs.YtdpgdelimffjpaaW.PrintMore
attribute [local go_sem] max2_int min2_int max_two min_two max_three min_three max_four min_four
set_option linter.unusedVariables false
set_option linter.unusedSimpArgs false
end Go.Proofs.Ytdpgdelimffjpaa.P

namespace Go.Proofs.Ytdpgdelimffjpaa.P
open Go.RowKit Go.Proofs.YtdpgdelimffjpaaW.PrintWords Go.Proofs.YtdpgdelimffjpaaW.PrintLast Go.Proofs.YtdpgdelimffjpaaW.PrintMore
attribute [local go_sem] max2_int min2_int max_two min_two max_three min_three max_four min_four   -- for this text's walks alone
set_option linter.unusedVariables false
set_option linter.unusedSimpArgs false

/-! ### pylonref14_Check: function 70 -/
mutual
def pylonref14_Check.j0 : Nat → Bool → Int → List (S37) → Option (Int)
 | 0, _, _, _ => none
 | k + 1, x12, x233000, x233001 => if x12 = true then (some 1) else (if (x233001.length : Int) > 10 then (some 5) else (pylonref14_Check.l0 k 0 x233000 x233001))
def pylonref14_Check.l0 : Nat → Int → Int → List (S37) → Option (Int)
 | 0, _, _, _ => none
 | k + 1, x3, x233000, x233001 => if x3 < (x233001.length : Int) then (if 0 ≤ x3 then (if ((rd_T37 x233001 x3).f0) < 0 then (some 1) else (if ((rd_T37 x233001 x3).f0) ≥ x233000 then (some 1) else (if ((rd_T37 x233001 x3).f1) < 0 then (some 1) else (if ((rd_T37 x233001 x3).f1) ≥ x233000 then (some 1) else (if ((rd_T37 x233001 x3).f0) = ((rd_T37 x233001 x3).f1) then (some 1) else (if ((rd_T37 x233001 x3).f2) < 1 then (some 1) else (if ((rd_T37 x233001 x3).f2) > 1000 then (some 1) else (if ((rd_T37 x233001 x3).f3) < 0 then (some 1) else (if ((rd_T37 x233001 x3).f3) > 1000000 then (some 1) else (pylonref14_Check.l0 k (wrap64 (x3 + 1)) x233000 x233001)))))))))) else (none)) else (some 0)
end
def pylonref14_Check.f (k : Nat) (a0_0 : Int) (l0_1 : List (S37)) : Option (Int) := if a0_0 < 1 then (pylonref14_Check.j0 k true a0_0 l0_1) else (pylonref14_Check.j0 k (decide (a0_0 > 6)) a0_0 l0_1)
end Go.Proofs.Ytdpgdelimffjpaa.P

namespace Go.Proofs.Ytdpgdelimffjpaa.P
open Go.RowKit Go.Proofs.YtdpgdelimffjpaaW.PrintWords Go.Proofs.YtdpgdelimffjpaaW.PrintLast Go.Proofs.YtdpgdelimffjpaaW.PrintMore
attribute [local go_sem] max2_int min2_int max_two min_two max_three min_three max_four min_four   -- for this text's walks alone
set_option linter.unusedVariables false
set_option linter.unusedSimpArgs false

/-! ### pylonref14_Outs: function 69 -/
def pylonref14_Outs.l0 : Nat → List Int → Int → Int → List (S37) → Option (Int)
 | 0, _, _, _, _ => none
 | k + 1, x1, x6, x236000, x236001 => if x6 < (x1.length : Int) then (if 0 ≤ x6 then (if (rd x1 x6) < 0 then (some 1) else (if (rd x1 x6) ≥ (x236001.length : Int) then (some 1) else (if x6 > 0 then (if 0 ≤ (wrap64 (x6 - 1)) then (if (wrap64 (x6 - 1)) < (x1.length : Int) then (if (rd x1 x6) ≤ (rd x1 (wrap64 (x6 - 1))) then (some 1) else (pylonref14_Outs.l0 k x1 (wrap64 (x6 + 1)) x236000 x236001)) else (none)) else (none)) else (pylonref14_Outs.l0 k x1 (wrap64 (x6 + 1)) x236000 x236001)))) else (none)) else (some 0)
def pylonref14_Outs.f (k : Nat) (a0_0 : Int) (l0_1 : List (S37)) (l1 : List Int) : Option (Int) := (pylonref14_Check.f k a0_0 l0_1).bind fun t236 => (if t236 = 0 then (pylonref14_Outs.l0 k l1 0 a0_0 l0_1) else (some t236))
end Go.Proofs.Ytdpgdelimffjpaa.P

namespace Go.Proofs.Ytdpgdelimffjpaa.P
open Go.RowKit Go.Proofs.YtdpgdelimffjpaaW.PrintWords Go.Proofs.YtdpgdelimffjpaaW.PrintLast Go.Proofs.YtdpgdelimffjpaaW.PrintMore
attribute [local go_sem] max2_int min2_int max_two min_two max_three min_three max_four min_four   -- for this text's walks alone
set_option linter.unusedVariables false
set_option linter.unusedSimpArgs false

/-! ### pylonref14_In: function 72 -/
def pylonref14_In.l0 : Nat → List Int → List Int → Int → Int → List (S37) → Option (List Int)
 | 0, _, _, _, _, _ => none
 | k + 1, x1, x5, x6, x243000, x243001 => if x6 < (x243001.length : Int) then ((pylonref14_Has.f k x1 x6).bind fun t243 => (if t243 = true then (pylonref14_In.l0 k x1 x5 (wrap64 (x6 + 1)) x243000 x243001) else (if x5.length < 17592186044416 then (pylonref14_In.l0 k x1 (x5 ++ [x6]) (wrap64 (x6 + 1)) x243000 x243001) else (none)))) else (some x5)
def pylonref14_In.f (k : Nat) (a0_0 : Int) (l0_1 : List (S37)) (l1 : List Int) : Option (List Int) := pylonref14_In.l0 k l1 ([] : List Int) 0 a0_0 l0_1
end Go.Proofs.Ytdpgdelimffjpaa.P

namespace Go.Proofs.Ytdpgdelimffjpaa.P
open Go.RowKit Go.Proofs.YtdpgdelimffjpaaW.PrintWords Go.Proofs.YtdpgdelimffjpaaW.PrintLast Go.Proofs.YtdpgdelimffjpaaW.PrintMore
attribute [local go_sem] max2_int min2_int max_two min_two max_three min_three max_four min_four
set_option linter.unusedVariables false
set_option linter.unusedSimpArgs false
section
theorem Ev.upto {α : Type} {v : α} (N : Nat) (F : Nat → Nat → Option α) (hend : Ev (fun k => F k N) v) (hstep : ∀ i, i < N → Ev (fun k => F k (i + 1)) v → Ev (fun k => F k i) v) : Ev (fun k => F k 0) v := by
  have key : ∀ m i, i + m = N → Ev (fun k => F k i) v := by
    intro m
    induction m with
    | zero => intro i hi; have : i = N := by omega
              subst this; exact hend
    | succ m ih => intro i hi; exact hstep i (by omega) (ih (i + 1) (by omega))
  exact key N 0 (by omega)
theorem wrap_succ {i : Nat} (h : i < 9223372036854775807) : wrap64 ((i : Int) + 1) = ((i + 1 : Nat) : Int) := by rw [wrap_small (by omega) (by omega)]; rfl
def ltAll (n : Nat) (l : List Int) : Bool := decide (∀ x ∈ l, x < (n : Int))
/-- The numbers below n that are not in l. -/
def coN (l : List Int) (n : Nat) : List Int := ((List.range n).filter (fun (k : Nat) => !l.contains (k : Int))).map (fun (k : Nat) => (k : Int))
end
end Go.Proofs.Ytdpgdelimffjpaa.P

namespace Go.Proofs.Ytdpgdelimffjpaa.P
open Go.RowKit Go.Proofs.YtdpgdelimffjpaaW.PrintWords Go.Proofs.YtdpgdelimffjpaaW.PrintLast Go.Proofs.YtdpgdelimffjpaaW.PrintMore
attribute [local go_sem] max2_int min2_int max_two min_two max_three min_three max_four min_four
set_option linter.unusedVariables false
set_option linter.unusedSimpArgs false
section
/-- The document's Rises is the program's. -/
theorem risesR_ev (l : List Int) (hl : l.length ≤ 1000000) : Ev (fun k => pylonref14_Rises.f k l) (risesFrom (-1) l) := by
  have key : ∀ m i, i + m = l.length → ∀ last : Int, -1 ≤ last → (0 < i → last = rd l ((i - 1 : Nat) : Int)) → (i = 0 → last = -1) → Ev (fun k => pylonref14_Rises.l0 k l (i : Int)) (risesFrom last (l.drop i)) := by
    intro m
    induction m with
    | zero =>
      intro i hi last _ _ _
      rw [List.drop_eq_nil_of_le (by omega)]
      refine Ev.succ (G := fun _ => some true) (fun k => ?_) (Ev.some_ _)
      rw [pylonref14_Rises.l0, if_neg (by omega)]
    | succ m ih =>
      intro i hi last hl0 hl1 hl2
      have hil : i < l.length := by omega
      have hx := rd_nat l i hil
      rw [List.drop_eq_getElem_cons hil, ← hx, risesFrom]
      by_cases c : last < rd l (i : Int)
      · rw [decide_eq_true c, Bool.true_and]
        refine Ev.succ (fun k => ?_) (ih (i + 1) (by omega) (rd l (i : Int)) (by omega) (fun _ => rfl) (fun h => by omega))
        rw [pylonref14_Rises.l0, if_pos (by omega), if_pos (by omega), if_neg (by omega), wrap_succ (by omega)]
        by_cases hi0 : i = 0
        · subst hi0; rw [if_neg (by omega)]
        · have hw : wrap64 ((i : Int) - 1) = ((i - 1 : Nat) : Int) := by rw [wrap_small (by omega) (by omega)]; omega
          rw [if_pos (by omega), hw, if_pos (by omega), if_pos (by omega), if_neg (by rw [← hl1 (by omega)]; omega)]
      · rw [decide_eq_false c, Bool.false_and]
        refine Ev.succ (G := fun _ => some false) (fun k => ?_) (Ev.some_ _)
        rw [pylonref14_Rises.l0, if_pos (by omega), if_pos (by omega)]
        by_cases h1 : rd l (i : Int) < 0
        · rw [if_pos h1]
        rw [if_neg h1]
        by_cases hi0 : i = 0
        · have := hl2 hi0; omega
        · have hw : wrap64 ((i : Int) - 1) = ((i - 1 : Nat) : Int) := by rw [wrap_small (by omega) (by omega)]; omega
          rw [if_pos (by omega), hw, if_pos (by omega), if_pos (by omega), if_pos (by rw [← hl1 (by omega)]; omega)]
  exact key l.length 0 (by omega) (-1) (by omega) (fun h => by omega) (fun _ => rfl)
theorem both_key : ∀ (n : Nat) (a b acc : List Int), a.length + b.length ≤ n → a.Pairwise (· < ·) → b.Pairwise (· < ·) → acc.length + n ≤ 1000000 → ∃ m, Ev (fun k => pylonref14_Both.l0 k a b acc) (acc ++ m) ∧ m.Pairwise (· < ·) ∧ ∀ x, x ∈ m ↔ x ∈ a ∨ x ∈ b := by
  intro n
  induction n with
  | zero =>
    intro a b acc hn _ _ hacc
    have ha0 : a = [] := List.length_eq_zero_iff.1 (by omega)
    have hb0 : b = [] := List.length_eq_zero_iff.1 (by omega)
    subst ha0; subst hb0
    refine ⟨[], Ev.succ (G := fun _ => some (acc ++ [])) (fun k => ?_) (Ev.some_ _), List.Pairwise.nil, by simp⟩
    rw [pylonref14_Both.l0, if_neg (by rw [wrap_small (by simp) (by simp)]; simp), List.append_nil]
  | succ n ih =>
    intro a b acc hn ha hb hacc
    by_cases hz : a.length + b.length = 0
    · have ha0 : a = [] := List.length_eq_zero_iff.1 (by omega)
      have hb0 : b = [] := List.length_eq_zero_iff.1 (by omega)
      subst ha0; subst hb0
      refine ⟨[], Ev.succ (G := fun _ => some (acc ++ [])) (fun k => ?_) (Ev.some_ _), List.Pairwise.nil, by simp⟩
      rw [pylonref14_Both.l0, if_neg (by rw [wrap_small (by simp) (by simp)]; simp), List.append_nil]
    have hw : wrap64 ((a.length : Int) + (b.length : Int)) > 0 := by rw [wrap_small (by omega) (by omega)]; omega
    have cons_mem : ∀ (x : Int) (m c d : List Int), (∀ y, y ∈ m ↔ y ∈ c ∨ y ∈ d) → (∀ y ∈ c, x < y) → (∀ y ∈ d, x < y) → m.Pairwise (· < ·) → (x :: m).Pairwise (· < ·) := by
      intro x m c d hm hc hd hp
      rw [List.pairwise_cons]
      exact ⟨fun y hy => (hm y).1 hy |>.elim (hc y) (hd y), hp⟩
    cases a with
    | nil =>
      cases b with
      | nil => simp at hz
      | cons y b =>
        have hb' := List.pairwise_cons.1 hb
        obtain ⟨m, hm, hp, hmem⟩ := ih [] b (acc ++ [y]) (by simp at hn ⊢; omega) ha hb'.2 (by simp at hn ⊢; omega)
        refine ⟨y :: m, ?_, cons_mem y m [] b hmem (by simp) hb'.1 hp, fun x => by rw [List.mem_cons, hmem, List.mem_cons]; simp⟩
        rw [List.append_assoc] at hm
        refine Ev.succ (G := fun k => pylonref14_Both.j1 k [] (y :: b) acc false) (fun k => ?_) (Ev.succ (fun k => ?_) hm)
        · rw [pylonref14_Both.l0, if_pos hw, if_neg (by simp <;> omega), if_neg (by simp)]
        · rw [pylonref14_Both.j1, if_neg (by simp), if_pos (by simp <;> omega), if_pos (by simp <;> omega), if_pos (by omega), if_pos (by simp <;> omega)]; rfl
    | cons x a =>
      have ha' := List.pairwise_cons.1 ha
      cases b with
      | nil =>
        obtain ⟨m, hm, hp, hmem⟩ := ih a [] (acc ++ [x]) (by simp at hn ⊢; omega) ha'.2 hb (by simp at hn ⊢; omega)
        refine ⟨x :: m, ?_, cons_mem x m a [] hmem ha'.1 (by simp) hp, fun z => by rw [List.mem_cons, hmem, List.mem_cons]; simp⟩
        rw [List.append_assoc] at hm
        refine Ev.succ (G := fun k => pylonref14_Both.j1 k (x :: a) [] acc true) (fun k => ?_) (Ev.succ (fun k => ?_) hm)
        · rw [pylonref14_Both.l0, if_pos hw, if_pos (by simp <;> omega)]
        · rw [pylonref14_Both.j1, if_pos rfl, if_pos (by simp <;> omega), if_pos (by omega), if_pos (by simp <;> omega)]; rfl
      | cons y b =>
        have hb' := List.pairwise_cons.1 hb
        have e0 : ∀ (z : Int) (l : List Int), rd (z :: l) 0 = z := fun z l => rfl
        by_cases c : x < y
        · obtain ⟨m, hm, hp, hmem⟩ := ih a (y :: b) (acc ++ [x]) (by simp at hn ⊢; omega) ha'.2 hb (by simp at hn ⊢; omega)
          refine ⟨x :: m, ?_, cons_mem x m a (y :: b) hmem ha'.1 (fun z hz => ?_) hp, fun z => by rw [List.mem_cons, hmem, List.mem_cons (b := x), or_assoc]⟩
          · rw [List.append_assoc] at hm
            refine Ev.succ (G := fun k => pylonref14_Both.j1 k (x :: a) (y :: b) acc true) (fun k => ?_) (Ev.succ (fun k => ?_) hm)
            · rw [pylonref14_Both.l0, if_pos hw, if_neg (by simp <;> omega), if_pos (by simp <;> omega), if_pos (by simp <;> omega), if_pos (by simp <;> omega), e0, e0, decide_eq_true c]
            · rw [pylonref14_Both.j1, if_pos rfl, if_pos (by simp <;> omega), if_pos (by omega), if_pos (by simp <;> omega)]; rfl
          · rcases List.mem_cons.1 hz with rfl | hz
            · exact c
            · have := hb'.1 z hz; omega
        · by_cases c2 : y < x
          · obtain ⟨m, hm, hp, hmem⟩ := ih (x :: a) b (acc ++ [y]) (by simp at hn ⊢; omega) ha hb'.2 (by simp at hn ⊢; omega)
            refine ⟨y :: m, ?_, cons_mem y m (x :: a) b hmem (fun z hz => ?_) hb'.1 hp, fun z => by
              rw [List.mem_cons, hmem, List.mem_cons (a := z) (b := y)]
              constructor
              · rintro (h | h | h)
                · exact Or.inr (Or.inl h)
                · exact Or.inl h
                · exact Or.inr (Or.inr h)
              · rintro (h | h | h)
                · exact Or.inr (Or.inl h)
                · exact Or.inl h
                · exact Or.inr (Or.inr h)⟩
            · rw [List.append_assoc] at hm
              refine Ev.succ (G := fun k => pylonref14_Both.j1 k (x :: a) (y :: b) acc false) (fun k => ?_) (Ev.succ (fun k => ?_) hm)
              · rw [pylonref14_Both.l0, if_pos hw, if_neg (by simp <;> omega), if_pos (by simp <;> omega), if_pos (by simp <;> omega), if_pos (by simp <;> omega), e0, e0, decide_eq_false c]
              · rw [pylonref14_Both.j1, if_neg (by simp), if_neg (by simp <;> omega), if_pos (by simp <;> omega), if_pos (by simp <;> omega), e0, e0, if_pos c2, if_pos (by omega), if_pos (by simp <;> omega)]; rfl
            · rcases List.mem_cons.1 hz with rfl | hz
              · exact c2
              · have := ha'.1 z hz; omega
          · have hxy : x = y := by omega
            subst hxy
            obtain ⟨m, hm, hp, hmem⟩ := ih a b (acc ++ [x]) (by simp at hn ⊢; omega) ha'.2 hb'.2 (by simp at hn ⊢; omega)
            refine ⟨x :: m, ?_, cons_mem x m a b hmem ha'.1 hb'.1 hp, fun z => by
              rw [List.mem_cons, hmem, List.mem_cons, List.mem_cons]
              constructor
              · rintro (h | h | h)
                · exact Or.inl (Or.inl h)
                · exact Or.inl (Or.inr h)
                · exact Or.inr (Or.inr h)
              · rintro ((h | h) | (h | h))
                · exact Or.inl h
                · exact Or.inr (Or.inl h)
                · exact Or.inl h
                · exact Or.inr (Or.inr h)⟩
            rw [List.append_assoc] at hm
            refine Ev.succ (G := fun k => pylonref14_Both.j1 k (x :: a) (x :: b) acc false) (fun k => ?_) (Ev.succ (fun k => ?_) hm)
            · rw [pylonref14_Both.l0, if_pos hw, if_neg (by simp <;> omega), if_pos (by simp <;> omega), if_pos (by simp <;> omega), if_pos (by simp <;> omega), e0, e0, decide_eq_false c]
            · rw [pylonref14_Both.j1, if_neg (by simp), if_neg (by simp <;> omega), if_pos (by simp <;> omega), if_pos (by simp <;> omega), e0, e0, if_neg c2, if_pos (by omega), if_pos (by simp <;> omega), if_pos (by simp <;> omega)]; rfl
theorem bothR_ev {a b : List Int} (ha : a.Pairwise (· < ·)) (hb : b.Pairwise (· < ·)) (h1 : a.length ≤ 1000) (h2 : b.length ≤ 1000) : Ev (fun k => pylonref14_Both.f k a b) (uni a b) := by
  obtain ⟨m, hm, hp, hmem⟩ := both_key (a.length + b.length) a b [] (Nat.le_refl _) ha hb (by simp; omega)
  have e : m = uni a b := inc_ext hp (uni_inc a b) fun x => by rw [hmem, mem_uni]
  rw [← e]
  exact hm
end
end Go.Proofs.Ytdpgdelimffjpaa.P

namespace Go.Proofs.Ytdpgdelimffjpaa.P
open Go.RowKit Go.Proofs.YtdpgdelimffjpaaW.PrintWords Go.Proofs.YtdpgdelimffjpaaW.PrintLast Go.Proofs.YtdpgdelimffjpaaW.PrintMore
attribute [local go_sem] max2_int min2_int max_two min_two max_three min_three max_four min_four
set_option linter.unusedVariables false
set_option linter.unusedSimpArgs false
theorem NetUnionMatches_true (l0 l1 : List Int) : ∃ k, pylonlaw14_NetUnionMatches.f k l0 l1 = some true := by
  apply Ev.tell
  obtain ⟨r, hr, hx⟩ := long_f 0 [] [l0, l1] (by simp)
  have haw : Ev (fun _ : Nat => (pylonlaw14_awake.f).bind fun t => (some t)) true := Ev.some_ _
  refine Ev.bind hr ?_
  cases r with
  | true => exact haw
  | false =>
    obtain ⟨_, hl⟩ := hx rfl
    have h1 : l0.length ≤ 100 := hl l0 (by simp)
    have h2 : l1.length ≤ 100 := hl l1 (by simp)
    have hi : ∀ l : List Int, l.length ≤ 100 → pylonlaw14_ints.f l = some l := fun l h => by
      rw [pylonlaw14_ints.f, if_pos (by simp; omega), List.nil_append]
    refine Ev.eq (fun k => by rw [if_neg (by simp), hi l0 h1, Option.bind_some, hi l1 h2, Option.bind_some]) (Ev.bind (risesR_ev l0 (by omega)) ?_)
    have i1 := ints_ev l0 l0 (by omega)
    have i2 := ints_ev l1 l1 (by omega)
    rw [decide_eq_true rfl] at i1 i2
    have hgo : ∀ m : Bool, m = (risesFrom (-1) l0 && risesFrom (-1) l1) → Ev (fun k => pylonlaw14_NetUnionMatches.j0 k l0 l1 l0 l1 m) true := by
      intro m hm
      refine Ev.succ (G := fun k => pylonlaw14_NetUnionMatches.l0 k l0 l1 l0 l1 m 0) (fun k => by rw [pylonlaw14_NetUnionMatches.j0]) ?_
      refine Ev.upto 2 (fun k i => pylonlaw14_NetUnionMatches.l0 k l0 l1 l0 l1 m (i : Int)) ?_ fun i hi hnext => ?_
      · refine Ev.succ (G := fun _ : Nat => (pylonlaw14_awake.f).bind fun t => (some t)) (fun k => ?_) haw
        rw [pylonlaw14_NetUnionMatches.l0, if_neg (by omega)]
      · have htail : ∀ (l : List Int), Ev (fun k => (pylonref14_Ints.f k l0 l0).bind fun t => (if t = true then ((pylonref14_Ints.f k l1 l1).bind fun t2 => (if t2 = true then ((pylonlaw14_spoil.f 0 ([] : List (S37)) (([l] : List (List Int)))).bind fun _ => (pylonlaw14_NetUnionMatches.l0 k l0 l1 l0 l1 m (wrap64 ((i : Int) + 1)))) else (some false))) else (some false))) true := by
          intro l
          refine Ev.bind i1 (Ev.eq (fun k => if_pos rfl) (Ev.bind i2 (Ev.eq (fun k => ?_) hnext)))
          rw [if_pos rfl, wrap_succ (by omega)]; rfl
        by_cases hboth : risesFrom (-1) l0 = true ∧ risesFrom (-1) l1 = true
        · have hu := union_ok hboth.1 hboth.2 (by omega) (by omega)
          have hm' : m = true := by rw [hm, hboth.1, hboth.2]; rfl
          subst hm'
          have h3 := uni_len l0 l1
          have hi3 := ints_ev (uni l0 l1) (uni l0 l1) (by omega)
          rw [decide_eq_true rfl] at hi3
          refine Ev.succ (G := fun k => (pylonref14_Both.f k l0 l1).bind fun t1262 => ((pylonref14_Ints.f k (uni l0 l1) t1262).bind fun t1265 => (if t1265 = true then ((pylonref14_Ints.f k l0 l0).bind fun t => (if t = true then ((pylonref14_Ints.f k l1 l1).bind fun t2 => (if t2 = true then ((pylonlaw14_spoil.f 0 ([] : List (S37)) (([uni l0 l1] : List (List Int)))).bind fun _ => (pylonlaw14_NetUnionMatches.l0 k l0 l1 l0 l1 true (wrap64 ((i : Int) + 1)))) else (some false))) else (some false))) else (some false)))) (fun k => ?_) ?_
          · rw [pylonlaw14_NetUnionMatches.l0, if_pos (by omega), hu, Option.bind_some, if_pos rfl, if_pos rfl]
          · exact Ev.bind (bothR_ev (rises_iff.1 hboth.1).2 (rises_iff.1 hboth.2).2 (by omega) (by omega)) (Ev.bind hi3 (Ev.eq (fun k => if_pos rfl) (htail _)))
        · have hu := union_bad hboth (by omega) (by omega)
          have hm' : m = false := by
            rw [hm, Bool.eq_false_iff]
            intro h
            rw [Bool.and_eq_true] at h
            exact hboth h
          subst hm'
          refine Ev.succ (fun k => ?_) (htail [])
          rw [pylonlaw14_NetUnionMatches.l0, if_pos (by omega), hu, Option.bind_some, if_neg (by simp), if_pos rfl, if_pos (by simp)]
    cases hr0 : risesFrom (-1) l0 with
    | true =>
      refine Ev.eq (fun k => if_pos rfl) (Ev.bind (risesR_ev l1 (by omega)) (hgo _ (by rw [hr0]; rfl)))
    | false => exact Ev.eq (fun k => if_neg (by simp)) (hgo _ (by rw [hr0]; rfl))
end Go.Proofs.Ytdpgdelimffjpaa.P
