-- Written by wip/drive.py (a prover's driver over the kit's print.py); hand-proved contracts stand among the printed ones. Lean checks it.
import Derived.Test.YtdpgdelimffjpaaFBase
import Derived.Test.YtdpgdelimffjpaaF28
import Derived.Test.YtdpgdelimffjpaaF29
import Derived.Test.YtdpgdelimffjpaaF30
import Derived.Test.YtdpgdelimffjpaaF31
import Derived.Test.YtdpgdelimffjpaaF32
import Derived.Test.YtdpgdelimffjpaaF33
namespace Go.Proofs.Ytdpgdelimffjpaa.P
open Go.RowKit Go.Proofs.YtdpgdelimffjpaaW.PrintWords Go.Proofs.YtdpgdelimffjpaaW.PrintLast Go.Proofs.YtdpgdelimffjpaaW.PrintMore
attribute [local go_sem] max2_int min2_int max_two min_two max_three min_three max_four min_four   -- for this text's walks alone
set_option linter.unusedVariables false
set_option linter.unusedSimpArgs false

/-! ### pylonlaw15_IslandConnected: function 3 -/
mutual
def pylonlaw15_IslandConnected.j0 : Nat → List Int → Bool → Int → List (S37) → Option (Bool)
 | 0, _, _, _, _ => none
 | k + 1, x1, x31, x154000, x154001 => if x31 = true then ((pylonlaw15_awake.f).bind fun t159 => (some t159)) else ((island_Of.f k x154000 x154001 x1).bind fun bt160 => (if bt160.2 = 0 then ((net_Strip.f x154000 x154001 x1).bind fun bt165 => (if bt165.2.2.2 = 0 then (pylonlaw15_IslandConnected.j1 k x1 bt160.1 ((bt160.1.length : Int) != x154000) x154000 x154001 bt165.1 bt165.2.1) else (pylonlaw15_IslandConnected.j1 k x1 bt160.1 true x154000 x154001 bt165.1 bt165.2.1))) else ((net_Outs.f k x154000 x154001 x1).bind fun t164 => (some (t164 == bt160.2)))))
def pylonlaw15_IslandConnected.j1 : Nat → List Int → List Int → Bool → Int → List (S37) → Int → List (S37) → Option (Bool)
 | 0, _, _, _, _, _, _, _ => none
 | k + 1, x1, x5, x61, x154000, x154001, x174000, x174001 => if x61 = true then (some false) else (pylonlaw15_IslandConnected.l0 k x1 x5 0 x154000 x154001 x174000 x174001)
def pylonlaw15_IslandConnected.l0 : Nat → List Int → List Int → Int → Int → List (S37) → Int → List (S37) → Option (Bool)
 | 0, _, _, _, _, _, _, _ => none
 | k + 1, x1, x5, x10, x154000, x154001, x174000, x174001 => if x10 < (x174001.length : Int) then (if 0 ≤ x10 then ((island_Connected.f x154000 x154001 x1 ((rd_T37 x174001 x10).f0) ((rd_T37 x174001 x10).f1)).bind fun bt176 => (if bt176.1 = true then (if bt176.2 = 0 then (pylonlaw15_IslandConnected.l0 k x1 x5 (wrap64 (x10 + 1)) x154000 x154001 x174000 x174001) else (some false)) else (some false))) else (none)) else (pylonlaw15_IslandConnected.l1 k x1 x5 0 x154000 x154001)
def pylonlaw15_IslandConnected.l1 : Nat → List Int → List Int → Int → Int → List (S37) → Option (Bool)
 | 0, _, _, _, _, _ => none
 | k + 1, x1, x5, x13, x154000, x154001 => if x13 < x154000 then (pylonlaw15_IslandConnected.l2 k x1 x5 x13 0 x154000 x154001) else (some true)
def pylonlaw15_IslandConnected.l2 : Nat → List Int → List Int → Int → Int → Int → List (S37) → Option (Bool)
 | 0, _, _, _, _, _, _ => none
 | k + 1, x1, x5, x13, x14, x154000, x154001 => if x14 < x154000 then ((island_Connected.f x154000 x154001 x1 x13 x14).bind fun bt178 => ((island_Connected.f x154000 x154001 x1 x14 x13).bind fun bt180 => (if bt178.2 = 0 then (if bt180.2 = 0 then (if (bt178.1 != bt180.1) = true then (pylonlaw15_IslandConnected.j5 k x1 x5 x13 x14 bt178.1 true x154000 x154001) else (if 0 ≤ x13 then (if x13 < (x5.length : Int) then (if 0 ≤ x14 then (if x14 < (x5.length : Int) then (if (bt178.1 != ((rd x5 x13) == (rd x5 x14))) = true then (pylonlaw15_IslandConnected.j5 k x1 x5 x13 x14 bt178.1 true x154000 x154001) else (if x13 = x14 then (pylonlaw15_IslandConnected.j5 k x1 x5 x13 x14 bt178.1 (!bt178.1) x154000 x154001) else (pylonlaw15_IslandConnected.j5 k x1 x5 x13 x14 bt178.1 false x154000 x154001))) else (none)) else (none)) else (none)) else (none))) else (pylonlaw15_IslandConnected.j5 k x1 x5 x13 x14 bt178.1 true x154000 x154001)) else (pylonlaw15_IslandConnected.j5 k x1 x5 x13 x14 bt178.1 true x154000 x154001)))) else (pylonlaw15_IslandConnected.l1 k x1 x5 (wrap64 (x13 + 1)) x154000 x154001)
def pylonlaw15_IslandConnected.j5 : Nat → List Int → List Int → Int → Int → Bool → Bool → Int → List (S37) → Option (Bool)
 | 0, _, _, _, _, _, _, _, _ => none
 | k + 1, x1, x5, x13, x14, x15, x153, x154000, x154001 => if x153 = true then (some false) else (pylonlaw15_IslandConnected.l3 k x1 x5 x13 x14 x15 0 x154000 x154001)
def pylonlaw15_IslandConnected.l3 : Nat → List Int → List Int → Int → Int → Bool → Int → Int → List (S37) → Option (Bool)
 | 0, _, _, _, _, _, _, _, _ => none
 | k + 1, x1, x5, x13, x14, x15, x19, x154000, x154001 => if x19 < x154000 then (pylonlaw15_IslandConnected.j7 k x1 x5 x13 x14 x15 x19 x15 x154000 x154001) else (pylonlaw15_IslandConnected.j7 k x1 x5 x13 x14 x15 x19 false x154000 x154001)
def pylonlaw15_IslandConnected.j7 : Nat → List Int → List Int → Int → Int → Bool → Int → Bool → Int → List (S37) → Option (Bool)
 | 0, _, _, _, _, _, _, _, _, _ => none
 | k + 1, x1, x5, x13, x14, x15, x19, x160, x154000, x154001 => if x160 = true then ((island_Connected.f x154000 x154001 x1 x14 x19).bind fun bt184 => ((island_Connected.f x154000 x154001 x1 x13 x19).bind fun bt186 => (if (bt184.1 != bt186.1) = true then (some false) else (pylonlaw15_IslandConnected.l3 k x1 x5 x13 x14 x15 (wrap64 (x19 + 1)) x154000 x154001)))) else (pylonlaw15_IslandConnected.l2 k x1 x5 x13 (wrap64 (x14 + 1)) x154000 x154001)
end
def pylonlaw15_IslandConnected.f (k : Nat) (a0_0 : Int) (l0_1 : List (S37)) (l1 : List Int) : Option (Bool) := (pylonlaw14_Long.f k a0_0 l0_1 (([l1] : List (List Int)))).bind fun t157 => (if t157 = true then (pylonlaw15_IslandConnected.j0 k l1 true a0_0 l0_1) else ((pylonlaw15_awake.f).bind fun t158 => (pylonlaw15_IslandConnected.j0 k l1 (!t158) a0_0 l0_1)))
theorem pylonlaw15_IslandConnected.mono_l : ∀ k, (∀ y0 y1 y2 y3, LeO (pylonlaw15_IslandConnected.j0 k y0 y1 y2 y3) (pylonlaw15_IslandConnected.j0 (k + 1) y0 y1 y2 y3)) ∧ (∀ y0 y1 y2 y3 y4 y5 y6, LeO (pylonlaw15_IslandConnected.j1 k y0 y1 y2 y3 y4 y5 y6) (pylonlaw15_IslandConnected.j1 (k + 1) y0 y1 y2 y3 y4 y5 y6)) ∧ (∀ y0 y1 y2 y3 y4 y5 y6, LeO (pylonlaw15_IslandConnected.l0 k y0 y1 y2 y3 y4 y5 y6) (pylonlaw15_IslandConnected.l0 (k + 1) y0 y1 y2 y3 y4 y5 y6)) ∧ (∀ y0 y1 y2 y3 y4, LeO (pylonlaw15_IslandConnected.l1 k y0 y1 y2 y3 y4) (pylonlaw15_IslandConnected.l1 (k + 1) y0 y1 y2 y3 y4)) ∧ (∀ y0 y1 y2 y3 y4 y5, LeO (pylonlaw15_IslandConnected.l2 k y0 y1 y2 y3 y4 y5) (pylonlaw15_IslandConnected.l2 (k + 1) y0 y1 y2 y3 y4 y5)) ∧ (∀ y0 y1 y2 y3 y4 y5 y6 y7, LeO (pylonlaw15_IslandConnected.j5 k y0 y1 y2 y3 y4 y5 y6 y7) (pylonlaw15_IslandConnected.j5 (k + 1) y0 y1 y2 y3 y4 y5 y6 y7)) ∧ (∀ y0 y1 y2 y3 y4 y5 y6 y7, LeO (pylonlaw15_IslandConnected.l3 k y0 y1 y2 y3 y4 y5 y6 y7) (pylonlaw15_IslandConnected.l3 (k + 1) y0 y1 y2 y3 y4 y5 y6 y7)) ∧ (∀ y0 y1 y2 y3 y4 y5 y6 y7 y8, LeO (pylonlaw15_IslandConnected.j7 k y0 y1 y2 y3 y4 y5 y6 y7 y8) (pylonlaw15_IslandConnected.j7 (k + 1) y0 y1 y2 y3 y4 y5 y6 y7 y8))
 | 0 => ⟨fun _ _ _ _ r h => by simp [pylonlaw15_IslandConnected.j0] at h, fun _ _ _ _ _ _ _ r h => by simp [pylonlaw15_IslandConnected.j1] at h, fun _ _ _ _ _ _ _ r h => by simp [pylonlaw15_IslandConnected.l0] at h, fun _ _ _ _ _ r h => by simp [pylonlaw15_IslandConnected.l1] at h, fun _ _ _ _ _ _ r h => by simp [pylonlaw15_IslandConnected.l2] at h, fun _ _ _ _ _ _ _ _ r h => by simp [pylonlaw15_IslandConnected.j5] at h, fun _ _ _ _ _ _ _ _ r h => by simp [pylonlaw15_IslandConnected.l3] at h, fun _ _ _ _ _ _ _ _ _ r h => by simp [pylonlaw15_IslandConnected.j7] at h⟩
 | k + 1 => by
  obtain ⟨ih0, ih1, ih2, ih3, ih4, ih5, ih6, ih7⟩ := pylonlaw15_IslandConnected.mono_l k
  refine ⟨?_, ?_, ?_, ?_, ?_, ?_, ?_, ?_⟩
  ·intro y0 y1 y2 y3
   unfold pylonlaw15_IslandConnected.j0
   repeat' first
   | (with_reducible exact ih0 _ _ _ _)
   | (with_reducible exact ih1 _ _ _ _ _ _ _)
   | (with_reducible exact ih2 _ _ _ _ _ _ _)
   | (with_reducible exact ih3 _ _ _ _ _)
   | (with_reducible exact ih4 _ _ _ _ _ _)
   | (with_reducible exact ih5 _ _ _ _ _ _ _ _)
   | (with_reducible exact ih6 _ _ _ _ _ _ _ _)
   | (with_reducible exact ih7 _ _ _ _ _ _ _ _ _)
   | (with_reducible exact island_Of.mono _ _ _ _)
   | (with_reducible exact net_Outs.mono _ _ _ _)
   | (with_reducible exact pylonlaw14_Long.mono _ _ _ _)
   | (with_reducible exact LeO.refl _)
   | (with_reducible exact LeO.none _)
   | (with_reducible refine LeO.ite ?_ ?_)
   | (with_reducible refine LeO.bind ?_ (fun _ => ?_))
   | exact ih0 _ _ _ _
   | exact ih1 _ _ _ _ _ _ _
   | exact ih2 _ _ _ _ _ _ _
   | exact ih3 _ _ _ _ _
   | exact ih4 _ _ _ _ _ _
   | exact ih5 _ _ _ _ _ _ _ _
   | exact ih6 _ _ _ _ _ _ _ _
   | exact ih7 _ _ _ _ _ _ _ _ _
   | exact island_Of.mono _ _ _ _
   | exact net_Outs.mono _ _ _ _
   | exact pylonlaw14_Long.mono _ _ _ _
   | exact LeO.none _
   | refine LeO.ite ?_ ?_
   | refine LeO.bind ?_ (fun _ => ?_)
  ·intro y0 y1 y2 y3 y4 y5 y6
   unfold pylonlaw15_IslandConnected.j1
   repeat' first
   | (with_reducible exact ih0 _ _ _ _)
   | (with_reducible exact ih1 _ _ _ _ _ _ _)
   | (with_reducible exact ih2 _ _ _ _ _ _ _)
   | (with_reducible exact ih3 _ _ _ _ _)
   | (with_reducible exact ih4 _ _ _ _ _ _)
   | (with_reducible exact ih5 _ _ _ _ _ _ _ _)
   | (with_reducible exact ih6 _ _ _ _ _ _ _ _)
   | (with_reducible exact ih7 _ _ _ _ _ _ _ _ _)
   | (with_reducible exact island_Of.mono _ _ _ _)
   | (with_reducible exact net_Outs.mono _ _ _ _)
   | (with_reducible exact pylonlaw14_Long.mono _ _ _ _)
   | (with_reducible exact LeO.refl _)
   | (with_reducible exact LeO.none _)
   | (with_reducible refine LeO.ite ?_ ?_)
   | (with_reducible refine LeO.bind ?_ (fun _ => ?_))
   | exact ih0 _ _ _ _
   | exact ih1 _ _ _ _ _ _ _
   | exact ih2 _ _ _ _ _ _ _
   | exact ih3 _ _ _ _ _
   | exact ih4 _ _ _ _ _ _
   | exact ih5 _ _ _ _ _ _ _ _
   | exact ih6 _ _ _ _ _ _ _ _
   | exact ih7 _ _ _ _ _ _ _ _ _
   | exact island_Of.mono _ _ _ _
   | exact net_Outs.mono _ _ _ _
   | exact pylonlaw14_Long.mono _ _ _ _
   | exact LeO.none _
   | refine LeO.ite ?_ ?_
   | refine LeO.bind ?_ (fun _ => ?_)
  ·intro y0 y1 y2 y3 y4 y5 y6
   unfold pylonlaw15_IslandConnected.l0
   repeat' first
   | (with_reducible exact ih0 _ _ _ _)
   | (with_reducible exact ih1 _ _ _ _ _ _ _)
   | (with_reducible exact ih2 _ _ _ _ _ _ _)
   | (with_reducible exact ih3 _ _ _ _ _)
   | (with_reducible exact ih4 _ _ _ _ _ _)
   | (with_reducible exact ih5 _ _ _ _ _ _ _ _)
   | (with_reducible exact ih6 _ _ _ _ _ _ _ _)
   | (with_reducible exact ih7 _ _ _ _ _ _ _ _ _)
   | (with_reducible exact island_Of.mono _ _ _ _)
   | (with_reducible exact net_Outs.mono _ _ _ _)
   | (with_reducible exact pylonlaw14_Long.mono _ _ _ _)
   | (with_reducible exact LeO.refl _)
   | (with_reducible exact LeO.none _)
   | (with_reducible refine LeO.ite ?_ ?_)
   | (with_reducible refine LeO.bind ?_ (fun _ => ?_))
   | exact ih0 _ _ _ _
   | exact ih1 _ _ _ _ _ _ _
   | exact ih2 _ _ _ _ _ _ _
   | exact ih3 _ _ _ _ _
   | exact ih4 _ _ _ _ _ _
   | exact ih5 _ _ _ _ _ _ _ _
   | exact ih6 _ _ _ _ _ _ _ _
   | exact ih7 _ _ _ _ _ _ _ _ _
   | exact island_Of.mono _ _ _ _
   | exact net_Outs.mono _ _ _ _
   | exact pylonlaw14_Long.mono _ _ _ _
   | exact LeO.none _
   | refine LeO.ite ?_ ?_
   | refine LeO.bind ?_ (fun _ => ?_)
  ·intro y0 y1 y2 y3 y4
   unfold pylonlaw15_IslandConnected.l1
   repeat' first
   | (with_reducible exact ih0 _ _ _ _)
   | (with_reducible exact ih1 _ _ _ _ _ _ _)
   | (with_reducible exact ih2 _ _ _ _ _ _ _)
   | (with_reducible exact ih3 _ _ _ _ _)
   | (with_reducible exact ih4 _ _ _ _ _ _)
   | (with_reducible exact ih5 _ _ _ _ _ _ _ _)
   | (with_reducible exact ih6 _ _ _ _ _ _ _ _)
   | (with_reducible exact ih7 _ _ _ _ _ _ _ _ _)
   | (with_reducible exact island_Of.mono _ _ _ _)
   | (with_reducible exact net_Outs.mono _ _ _ _)
   | (with_reducible exact pylonlaw14_Long.mono _ _ _ _)
   | (with_reducible exact LeO.refl _)
   | (with_reducible exact LeO.none _)
   | (with_reducible refine LeO.ite ?_ ?_)
   | (with_reducible refine LeO.bind ?_ (fun _ => ?_))
   | exact ih0 _ _ _ _
   | exact ih1 _ _ _ _ _ _ _
   | exact ih2 _ _ _ _ _ _ _
   | exact ih3 _ _ _ _ _
   | exact ih4 _ _ _ _ _ _
   | exact ih5 _ _ _ _ _ _ _ _
   | exact ih6 _ _ _ _ _ _ _ _
   | exact ih7 _ _ _ _ _ _ _ _ _
   | exact island_Of.mono _ _ _ _
   | exact net_Outs.mono _ _ _ _
   | exact pylonlaw14_Long.mono _ _ _ _
   | exact LeO.none _
   | refine LeO.ite ?_ ?_
   | refine LeO.bind ?_ (fun _ => ?_)
  ·intro y0 y1 y2 y3 y4 y5
   unfold pylonlaw15_IslandConnected.l2
   repeat' first
   | (with_reducible exact ih0 _ _ _ _)
   | (with_reducible exact ih1 _ _ _ _ _ _ _)
   | (with_reducible exact ih2 _ _ _ _ _ _ _)
   | (with_reducible exact ih3 _ _ _ _ _)
   | (with_reducible exact ih4 _ _ _ _ _ _)
   | (with_reducible exact ih5 _ _ _ _ _ _ _ _)
   | (with_reducible exact ih6 _ _ _ _ _ _ _ _)
   | (with_reducible exact ih7 _ _ _ _ _ _ _ _ _)
   | (with_reducible exact island_Of.mono _ _ _ _)
   | (with_reducible exact net_Outs.mono _ _ _ _)
   | (with_reducible exact pylonlaw14_Long.mono _ _ _ _)
   | (with_reducible exact LeO.refl _)
   | (with_reducible exact LeO.none _)
   | (with_reducible refine LeO.ite ?_ ?_)
   | (with_reducible refine LeO.bind ?_ (fun _ => ?_))
   | exact ih0 _ _ _ _
   | exact ih1 _ _ _ _ _ _ _
   | exact ih2 _ _ _ _ _ _ _
   | exact ih3 _ _ _ _ _
   | exact ih4 _ _ _ _ _ _
   | exact ih5 _ _ _ _ _ _ _ _
   | exact ih6 _ _ _ _ _ _ _ _
   | exact ih7 _ _ _ _ _ _ _ _ _
   | exact island_Of.mono _ _ _ _
   | exact net_Outs.mono _ _ _ _
   | exact pylonlaw14_Long.mono _ _ _ _
   | exact LeO.none _
   | refine LeO.ite ?_ ?_
   | refine LeO.bind ?_ (fun _ => ?_)
  ·intro y0 y1 y2 y3 y4 y5 y6 y7
   unfold pylonlaw15_IslandConnected.j5
   repeat' first
   | (with_reducible exact ih0 _ _ _ _)
   | (with_reducible exact ih1 _ _ _ _ _ _ _)
   | (with_reducible exact ih2 _ _ _ _ _ _ _)
   | (with_reducible exact ih3 _ _ _ _ _)
   | (with_reducible exact ih4 _ _ _ _ _ _)
   | (with_reducible exact ih5 _ _ _ _ _ _ _ _)
   | (with_reducible exact ih6 _ _ _ _ _ _ _ _)
   | (with_reducible exact ih7 _ _ _ _ _ _ _ _ _)
   | (with_reducible exact island_Of.mono _ _ _ _)
   | (with_reducible exact net_Outs.mono _ _ _ _)
   | (with_reducible exact pylonlaw14_Long.mono _ _ _ _)
   | (with_reducible exact LeO.refl _)
   | (with_reducible exact LeO.none _)
   | (with_reducible refine LeO.ite ?_ ?_)
   | (with_reducible refine LeO.bind ?_ (fun _ => ?_))
   | exact ih0 _ _ _ _
   | exact ih1 _ _ _ _ _ _ _
   | exact ih2 _ _ _ _ _ _ _
   | exact ih3 _ _ _ _ _
   | exact ih4 _ _ _ _ _ _
   | exact ih5 _ _ _ _ _ _ _ _
   | exact ih6 _ _ _ _ _ _ _ _
   | exact ih7 _ _ _ _ _ _ _ _ _
   | exact island_Of.mono _ _ _ _
   | exact net_Outs.mono _ _ _ _
   | exact pylonlaw14_Long.mono _ _ _ _
   | exact LeO.none _
   | refine LeO.ite ?_ ?_
   | refine LeO.bind ?_ (fun _ => ?_)
  ·intro y0 y1 y2 y3 y4 y5 y6 y7
   unfold pylonlaw15_IslandConnected.l3
   repeat' first
   | (with_reducible exact ih0 _ _ _ _)
   | (with_reducible exact ih1 _ _ _ _ _ _ _)
   | (with_reducible exact ih2 _ _ _ _ _ _ _)
   | (with_reducible exact ih3 _ _ _ _ _)
   | (with_reducible exact ih4 _ _ _ _ _ _)
   | (with_reducible exact ih5 _ _ _ _ _ _ _ _)
   | (with_reducible exact ih6 _ _ _ _ _ _ _ _)
   | (with_reducible exact ih7 _ _ _ _ _ _ _ _ _)
   | (with_reducible exact island_Of.mono _ _ _ _)
   | (with_reducible exact net_Outs.mono _ _ _ _)
   | (with_reducible exact pylonlaw14_Long.mono _ _ _ _)
   | (with_reducible exact LeO.refl _)
   | (with_reducible exact LeO.none _)
   | (with_reducible refine LeO.ite ?_ ?_)
   | (with_reducible refine LeO.bind ?_ (fun _ => ?_))
   | exact ih0 _ _ _ _
   | exact ih1 _ _ _ _ _ _ _
   | exact ih2 _ _ _ _ _ _ _
   | exact ih3 _ _ _ _ _
   | exact ih4 _ _ _ _ _ _
   | exact ih5 _ _ _ _ _ _ _ _
   | exact ih6 _ _ _ _ _ _ _ _
   | exact ih7 _ _ _ _ _ _ _ _ _
   | exact island_Of.mono _ _ _ _
   | exact net_Outs.mono _ _ _ _
   | exact pylonlaw14_Long.mono _ _ _ _
   | exact LeO.none _
   | refine LeO.ite ?_ ?_
   | refine LeO.bind ?_ (fun _ => ?_)
  ·intro y0 y1 y2 y3 y4 y5 y6 y7 y8
   unfold pylonlaw15_IslandConnected.j7
   repeat' first
   | (with_reducible exact ih0 _ _ _ _)
   | (with_reducible exact ih1 _ _ _ _ _ _ _)
   | (with_reducible exact ih2 _ _ _ _ _ _ _)
   | (with_reducible exact ih3 _ _ _ _ _)
   | (with_reducible exact ih4 _ _ _ _ _ _)
   | (with_reducible exact ih5 _ _ _ _ _ _ _ _)
   | (with_reducible exact ih6 _ _ _ _ _ _ _ _)
   | (with_reducible exact ih7 _ _ _ _ _ _ _ _ _)
   | (with_reducible exact island_Of.mono _ _ _ _)
   | (with_reducible exact net_Outs.mono _ _ _ _)
   | (with_reducible exact pylonlaw14_Long.mono _ _ _ _)
   | (with_reducible exact LeO.refl _)
   | (with_reducible exact LeO.none _)
   | (with_reducible refine LeO.ite ?_ ?_)
   | (with_reducible refine LeO.bind ?_ (fun _ => ?_))
   | exact ih0 _ _ _ _
   | exact ih1 _ _ _ _ _ _ _
   | exact ih2 _ _ _ _ _ _ _
   | exact ih3 _ _ _ _ _
   | exact ih4 _ _ _ _ _ _
   | exact ih5 _ _ _ _ _ _ _ _
   | exact ih6 _ _ _ _ _ _ _ _
   | exact ih7 _ _ _ _ _ _ _ _ _
   | exact island_Of.mono _ _ _ _
   | exact net_Outs.mono _ _ _ _
   | exact pylonlaw14_Long.mono _ _ _ _
   | exact LeO.none _
   | refine LeO.ite ?_ ?_
   | refine LeO.bind ?_ (fun _ => ?_)
theorem pylonlaw15_IslandConnected.mono : ∀ a0 a1 a2 k, LeO (pylonlaw15_IslandConnected.f k a0 a1 a2) (pylonlaw15_IslandConnected.f (k + 1) a0 a1 a2) := by
 intro a0 a1 a2 k
 obtain ⟨ih0, ih1, ih2, ih3, ih4, ih5, ih6, ih7⟩ := pylonlaw15_IslandConnected.mono_l k
 unfold pylonlaw15_IslandConnected.f
 repeat' first
   | (with_reducible exact ih0 _ _ _ _)
   | (with_reducible exact ih1 _ _ _ _ _ _ _)
   | (with_reducible exact ih2 _ _ _ _ _ _ _)
   | (with_reducible exact ih3 _ _ _ _ _)
   | (with_reducible exact ih4 _ _ _ _ _ _)
   | (with_reducible exact ih5 _ _ _ _ _ _ _ _)
   | (with_reducible exact ih6 _ _ _ _ _ _ _ _)
   | (with_reducible exact ih7 _ _ _ _ _ _ _ _ _)
   | (with_reducible exact island_Of.mono _ _ _ _)
   | (with_reducible exact net_Outs.mono _ _ _ _)
   | (with_reducible exact pylonlaw14_Long.mono _ _ _ _)
   | (with_reducible exact LeO.refl _)
   | (with_reducible exact LeO.none _)
   | (with_reducible refine LeO.ite ?_ ?_)
   | (with_reducible refine LeO.bind ?_ (fun _ => ?_))
   | exact ih0 _ _ _ _
   | exact ih1 _ _ _ _ _ _ _
   | exact ih2 _ _ _ _ _ _ _
   | exact ih3 _ _ _ _ _
   | exact ih4 _ _ _ _ _ _
   | exact ih5 _ _ _ _ _ _ _ _
   | exact ih6 _ _ _ _ _ _ _ _
   | exact ih7 _ _ _ _ _ _ _ _ _
   | exact island_Of.mono _ _ _ _
   | exact net_Outs.mono _ _ _ _
   | exact pylonlaw14_Long.mono _ _ _ _
   | exact LeO.none _
   | refine LeO.ite ?_ ?_
   | refine LeO.bind ?_ (fun _ => ?_)
def pylonlaw15_IslandConnected.T12 : Bool × List (List Nat × List Nat) := (true, [([], []), ([], []), ([], []), ([2], [2]), ([], []), ([3, 4], [3, 4]), ([5], [5]), ([6], [6]), ([], []), ([8], [8]), ([], []), ([9, 10], [9, 10]), ([11], [11]), ([12], [12]), ([0, 1, 7, 13], [0, 1, 7, 13]), ([14], [14]), ([15], [15]), ([15], [15]), ([16, 14, 0, 1, 2, 3, 4, 5, 6, 7, 8, 9, 10, 11, 12, 13, 14, 15, 16], [16]), ([17, 18, 0, 1, 2, 3, 4, 5, 6, 7, 8, 9, 10, 11, 12, 13, 14, 15, 16, 17, 18], [17])])
def pylonlaw15_IslandConnected.B12 : List Nat := [0, 0, 0, 4, 0, 28, 60, 124, 0, 256, 0, 1792, 3840, 7936, 16383, 32767, 65535, 65535, 131071, 524287]
theorem pylonlaw15_IslandConnected.tab12 : rtab .any (opsOf Try.f3 12) = pylonlaw15_IslandConnected.T12 := by kernel_rfl
theorem pylonlaw15_IslandConnected.bits12 : waitsOk pylonlaw15_IslandConnected.T12.2 pylonlaw15_IslandConnected.B12 = true := by kernel_rfl
def pylonlaw15_IslandConnected.T23 : Bool × List (List Nat × List Nat) := (true, [([], []), ([0], [0]), ([1], [1]), ([2], [2]), ([3, 2], [2, 3]), ([2, 4], [2, 4]), ([5, 2], [5]), ([6], [6]), ([6], [6]), ([7, 8, 6], [6, 7, 8]), ([6, 9], [6, 9]), ([10, 6], [10]), ([11], [11]), ([11], [11]), ([11], [11]), ([13, 14, 11], [11, 13, 14]), ([15, 11], [11, 15]), ([11], [11]), ([11], [11]), ([17, 18, 11], [11, 17, 18]), ([19, 11], [11, 19]), ([16, 20, 11], [11, 16, 20]), ([12, 21, 11], [11, 12, 21]), ([11, 22], [11, 22]), ([23, 11], [23]), ([24], [24]), ([24], [24]), ([25, 26, 24], [24, 25, 26]), ([27, 24, 24], [24, 27]), ([28], [28]), ([29, 28], [28, 29]), ([28, 30, 24], [24, 28, 30]), ([24, 31], [24, 31])])
def pylonlaw15_IslandConnected.B23 : List Nat := [0, 1, 3, 7, 15, 31, 63, 127, 127, 511, 1023, 2047, 4095, 4095, 4095, 28671, 61439, 4095, 4095, 397311, 921599, 2093055, 4194303, 8388607, 16777215, 33554431, 33554431, 134217727, 268435455, 536870911, 1073741823, 2147483647, 4294967295]
theorem pylonlaw15_IslandConnected.tab23 : rtab .any (opsOf Try.f3 23) = pylonlaw15_IslandConnected.T23 := by kernel_rfl
theorem pylonlaw15_IslandConnected.bits23 : waitsOk pylonlaw15_IslandConnected.T23.2 pylonlaw15_IslandConnected.B23 = true := by kernel_rfl
end Go.Proofs.Ytdpgdelimffjpaa.P
