-- Written by wip/drive.py (a prover's driver over the kit's print.py); hand-proved contracts stand among the printed ones. Lean checks it.
import Derived.Test.YtdpgdelimffjpaaFBase
import Derived.Test.YtdpgdelimffjpaaF31
import Derived.Test.YtdpgdelimffjpaaF51
import Derived.Test.YtdpgdelimffjpaaF56
import Derived.Test.YtdpgdelimffjpaaF57
import Derived.Test.YtdpgdelimffjpaaF62
import Derived.Test.YtdpgdelimffjpaaF65
import Derived.Test.YtdpgdelimffjpaaFA
import Derived.Test.YtdpgdelimffjpaaFB
namespace Go.Proofs.Ytdpgdelimffjpaa.P
open Go.RowKit Go.Proofs.YtdpgdelimffjpaaW.PrintWords Go.Proofs.YtdpgdelimffjpaaW.PrintLast Go.Proofs.YtdpgdelimffjpaaW.PrintMore
attribute [local go_sem] max2_int min2_int max_two min_two max_three min_three max_four min_four   -- for this text's walks alone
set_option linter.unusedVariables false
set_option linter.unusedSimpArgs false

/-! ### pylonlaw16_TreeBalance: function 16 -/
mutual
def pylonlaw16_TreeBalance.j0 : Nat → List Int → Int → Int → Bool → Int → List (S37) → Option (Bool)
  | 0, _, _, _, _, _, _ => none
  | k + 1, x1, x2, x3, x37, x942000, x942001 => if x37 = true then ((pylonlaw16_awake.f).bind fun t948 => (some t948)) else ((tree_Cycles.f k x942000 x942001 x1).bind fun bt949 => ((tree_Path.f k x942000 x942001 x1 x2 x3).bind fun bt953 => ((tree_Tree.f k x942000 x942001 x1).bind fun bt957 => (if bt949.2 = 0 then (if bt957.2 = 0 then (if bt953.2 = 0 then (pylonlaw16_TreeBalance.j1 k x1 x2 x3 bt949.1 bt953.1 bt953.2 bt957.1 false x942000 x942001) else (pylonlaw16_TreeBalance.j1 k x1 x2 x3 bt949.1 bt953.1 bt953.2 bt957.1 ((bt953.1.length : Int) != 0) x942000 x942001)) else (pylonlaw16_TreeBalance.j1 k x1 x2 x3 bt949.1 bt953.1 bt953.2 bt957.1 true x942000 x942001)) else (pylonlaw16_TreeBalance.j1 k x1 x2 x3 bt949.1 bt953.1 bt953.2 bt957.1 true x942000 x942001)))))
def pylonlaw16_TreeBalance.j1 : Nat → List Int → Int → Int → List (List Int) → List Int → Int → List Int → Bool → Int → List (S37) → Option (Bool)
  | 0, _, _, _, _, _, _, _, _, _, _ => none
  | k + 1, x1, x2, x3, x9, x11, x12, x13, x73, x942000, x942001 => if x73 = true then (some false) else (pylonlaw16_TreeBalance.l0 k x1 x2 x3 x9 x11 x12 x13 0 x942000 x942001)
def pylonlaw16_TreeBalance.l0 : Nat → List Int → Int → Int → List (List Int) → List Int → Int → List Int → Int → Int → List (S37) → Option (Bool)
  | 0, _, _, _, _, _, _, _, _, _, _ => none
  | k + 1, x1, x2, x3, x9, x11, x12, x13, x15, x942000, x942001 => if x15 < (x9.length : Int) then (if 0 ≤ x15 then ((pylonlaw16_balance.f k x942000 x942001 (rd_L1 x9 x15)).bind fun bt962 => (pylonlaw16_TreeBalance.l1 k x1 x2 x3 x9 x11 x12 x13 x15 bt962.1 bt962.2 0 x942000 x942001)) else (none)) else (if x12 = 0 then ((pylonlaw16_balance.f k x942000 x942001 x11).bind fun bt971 => (if bt971.2 = true then (if x2 < 0 then (pylonlaw16_TreeBalance.j5 k x2 x3 x11 x13 bt971.1 true) else (if x2 ≥ x942000 then (pylonlaw16_TreeBalance.j5 k x2 x3 x11 x13 bt971.1 true) else (if x3 < 0 then (pylonlaw16_TreeBalance.j5 k x2 x3 x11 x13 bt971.1 true) else (pylonlaw16_TreeBalance.j5 k x2 x3 x11 x13 bt971.1 (decide (x3 ≥ x942000)))))) else (pylonlaw16_TreeBalance.j5 k x2 x3 x11 x13 bt971.1 true))) else (if x12 = 1 then (some true) else (some (x12 == 8))))
def pylonlaw16_TreeBalance.l1 : Nat → List Int → Int → Int → List (List Int) → List Int → Int → List Int → Int → List Int → Bool → Int → Int → List (S37) → Option (Bool)
  | 0, _, _, _, _, _, _, _, _, _, _, _, _, _ => none
  | k + 1, x1, x2, x3, x9, x11, x12, x13, x15, x16, x17, x18, x942000, x942001 => if x18 < (x16.length : Int) then (if 0 ≤ x18 then (if (rd x16 x18) = 0 then (pylonlaw16_TreeBalance.l1 k x1 x2 x3 x9 x11 x12 x13 x15 x16 x17 (wrap64 (x18 + 1)) x942000 x942001) else (some false)) else (none)) else (pylonlaw16_TreeBalance.l2 k x1 x2 x3 x9 x11 x12 x13 x15 x17 0 x942000 x942001)
def pylonlaw16_TreeBalance.l2 : Nat → List Int → Int → Int → List (List Int) → List Int → Int → List Int → Int → Bool → Int → Int → List (S37) → Option (Bool)
  | 0, _, _, _, _, _, _, _, _, _, _, _, _ => none
  | k + 1, x1, x2, x3, x9, x11, x12, x13, x15, x17, x19, x942000, x942001 => if 0 ≤ x15 then (if x15 < (x9.length : Int) then (if x19 < ((rd_L1 x9 x15).length : Int) then (if 0 ≤ x19 then (if (rd (rd_L1 x9 x15) x19) = 0 then (pylonlaw16_TreeBalance.l2 k x1 x2 x3 x9 x11 x12 x13 x15 x17 (wrap64 (x19 + 1)) x942000 x942001) else ((pylonlaw16_has.f k x1 x19).bind fun t970 => (if t970 = true then (some false) else (pylonlaw16_TreeBalance.l2 k x1 x2 x3 x9 x11 x12 x13 x15 x17 (wrap64 (x19 + 1)) x942000 x942001)))) else (none)) else (if x17 = true then (pylonlaw16_TreeBalance.l0 k x1 x2 x3 x9 x11 x12 x13 (wrap64 (x15 + 1)) x942000 x942001) else (some false))) else (none)) else (none)
def pylonlaw16_TreeBalance.j5 : Nat → Int → Int → List Int → List Int → List Int → Bool → Option (Bool)
  | 0, _, _, _, _, _, _ => none
  | k + 1, x2, x3, x11, x13, x20, x159 => if x159 = true then (some false) else (if 0 ≤ x2 then (if x2 < (x20.length : Int) then ((some (x20.set (x2 : Int).toNat (wrap64 ((rd x20 x2) - 1)) : List Int)).bind fun y976 => (if 0 ≤ x3 then (if x3 < (x20.length : Int) then (pylonlaw16_TreeBalance.l3 k x11 x13 (y976.set (x3 : Int).toNat (wrap64 ((rd y976 x3) + 1))) 0) else (none)) else (none))) else (none)) else (none))
def pylonlaw16_TreeBalance.l3 : Nat → List Int → List Int → List Int → Int → Option (Bool)
  | 0, _, _, _, _ => none
  | k + 1, x11, x13, x20, x22 => if x22 < (x20.length : Int) then (if 0 ≤ x22 then (if (rd x20 x22) = 0 then (pylonlaw16_TreeBalance.l3 k x11 x13 x20 (wrap64 (x22 + 1))) else (some false)) else (none)) else (pylonlaw16_TreeBalance.l4 k x11 x13 0)
def pylonlaw16_TreeBalance.l4 : Nat → List Int → List Int → Int → Option (Bool)
  | 0, _, _, _ => none
  | k + 1, x11, x13, x23 => if x23 < (x11.length : Int) then (if 0 ≤ x23 then (if (rd x11 x23) = 0 then (pylonlaw16_TreeBalance.l4 k x11 x13 (wrap64 (x23 + 1))) else ((pylonlaw16_has.f k x13 x23).bind fun t981 => (if t981 = true then (pylonlaw16_TreeBalance.l4 k x11 x13 (wrap64 (x23 + 1))) else (some false)))) else (none)) else (some true)
end
def pylonlaw16_TreeBalance.f (k : Nat) (a0_0 : Int) (l0_1 : List (S37)) (l1 : List Int) (a2 : Int) (a3 : Int) : Option (Bool) := (pylonlaw14_Long.f k a0_0 l0_1 (([l1] : List (List Int)))).bind fun t945 => (if t945 = true then (pylonlaw16_TreeBalance.j0 k l1 a2 a3 true a0_0 l0_1) else ((pylonlaw16_awake.f).bind fun t946 => (if t946 = true then ((net_Outs.f k a0_0 l0_1 l1).bind fun t947 => (pylonlaw16_TreeBalance.j0 k l1 a2 a3 (t947 != 0) a0_0 l0_1)) else (pylonlaw16_TreeBalance.j0 k l1 a2 a3 true a0_0 l0_1))))
theorem pylonlaw16_TreeBalance.mono_l : ∀ k, (∀ y0 y1 y2 y3 y4 y5, LeO (pylonlaw16_TreeBalance.j0 k y0 y1 y2 y3 y4 y5) (pylonlaw16_TreeBalance.j0 (k + 1) y0 y1 y2 y3 y4 y5)) ∧ (∀ y0 y1 y2 y3 y4 y5 y6 y7 y8 y9, LeO (pylonlaw16_TreeBalance.j1 k y0 y1 y2 y3 y4 y5 y6 y7 y8 y9) (pylonlaw16_TreeBalance.j1 (k + 1) y0 y1 y2 y3 y4 y5 y6 y7 y8 y9)) ∧ (∀ y0 y1 y2 y3 y4 y5 y6 y7 y8 y9, LeO (pylonlaw16_TreeBalance.l0 k y0 y1 y2 y3 y4 y5 y6 y7 y8 y9) (pylonlaw16_TreeBalance.l0 (k + 1) y0 y1 y2 y3 y4 y5 y6 y7 y8 y9)) ∧ (∀ y0 y1 y2 y3 y4 y5 y6 y7 y8 y9 y10 y11 y12, LeO (pylonlaw16_TreeBalance.l1 k y0 y1 y2 y3 y4 y5 y6 y7 y8 y9 y10 y11 y12) (pylonlaw16_TreeBalance.l1 (k + 1) y0 y1 y2 y3 y4 y5 y6 y7 y8 y9 y10 y11 y12)) ∧ (∀ y0 y1 y2 y3 y4 y5 y6 y7 y8 y9 y10 y11, LeO (pylonlaw16_TreeBalance.l2 k y0 y1 y2 y3 y4 y5 y6 y7 y8 y9 y10 y11) (pylonlaw16_TreeBalance.l2 (k + 1) y0 y1 y2 y3 y4 y5 y6 y7 y8 y9 y10 y11)) ∧ (∀ y0 y1 y2 y3 y4 y5, LeO (pylonlaw16_TreeBalance.j5 k y0 y1 y2 y3 y4 y5) (pylonlaw16_TreeBalance.j5 (k + 1) y0 y1 y2 y3 y4 y5)) ∧ (∀ y0 y1 y2 y3, LeO (pylonlaw16_TreeBalance.l3 k y0 y1 y2 y3) (pylonlaw16_TreeBalance.l3 (k + 1) y0 y1 y2 y3)) ∧ (∀ y0 y1 y2, LeO (pylonlaw16_TreeBalance.l4 k y0 y1 y2) (pylonlaw16_TreeBalance.l4 (k + 1) y0 y1 y2))
  | 0 => ⟨fun _ _ _ _ _ _ r h => by simp [pylonlaw16_TreeBalance.j0] at h, fun _ _ _ _ _ _ _ _ _ _ r h => by simp [pylonlaw16_TreeBalance.j1] at h, fun _ _ _ _ _ _ _ _ _ _ r h => by simp [pylonlaw16_TreeBalance.l0] at h, fun _ _ _ _ _ _ _ _ _ _ _ _ _ r h => by simp [pylonlaw16_TreeBalance.l1] at h, fun _ _ _ _ _ _ _ _ _ _ _ _ r h => by simp [pylonlaw16_TreeBalance.l2] at h, fun _ _ _ _ _ _ r h => by simp [pylonlaw16_TreeBalance.j5] at h, fun _ _ _ _ r h => by simp [pylonlaw16_TreeBalance.l3] at h, fun _ _ _ r h => by simp [pylonlaw16_TreeBalance.l4] at h⟩
  | k + 1 => by
    obtain ⟨ih0, ih1, ih2, ih3, ih4, ih5, ih6, ih7⟩ := pylonlaw16_TreeBalance.mono_l k
    refine ⟨?_, ?_, ?_, ?_, ?_, ?_, ?_, ?_⟩
    · intro y0 y1 y2 y3 y4 y5
      unfold pylonlaw16_TreeBalance.j0
      repeat' first
      | (with_reducible exact ih0 _ _ _ _ _ _)
      | (with_reducible exact ih1 _ _ _ _ _ _ _ _ _ _)
      | (with_reducible exact ih2 _ _ _ _ _ _ _ _ _ _)
      | (with_reducible exact ih3 _ _ _ _ _ _ _ _ _ _ _ _ _)
      | (with_reducible exact ih4 _ _ _ _ _ _ _ _ _ _ _ _)
      | (with_reducible exact ih5 _ _ _ _ _ _)
      | (with_reducible exact ih6 _ _ _ _)
      | (with_reducible exact ih7 _ _ _)
      | (with_reducible exact net_Outs.mono _ _ _ _)
      | (with_reducible exact pylonlaw14_Long.mono _ _ _ _)
      | (with_reducible exact pylonlaw16_balance.mono _ _ _ _)
      | (with_reducible exact pylonlaw16_has.mono _ _ _)
      | (with_reducible exact tree_Cycles.mono _ _ _ _)
      | (with_reducible exact tree_Path.mono _ _ _ _ _ _)
      | (with_reducible exact tree_Tree.mono _ _ _ _)
      | (with_reducible exact LeO.refl _)
      | (with_reducible exact LeO.none _)
      | (with_reducible refine LeO.ite ?_ ?_)
      | (with_reducible refine LeO.bind ?_ (fun _ => ?_))
      | exact ih0 _ _ _ _ _ _
      | exact ih1 _ _ _ _ _ _ _ _ _ _
      | exact ih2 _ _ _ _ _ _ _ _ _ _
      | exact ih3 _ _ _ _ _ _ _ _ _ _ _ _ _
      | exact ih4 _ _ _ _ _ _ _ _ _ _ _ _
      | exact ih5 _ _ _ _ _ _
      | exact ih6 _ _ _ _
      | exact ih7 _ _ _
      | exact net_Outs.mono _ _ _ _
      | exact pylonlaw14_Long.mono _ _ _ _
      | exact pylonlaw16_balance.mono _ _ _ _
      | exact pylonlaw16_has.mono _ _ _
      | exact tree_Cycles.mono _ _ _ _
      | exact tree_Path.mono _ _ _ _ _ _
      | exact tree_Tree.mono _ _ _ _
      | exact LeO.none _
      | refine LeO.ite ?_ ?_
      | refine LeO.bind ?_ (fun _ => ?_)
    · intro y0 y1 y2 y3 y4 y5 y6 y7 y8 y9
      unfold pylonlaw16_TreeBalance.j1
      repeat' first
      | (with_reducible exact ih0 _ _ _ _ _ _)
      | (with_reducible exact ih1 _ _ _ _ _ _ _ _ _ _)
      | (with_reducible exact ih2 _ _ _ _ _ _ _ _ _ _)
      | (with_reducible exact ih3 _ _ _ _ _ _ _ _ _ _ _ _ _)
      | (with_reducible exact ih4 _ _ _ _ _ _ _ _ _ _ _ _)
      | (with_reducible exact ih5 _ _ _ _ _ _)
      | (with_reducible exact ih6 _ _ _ _)
      | (with_reducible exact ih7 _ _ _)
      | (with_reducible exact net_Outs.mono _ _ _ _)
      | (with_reducible exact pylonlaw14_Long.mono _ _ _ _)
      | (with_reducible exact pylonlaw16_balance.mono _ _ _ _)
      | (with_reducible exact pylonlaw16_has.mono _ _ _)
      | (with_reducible exact tree_Cycles.mono _ _ _ _)
      | (with_reducible exact tree_Path.mono _ _ _ _ _ _)
      | (with_reducible exact tree_Tree.mono _ _ _ _)
      | (with_reducible exact LeO.refl _)
      | (with_reducible exact LeO.none _)
      | (with_reducible refine LeO.ite ?_ ?_)
      | (with_reducible refine LeO.bind ?_ (fun _ => ?_))
      | exact ih0 _ _ _ _ _ _
      | exact ih1 _ _ _ _ _ _ _ _ _ _
      | exact ih2 _ _ _ _ _ _ _ _ _ _
      | exact ih3 _ _ _ _ _ _ _ _ _ _ _ _ _
      | exact ih4 _ _ _ _ _ _ _ _ _ _ _ _
      | exact ih5 _ _ _ _ _ _
      | exact ih6 _ _ _ _
      | exact ih7 _ _ _
      | exact net_Outs.mono _ _ _ _
      | exact pylonlaw14_Long.mono _ _ _ _
      | exact pylonlaw16_balance.mono _ _ _ _
      | exact pylonlaw16_has.mono _ _ _
      | exact tree_Cycles.mono _ _ _ _
      | exact tree_Path.mono _ _ _ _ _ _
      | exact tree_Tree.mono _ _ _ _
      | exact LeO.none _
      | refine LeO.ite ?_ ?_
      | refine LeO.bind ?_ (fun _ => ?_)
    · intro y0 y1 y2 y3 y4 y5 y6 y7 y8 y9
      unfold pylonlaw16_TreeBalance.l0
      repeat' first
      | (with_reducible exact ih0 _ _ _ _ _ _)
      | (with_reducible exact ih1 _ _ _ _ _ _ _ _ _ _)
      | (with_reducible exact ih2 _ _ _ _ _ _ _ _ _ _)
      | (with_reducible exact ih3 _ _ _ _ _ _ _ _ _ _ _ _ _)
      | (with_reducible exact ih4 _ _ _ _ _ _ _ _ _ _ _ _)
      | (with_reducible exact ih5 _ _ _ _ _ _)
      | (with_reducible exact ih6 _ _ _ _)
      | (with_reducible exact ih7 _ _ _)
      | (with_reducible exact net_Outs.mono _ _ _ _)
      | (with_reducible exact pylonlaw14_Long.mono _ _ _ _)
      | (with_reducible exact pylonlaw16_balance.mono _ _ _ _)
      | (with_reducible exact pylonlaw16_has.mono _ _ _)
      | (with_reducible exact tree_Cycles.mono _ _ _ _)
      | (with_reducible exact tree_Path.mono _ _ _ _ _ _)
      | (with_reducible exact tree_Tree.mono _ _ _ _)
      | (with_reducible exact LeO.refl _)
      | (with_reducible exact LeO.none _)
      | (with_reducible refine LeO.ite ?_ ?_)
      | (with_reducible refine LeO.bind ?_ (fun _ => ?_))
      | exact ih0 _ _ _ _ _ _
      | exact ih1 _ _ _ _ _ _ _ _ _ _
      | exact ih2 _ _ _ _ _ _ _ _ _ _
      | exact ih3 _ _ _ _ _ _ _ _ _ _ _ _ _
      | exact ih4 _ _ _ _ _ _ _ _ _ _ _ _
      | exact ih5 _ _ _ _ _ _
      | exact ih6 _ _ _ _
      | exact ih7 _ _ _
      | exact net_Outs.mono _ _ _ _
      | exact pylonlaw14_Long.mono _ _ _ _
      | exact pylonlaw16_balance.mono _ _ _ _
      | exact pylonlaw16_has.mono _ _ _
      | exact tree_Cycles.mono _ _ _ _
      | exact tree_Path.mono _ _ _ _ _ _
      | exact tree_Tree.mono _ _ _ _
      | exact LeO.none _
      | refine LeO.ite ?_ ?_
      | refine LeO.bind ?_ (fun _ => ?_)
    · intro y0 y1 y2 y3 y4 y5 y6 y7 y8 y9 y10 y11 y12
      unfold pylonlaw16_TreeBalance.l1
      repeat' first
      | (with_reducible exact ih0 _ _ _ _ _ _)
      | (with_reducible exact ih1 _ _ _ _ _ _ _ _ _ _)
      | (with_reducible exact ih2 _ _ _ _ _ _ _ _ _ _)
      | (with_reducible exact ih3 _ _ _ _ _ _ _ _ _ _ _ _ _)
      | (with_reducible exact ih4 _ _ _ _ _ _ _ _ _ _ _ _)
      | (with_reducible exact ih5 _ _ _ _ _ _)
      | (with_reducible exact ih6 _ _ _ _)
      | (with_reducible exact ih7 _ _ _)
      | (with_reducible exact net_Outs.mono _ _ _ _)
      | (with_reducible exact pylonlaw14_Long.mono _ _ _ _)
      | (with_reducible exact pylonlaw16_balance.mono _ _ _ _)
      | (with_reducible exact pylonlaw16_has.mono _ _ _)
      | (with_reducible exact tree_Cycles.mono _ _ _ _)
      | (with_reducible exact tree_Path.mono _ _ _ _ _ _)
      | (with_reducible exact tree_Tree.mono _ _ _ _)
      | (with_reducible exact LeO.refl _)
      | (with_reducible exact LeO.none _)
      | (with_reducible refine LeO.ite ?_ ?_)
      | (with_reducible refine LeO.bind ?_ (fun _ => ?_))
      | exact ih0 _ _ _ _ _ _
      | exact ih1 _ _ _ _ _ _ _ _ _ _
      | exact ih2 _ _ _ _ _ _ _ _ _ _
      | exact ih3 _ _ _ _ _ _ _ _ _ _ _ _ _
      | exact ih4 _ _ _ _ _ _ _ _ _ _ _ _
      | exact ih5 _ _ _ _ _ _
      | exact ih6 _ _ _ _
      | exact ih7 _ _ _
      | exact net_Outs.mono _ _ _ _
      | exact pylonlaw14_Long.mono _ _ _ _
      | exact pylonlaw16_balance.mono _ _ _ _
      | exact pylonlaw16_has.mono _ _ _
      | exact tree_Cycles.mono _ _ _ _
      | exact tree_Path.mono _ _ _ _ _ _
      | exact tree_Tree.mono _ _ _ _
      | exact LeO.none _
      | refine LeO.ite ?_ ?_
      | refine LeO.bind ?_ (fun _ => ?_)
    · intro y0 y1 y2 y3 y4 y5 y6 y7 y8 y9 y10 y11
      unfold pylonlaw16_TreeBalance.l2
      repeat' first
      | (with_reducible exact ih0 _ _ _ _ _ _)
      | (with_reducible exact ih1 _ _ _ _ _ _ _ _ _ _)
      | (with_reducible exact ih2 _ _ _ _ _ _ _ _ _ _)
      | (with_reducible exact ih3 _ _ _ _ _ _ _ _ _ _ _ _ _)
      | (with_reducible exact ih4 _ _ _ _ _ _ _ _ _ _ _ _)
      | (with_reducible exact ih5 _ _ _ _ _ _)
      | (with_reducible exact ih6 _ _ _ _)
      | (with_reducible exact ih7 _ _ _)
      | (with_reducible exact net_Outs.mono _ _ _ _)
      | (with_reducible exact pylonlaw14_Long.mono _ _ _ _)
      | (with_reducible exact pylonlaw16_balance.mono _ _ _ _)
      | (with_reducible exact pylonlaw16_has.mono _ _ _)
      | (with_reducible exact tree_Cycles.mono _ _ _ _)
      | (with_reducible exact tree_Path.mono _ _ _ _ _ _)
      | (with_reducible exact tree_Tree.mono _ _ _ _)
      | (with_reducible exact LeO.refl _)
      | (with_reducible exact LeO.none _)
      | (with_reducible refine LeO.ite ?_ ?_)
      | (with_reducible refine LeO.bind ?_ (fun _ => ?_))
      | exact ih0 _ _ _ _ _ _
      | exact ih1 _ _ _ _ _ _ _ _ _ _
      | exact ih2 _ _ _ _ _ _ _ _ _ _
      | exact ih3 _ _ _ _ _ _ _ _ _ _ _ _ _
      | exact ih4 _ _ _ _ _ _ _ _ _ _ _ _
      | exact ih5 _ _ _ _ _ _
      | exact ih6 _ _ _ _
      | exact ih7 _ _ _
      | exact net_Outs.mono _ _ _ _
      | exact pylonlaw14_Long.mono _ _ _ _
      | exact pylonlaw16_balance.mono _ _ _ _
      | exact pylonlaw16_has.mono _ _ _
      | exact tree_Cycles.mono _ _ _ _
      | exact tree_Path.mono _ _ _ _ _ _
      | exact tree_Tree.mono _ _ _ _
      | exact LeO.none _
      | refine LeO.ite ?_ ?_
      | refine LeO.bind ?_ (fun _ => ?_)
    · intro y0 y1 y2 y3 y4 y5
      unfold pylonlaw16_TreeBalance.j5
      repeat' first
      | (with_reducible exact ih0 _ _ _ _ _ _)
      | (with_reducible exact ih1 _ _ _ _ _ _ _ _ _ _)
      | (with_reducible exact ih2 _ _ _ _ _ _ _ _ _ _)
      | (with_reducible exact ih3 _ _ _ _ _ _ _ _ _ _ _ _ _)
      | (with_reducible exact ih4 _ _ _ _ _ _ _ _ _ _ _ _)
      | (with_reducible exact ih5 _ _ _ _ _ _)
      | (with_reducible exact ih6 _ _ _ _)
      | (with_reducible exact ih7 _ _ _)
      | (with_reducible exact net_Outs.mono _ _ _ _)
      | (with_reducible exact pylonlaw14_Long.mono _ _ _ _)
      | (with_reducible exact pylonlaw16_balance.mono _ _ _ _)
      | (with_reducible exact pylonlaw16_has.mono _ _ _)
      | (with_reducible exact tree_Cycles.mono _ _ _ _)
      | (with_reducible exact tree_Path.mono _ _ _ _ _ _)
      | (with_reducible exact tree_Tree.mono _ _ _ _)
      | (with_reducible exact LeO.refl _)
      | (with_reducible exact LeO.none _)
      | (with_reducible refine LeO.ite ?_ ?_)
      | (with_reducible refine LeO.bind ?_ (fun _ => ?_))
      | exact ih0 _ _ _ _ _ _
      | exact ih1 _ _ _ _ _ _ _ _ _ _
      | exact ih2 _ _ _ _ _ _ _ _ _ _
      | exact ih3 _ _ _ _ _ _ _ _ _ _ _ _ _
      | exact ih4 _ _ _ _ _ _ _ _ _ _ _ _
      | exact ih5 _ _ _ _ _ _
      | exact ih6 _ _ _ _
      | exact ih7 _ _ _
      | exact net_Outs.mono _ _ _ _
      | exact pylonlaw14_Long.mono _ _ _ _
      | exact pylonlaw16_balance.mono _ _ _ _
      | exact pylonlaw16_has.mono _ _ _
      | exact tree_Cycles.mono _ _ _ _
      | exact tree_Path.mono _ _ _ _ _ _
      | exact tree_Tree.mono _ _ _ _
      | exact LeO.none _
      | refine LeO.ite ?_ ?_
      | refine LeO.bind ?_ (fun _ => ?_)
    · intro y0 y1 y2 y3
      unfold pylonlaw16_TreeBalance.l3
      repeat' first
      | (with_reducible exact ih0 _ _ _ _ _ _)
      | (with_reducible exact ih1 _ _ _ _ _ _ _ _ _ _)
      | (with_reducible exact ih2 _ _ _ _ _ _ _ _ _ _)
      | (with_reducible exact ih3 _ _ _ _ _ _ _ _ _ _ _ _ _)
      | (with_reducible exact ih4 _ _ _ _ _ _ _ _ _ _ _ _)
      | (with_reducible exact ih5 _ _ _ _ _ _)
      | (with_reducible exact ih6 _ _ _ _)
      | (with_reducible exact ih7 _ _ _)
      | (with_reducible exact net_Outs.mono _ _ _ _)
      | (with_reducible exact pylonlaw14_Long.mono _ _ _ _)
      | (with_reducible exact pylonlaw16_balance.mono _ _ _ _)
      | (with_reducible exact pylonlaw16_has.mono _ _ _)
      | (with_reducible exact tree_Cycles.mono _ _ _ _)
      | (with_reducible exact tree_Path.mono _ _ _ _ _ _)
      | (with_reducible exact tree_Tree.mono _ _ _ _)
      | (with_reducible exact LeO.refl _)
      | (with_reducible exact LeO.none _)
      | (with_reducible refine LeO.ite ?_ ?_)
      | (with_reducible refine LeO.bind ?_ (fun _ => ?_))
      | exact ih0 _ _ _ _ _ _
      | exact ih1 _ _ _ _ _ _ _ _ _ _
      | exact ih2 _ _ _ _ _ _ _ _ _ _
      | exact ih3 _ _ _ _ _ _ _ _ _ _ _ _ _
      | exact ih4 _ _ _ _ _ _ _ _ _ _ _ _
      | exact ih5 _ _ _ _ _ _
      | exact ih6 _ _ _ _
      | exact ih7 _ _ _
      | exact net_Outs.mono _ _ _ _
      | exact pylonlaw14_Long.mono _ _ _ _
      | exact pylonlaw16_balance.mono _ _ _ _
      | exact pylonlaw16_has.mono _ _ _
      | exact tree_Cycles.mono _ _ _ _
      | exact tree_Path.mono _ _ _ _ _ _
      | exact tree_Tree.mono _ _ _ _
      | exact LeO.none _
      | refine LeO.ite ?_ ?_
      | refine LeO.bind ?_ (fun _ => ?_)
    · intro y0 y1 y2
      unfold pylonlaw16_TreeBalance.l4
      repeat' first
      | (with_reducible exact ih0 _ _ _ _ _ _)
      | (with_reducible exact ih1 _ _ _ _ _ _ _ _ _ _)
      | (with_reducible exact ih2 _ _ _ _ _ _ _ _ _ _)
      | (with_reducible exact ih3 _ _ _ _ _ _ _ _ _ _ _ _ _)
      | (with_reducible exact ih4 _ _ _ _ _ _ _ _ _ _ _ _)
      | (with_reducible exact ih5 _ _ _ _ _ _)
      | (with_reducible exact ih6 _ _ _ _)
      | (with_reducible exact ih7 _ _ _)
      | (with_reducible exact net_Outs.mono _ _ _ _)
      | (with_reducible exact pylonlaw14_Long.mono _ _ _ _)
      | (with_reducible exact pylonlaw16_balance.mono _ _ _ _)
      | (with_reducible exact pylonlaw16_has.mono _ _ _)
      | (with_reducible exact tree_Cycles.mono _ _ _ _)
      | (with_reducible exact tree_Path.mono _ _ _ _ _ _)
      | (with_reducible exact tree_Tree.mono _ _ _ _)
      | (with_reducible exact LeO.refl _)
      | (with_reducible exact LeO.none _)
      | (with_reducible refine LeO.ite ?_ ?_)
      | (with_reducible refine LeO.bind ?_ (fun _ => ?_))
      | exact ih0 _ _ _ _ _ _
      | exact ih1 _ _ _ _ _ _ _ _ _ _
      | exact ih2 _ _ _ _ _ _ _ _ _ _
      | exact ih3 _ _ _ _ _ _ _ _ _ _ _ _ _
      | exact ih4 _ _ _ _ _ _ _ _ _ _ _ _
      | exact ih5 _ _ _ _ _ _
      | exact ih6 _ _ _ _
      | exact ih7 _ _ _
      | exact net_Outs.mono _ _ _ _
      | exact pylonlaw14_Long.mono _ _ _ _
      | exact pylonlaw16_balance.mono _ _ _ _
      | exact pylonlaw16_has.mono _ _ _
      | exact tree_Cycles.mono _ _ _ _
      | exact tree_Path.mono _ _ _ _ _ _
      | exact tree_Tree.mono _ _ _ _
      | exact LeO.none _
      | refine LeO.ite ?_ ?_
      | refine LeO.bind ?_ (fun _ => ?_)
theorem pylonlaw16_TreeBalance.mono : ∀ a0 a1 a2 a3 a4 k, LeO (pylonlaw16_TreeBalance.f k a0 a1 a2 a3 a4) (pylonlaw16_TreeBalance.f (k + 1) a0 a1 a2 a3 a4) := by
  intro a0 a1 a2 a3 a4 k
  obtain ⟨ih0, ih1, ih2, ih3, ih4, ih5, ih6, ih7⟩ := pylonlaw16_TreeBalance.mono_l k
  unfold pylonlaw16_TreeBalance.f
  repeat' first
      | (with_reducible exact ih0 _ _ _ _ _ _)
      | (with_reducible exact ih1 _ _ _ _ _ _ _ _ _ _)
      | (with_reducible exact ih2 _ _ _ _ _ _ _ _ _ _)
      | (with_reducible exact ih3 _ _ _ _ _ _ _ _ _ _ _ _ _)
      | (with_reducible exact ih4 _ _ _ _ _ _ _ _ _ _ _ _)
      | (with_reducible exact ih5 _ _ _ _ _ _)
      | (with_reducible exact ih6 _ _ _ _)
      | (with_reducible exact ih7 _ _ _)
      | (with_reducible exact net_Outs.mono _ _ _ _)
      | (with_reducible exact pylonlaw14_Long.mono _ _ _ _)
      | (with_reducible exact pylonlaw16_balance.mono _ _ _ _)
      | (with_reducible exact pylonlaw16_has.mono _ _ _)
      | (with_reducible exact tree_Cycles.mono _ _ _ _)
      | (with_reducible exact tree_Path.mono _ _ _ _ _ _)
      | (with_reducible exact tree_Tree.mono _ _ _ _)
      | (with_reducible exact LeO.refl _)
      | (with_reducible exact LeO.none _)
      | (with_reducible refine LeO.ite ?_ ?_)
      | (with_reducible refine LeO.bind ?_ (fun _ => ?_))
      | exact ih0 _ _ _ _ _ _
      | exact ih1 _ _ _ _ _ _ _ _ _ _
      | exact ih2 _ _ _ _ _ _ _ _ _ _
      | exact ih3 _ _ _ _ _ _ _ _ _ _ _ _ _
      | exact ih4 _ _ _ _ _ _ _ _ _ _ _ _
      | exact ih5 _ _ _ _ _ _
      | exact ih6 _ _ _ _
      | exact ih7 _ _ _
      | exact net_Outs.mono _ _ _ _
      | exact pylonlaw14_Long.mono _ _ _ _
      | exact pylonlaw16_balance.mono _ _ _ _
      | exact pylonlaw16_has.mono _ _ _
      | exact tree_Cycles.mono _ _ _ _
      | exact tree_Path.mono _ _ _ _ _ _
      | exact tree_Tree.mono _ _ _ _
      | exact LeO.none _
      | refine LeO.ite ?_ ?_
      | refine LeO.bind ?_ (fun _ => ?_)
def pylonlaw16_TreeBalance.T11 : Bool × List (List Nat × List Nat) := (true, [([], []), ([], []), ([], []), ([1, 2], [1, 2]), ([3], [3]), ([0, 4], [0, 4]), ([5], [5]), ([6], [6]), ([6], [6]), ([7, 5, 0, 1, 2, 3, 4, 5, 6, 7], [7]), ([8, 9, 0, 1, 2, 3, 4, 5, 6, 7, 8, 9], [8])])
def pylonlaw16_TreeBalance.B11 : List Nat := [0, 0, 0, 6, 14, 31, 63, 127, 127, 255, 1023]
theorem pylonlaw16_TreeBalance.tab11 : rtab .any (opsOf Try.f16 11) = pylonlaw16_TreeBalance.T11 := by kernel_rfl
theorem pylonlaw16_TreeBalance.bits11 : waitsOk pylonlaw16_TreeBalance.T11.2 pylonlaw16_TreeBalance.B11 = true := by kernel_rfl
set_option maxHeartbeats 8000000 in
set_option maxRecDepth 100000 in
theorem pylonlaw16_TreeBalance.calls (k : Nat) (a0_0 : Int) (A0_1 : Option Addr) (c0_1 : Nat) (l0_1 : List (S37)) (P1_ : Nat → Prop) (A1 : Option Addr) (c1 : Nat) (l1 : List Int) (a2 : Int) (a3 : Int) (r : Bool) (w : World) (hr0_1 : Kd.C k37 w A0_1 l0_1.length l0_1) (hc0_1 : l0_1.length ≤ c0_1) (hs1 : Kd.V (Kd.int .i64) 3 w w.heap.size (fun k_ => P1_ k_) (.slice A1 l1.length c1) l1) (h : pylonlaw16_TreeBalance.f k a0_0 l0_1 l1 a2 a3 = some r) :
    Calls Try.prog 16 #[.agg #[.int .i64 a0_0, .slice A0_1 l0_1.length c0_1], .slice A1 l1.length c1, .int .i64 a2, .int .i64 a3] w fun e w' => e = .returned (.bool r) ∧ Below w.heap.size w w' := by
  have hu24 := Try.underlying24
  have HR0_1 := Aside0.mk hr0_1
  have HC0_1 := Aside0.mk hc0_1
  clear hr0_1 hc0_1
  have HO1 := Aside0.mk (show Kd.V (Kd.int .i64) 3 w w.heap.size (fun k_ => (P1_ k_ ∨ w.heap.size ≤ k_)) (.slice A1 l1.length c1) l1 from Kd.V_mono hs1 (fun k_ hk => .inl hk))
  have HB := Aside0.mk (Below.refl w.heap.size w)
  have H : ((pylonlaw14_Long.f k a0_0 l0_1 (([l1] : List (List Int)))).bind fun t945 => (if t945 = true then (pylonlaw16_TreeBalance.j0 k l1 a2 a3 true a0_0 l0_1) else ((pylonlaw16_awake.f).bind fun t946 => (if t946 = true then ((net_Outs.f k a0_0 l0_1 l1).bind fun t947 => (pylonlaw16_TreeBalance.j0 k l1 a2 a3 (t947 != 0) a0_0 l0_1)) else (pylonlaw16_TreeBalance.j0 k l1 a2 a3 true a0_0 l0_1))))) = some r := h
  clear h
  have HC5 := Aside0.mk H
  clear H
  go_enter Try.func16, Try.ntmps16
  go_upto_region 1 with (first | ((with_reducible refine gate_dst (N := 4) rfl ?_); (try (refine gate_guard (by rfl) ?_; dsimp only)); refine box_event ?hg (N := 4) ?hd (cs := #[.int .i64 a0_0, .slice A0_1 l0_1.length c0_1]) (t := 24) ?hr ?_; (case hd => rfl); (case hg => rfl); (case hr => first | (go_simp; done) | (go_simp; rfl)); intro gb941 hg w6 hbox hb; have n0_ := Aside0.mk (Kd.V_below (Kd.V_elderB (by (with_reducible repeat (first | apply Kd.V_alloc | apply Kd.V_drewN | apply Kd.V_drew)); exact HO1.out) gb941 (Nat.le_of_eq hg.symm)) hb); have n1_ := Aside0.mk (below_step (by repeat (first | (with_reducible first | exact HB.out | apply below_alloc | apply pw_below_drewN | apply below_drew1) | exact HB.out)) hb); have n2_ := Aside0.mk (hbox); have n3_ := Aside0.mk ((by rw [hg]; exact (below_size (by repeat (first | (with_reducible first | exact HB.out | apply below_alloc | apply pw_below_drewN | apply below_drew1) | exact HB.out))) : w.heap.size ≤ gb941)); have n4_ := Aside0.mk ((by rw [hg]; exact (below_size (by repeat (first | (with_reducible first | exact HB.out | apply below_alloc | apply pw_below_drewN | apply below_drew1) | exact HB.out))) : w.heap.size ≤ gb941)); clear HO1; clear HB; have HO1 := n0_; have HB := n1_; have BK941 := n2_; have GW941 := n3_; have GE941 := n4_; clear n0_ n1_ n2_ n3_ n4_; clear hb hbox hg))
  (try simp only [Act.put, List.setIfInBounds_toArray, List.set_cons_zero, List.set_cons_succ])
  go_cut [37] (fun v37 wc => ∃ (kq : Nat) (x37_4 : Bool), v37 = .bool x37_4 ∧ Aside0 (pylonlaw16_TreeBalance.j0 kq l1 a2 a3 x37_4 a0_0 l0_1 = some r) ∧ Aside0 (kq ≤ k) ∧ Aside0 (Kd.V (Kd.int .i64) 3 wc w.heap.size (fun k_ => (P1_ k_ ∨ w.heap.size ≤ k_) ∧ k_ ≠ gb941) (.slice A1 l1.length c1) l1) ∧ Aside0 (wc.heap[gb941]? = some (.cells #[.int .i64 a0_0, (.slice A0_1 l0_1.length c0_1)] 24 (0, 0))) ∧ Aside0 (Below w.heap.size w wc))
  case first =>
    have H := HC5.out
    clear HC5
    obtain ⟨y942, hy942⟩ : ∃ y_ : List (List Int), y_ = (([l1] : List (List Int))) := ⟨_, rfl⟩
    replace H : ((pylonlaw14_Long.f k a0_0 l0_1 y942).bind fun t945 => (if t945 = true then (pylonlaw16_TreeBalance.j0 k l1 a2 a3 true a0_0 l0_1) else ((pylonlaw16_awake.f).bind fun t946 => (if t946 = true then ((net_Outs.f k a0_0 l0_1 l1).bind fun t947 => (pylonlaw16_TreeBalance.j0 k l1 a2 a3 (t947 != 0) a0_0 l0_1)) else (pylonlaw16_TreeBalance.j0 k l1 a2 a3 true a0_0 l0_1))))) = some r := by first | (rw [hy942]; with_reducible exact H) | (have H2_ := (Option.bind_some _ _).symm.trans H; rw [hy942]; with_reducible exact H2_) | (have H2_ := (Option.bind_some _ _).symm.trans H; with_reducible exact H2_) | with_reducible exact H | (rw [hy942]; exact H) | exact H
    have Ny942 := Aside0.mk hy942
    clear hy942
    replace H := Option.bind_eq_some_iff.mp H
    obtain ⟨t945, A70, H⟩ := H
    replace H : (if t945 = true then (pylonlaw16_TreeBalance.j0 k l1 a2 a3 true a0_0 l0_1) else ((pylonlaw16_awake.f).bind fun t946 => (if t946 = true then ((net_Outs.f k a0_0 l0_1 l1).bind fun t947 => (pylonlaw16_TreeBalance.j0 k l1 a2 a3 (t947 != 0) a0_0 l0_1)) else (pylonlaw16_TreeBalance.j0 k l1 a2 a3 true a0_0 l0_1)))) = some r := H
    have A7 := Aside0.mk A70
    clear A70
    by_cases c8 : t945 = true
    · as_aux_lemma =>
      subst c8
      have H1 : (pylonlaw16_TreeBalance.j0 k l1 a2 a3 true a0_0 l0_1) = some r := by rw [if_pos rfl] at H; exact H
      clear H
      have H := H1
      clear H1
      have H' := Aside0.mk H
      clear H
      have hcz9_0 : w6.cell? ⟨gb941, 0, none⟩ = some (.int .i64 a0_0) := (blk_cell BK941.out 0).trans rfl
      have hcz9_1 : w6.cell? ⟨gb941, 1, none⟩ = some (.slice A0_1 l0_1.length c0_1) := (blk_cell BK941.out 1).trans rfl
      have hfz9_0 := blk_frozen BK941.out 0
      have hfz9_1 := blk_frozen BK941.out 1
      go_wp2_with (first | ((with_reducible refine gate_dst (N := 26) rfl ?_); (try (refine gate_guard (by rfl) ?_; dsimp only)); refine Kd.N_lit (Kd.slice 3 (Kd.int .i64)) _ 25 ?hg (N' := 26) ?hd (xs := ([l1] : List (List Int))) (inner := [.slice A1 l1.length c1]) (ok := (fun k_ => (P1_ k_ ∨ w.heap.size ≤ k_) ∧ k_ ≠ gb941)) (okp := (fun k_ => (P1_ k_ ∨ w.heap.size ≤ k_) ∧ k_ ≠ gb941)) ?hr ?hp (fun _ hk => hk) ((show ∀ k_, w6.heap.size ≤ k_ → (fun k_ => (P1_ k_ ∨ w.heap.size ≤ k_) ∧ k_ ≠ gb941) k_ from fun k_ hk => ⟨(.inr (Nat.le_trans (below_size (by repeat (first | (with_reducible first | exact HB.out | apply below_alloc | apply pw_below_drewN | apply below_drew1 | refine below_set ?_ GE941.out) | exact HB.out))) hk)), Kd.freshB (g := gb941) (o := .cells #[.int .i64 a0_0, .slice A0_1 l0_1.length c0_1] 24 (0, 0)) (by (with_reducible repeat (first | refine blk_drewN ?_ _ | refine blk_drew ?_ | refine blk_alloc ?_ _)); exact BK941.out) k_ hk⟩) _ (Nat.le_refl _)) (Below.refl _ _) (Nat.le_refl _) (by simp) ?_; (case hd => rfl); (case hg => rfl); (case hr => first | (go_simp; done) | (go_simp; rfl)); (case hp => exact (Reps.one (show Kd.FK (Kd.slice 3 (Kd.int .i64)) _ _ l1 [.slice A1 l1.length c1] from (Kd.FK_slice_mk (Kd.V_reads' (Kd.V_mono (ok' := (fun k_ => (P1_ k_ ∨ w.heap.size ≤ k_) ∧ k_ ≠ gb941)) (HO1.out) (fun k_ hk => ⟨hk.1, hk.2⟩))).2.1 (Kd.V_F (Kd.V_mono (ok' := (fun k_ => (P1_ k_ ∨ w.heap.size ≤ k_) ∧ k_ ≠ gb941)) (HO1.out) (fun k_ hk => ⟨hk.1, hk.2⟩))))) (Reps.none _ _))); intro v943 w10 ho11 hb hg_ hnew_; clear hg_ hnew_; (first | rw [← Ny942.out] at ho11 | (simp only [Int.reduceToNat] at ho11; rw [← Ny942.out] at ho11)); have n0_ := Aside0.mk (Kd.V_elder' (by (with_reducible repeat (first | apply Kd.V_alloc | apply Kd.V_drewN | apply Kd.V_drew)); exact HO1.out) (Kd.N_base ho11) hb); have n1_ := Aside0.mk (Kd.N_lower ho11 (below_size (by repeat (first | (with_reducible first | exact HB.out | apply below_alloc | apply pw_below_drewN | apply below_drew1 | refine below_set ?_ GE941.out) | exact HB.out)))); have n2_ := Aside0.mk (blk_below (g := gb941) (o := .cells #[.int .i64 a0_0, .slice A0_1 l0_1.length c0_1] 24 (0, 0)) (by (with_reducible repeat (first | refine blk_drewN ?_ _ | refine blk_drew ?_ | refine blk_alloc ?_ _)); exact BK941.out) hb); have n3_ := Aside0.mk (below_step (by repeat (first | (with_reducible first | exact HB.out | apply below_alloc | apply pw_below_drewN | apply below_drew1 | refine below_set ?_ GE941.out) | exact HB.out)) hb); clear HO1; clear BK941; clear HB; have HO1 := n0_; have HO944 := n1_; have BK941 := n2_; have HB := n3_; clear n0_ n1_ n2_ n3_; clear hb ho11; obtain ⟨Ao12, co12, eo12⟩ := Kd.N_slice HO944.out; subst eo12) | ((with_reducible refine gate_callee (f := 28) rfl ?_); refine goesL_ (some 27) rfl rfl Try.func28 (by kernel_rfl) rfl #[.agg #[.int .i64 a0_0, .slice A0_1 l0_1.length c0_1], .slice Ao12 y942.length co12] rfl (by (try simp only [List.map_toArray, List.map_cons, List.map_nil]); first | done | rfl | (simp only [List.length_drop, List.length_take]; rfl)) ?_; (with_reducible refine (pylonlaw14_Long.calls k a0_0 _ _ l0_1 _ _ y942 true _ ?side1 ?side2 ?side3 ?side4 A7.out).mono ?_); (case side1 => repeat (first | exact (Kd.C_below HR0_1.out HB.out) | (with_reducible refine Kd.C_alloc ?_ _) | (with_reducible refine Kd.C_drewN ?_ _) | (with_reducible refine Kd.C_drew ?_))); (case side2 => exact HC0_1.out); (case side3 => repeat (first | exact (Kd.N_reads' HO944.out).2.2 | (with_reducible refine Kd.C_alloc ?_ _) | (with_reducible refine Kd.C_drewN ?_ _) | (with_reducible refine Kd.C_drew ?_))); (case side4 => exact (Kd.N_reads' HO944.out).2.1); rintro e w13 ⟨rfl, hb⟩; refine ⟨_, rfl, ?_⟩; have n0_ := Aside0.mk (Kd.V_below (by (with_reducible repeat (first | apply Kd.V_alloc | apply Kd.V_drewN | apply Kd.V_drew)); exact HO1.out) hb); have n1_ := Aside0.mk (Kd.N_below (by (with_reducible repeat (first | apply Kd.N_alloc | apply Kd.N_drewN | apply Kd.N_drew)); exact HO944.out) hb); have n2_ := Aside0.mk (blk_below (g := gb941) (o := .cells #[.int .i64 a0_0, .slice A0_1 l0_1.length c0_1] 24 (0, 0)) (by (with_reducible repeat (first | refine blk_drewN ?_ _ | refine blk_drew ?_ | refine blk_alloc ?_ _)); exact BK941.out) hb); have n3_ := Aside0.mk (below_step (by repeat (first | (with_reducible first | exact HB.out | apply below_alloc | apply pw_below_drewN | apply below_drew1 | refine below_set ?_ GE941.out) | exact HB.out)) hb); clear HO1; clear HO944; clear BK941; clear HB; have HO1 := n0_; have HO944 := n1_; have BK941 := n2_; have HB := n3_; clear n0_ n1_ n2_ n3_; (try clear hb); (try clear hb2); (try clear hk); (try clear hi)))
      go_meet
      case rel => exact ⟨_, (true), (by first | rfl | (simp; done) | (simp [*]; done)), H', ⟨by first | omega | exact Nat.le_refl _⟩, ⟨by (with_reducible repeat (first | apply Kd.V_alloc | apply Kd.V_drewN | apply Kd.V_drew)); exact Kd.V_mono HO1.out (fun _ hk => ⟨hk.1.1, hk.1.2⟩)⟩, ⟨by (with_reducible repeat (first | refine blk_drewN ?_ _ | refine blk_drew ?_ | refine blk_alloc ?_ _)); exact BK941.out⟩, ⟨by repeat (first | (with_reducible first | exact HB.out | apply below_alloc | apply pw_below_drewN | apply below_drew1 | refine below_set ?_ GE941.out) | exact HB.out)⟩⟩
    · as_aux_lemma =>
      replace c8 := Bool.eq_false_iff.mpr c8
      subst c8
      have H1 : ((pylonlaw16_awake.f).bind fun t946 => (if t946 = true then ((net_Outs.f k a0_0 l0_1 l1).bind fun t947 => (pylonlaw16_TreeBalance.j0 k l1 a2 a3 (t947 != 0) a0_0 l0_1)) else (pylonlaw16_TreeBalance.j0 k l1 a2 a3 true a0_0 l0_1))) = some r := by rw [if_neg (show ¬ (false = true) by decide)] at H; exact H
      clear H
      have H := H1
      clear H1
      replace H := Option.bind_eq_some_iff.mp H
      obtain ⟨t946, A140, H⟩ := H
      replace H : (if t946 = true then ((net_Outs.f k a0_0 l0_1 l1).bind fun t947 => (pylonlaw16_TreeBalance.j0 k l1 a2 a3 (t947 != 0) a0_0 l0_1)) else (pylonlaw16_TreeBalance.j0 k l1 a2 a3 true a0_0 l0_1)) = some r := H
      have A14 := Aside0.mk A140
      clear A140
      by_cases c15 : t946 = true
      · as_aux_lemma =>
        subst c15
        have H1 : ((net_Outs.f k a0_0 l0_1 l1).bind fun t947 => (pylonlaw16_TreeBalance.j0 k l1 a2 a3 (t947 != 0) a0_0 l0_1)) = some r := by rw [if_pos rfl] at H; exact H
        clear H
        have H := H1
        clear H1
        replace H := Option.bind_eq_some_iff.mp H
        obtain ⟨t947, A160, H⟩ := H
        replace H : (pylonlaw16_TreeBalance.j0 k l1 a2 a3 (t947 != 0) a0_0 l0_1) = some r := H
        have A16 := Aside0.mk A160
        clear A160
        have H' := Aside0.mk H
        clear H
        have hcz17_0 : w6.cell? ⟨gb941, 0, none⟩ = some (.int .i64 a0_0) := (blk_cell BK941.out 0).trans rfl
        have hcz17_1 : w6.cell? ⟨gb941, 1, none⟩ = some (.slice A0_1 l0_1.length c0_1) := (blk_cell BK941.out 1).trans rfl
        have hfz17_0 := blk_frozen BK941.out 0
        have hfz17_1 := blk_frozen BK941.out 1
        go_wp2_with (first | ((with_reducible refine gate_dst (N := 26) rfl ?_); (try (refine gate_guard (by rfl) ?_; dsimp only)); refine Kd.N_lit (Kd.slice 3 (Kd.int .i64)) _ 25 ?hg (N' := 26) ?hd (xs := ([l1] : List (List Int))) (inner := [.slice A1 l1.length c1]) (ok := (fun k_ => (P1_ k_ ∨ w.heap.size ≤ k_) ∧ k_ ≠ gb941)) (okp := (fun k_ => (P1_ k_ ∨ w.heap.size ≤ k_) ∧ k_ ≠ gb941)) ?hr ?hp (fun _ hk => hk) ((show ∀ k_, w6.heap.size ≤ k_ → (fun k_ => (P1_ k_ ∨ w.heap.size ≤ k_) ∧ k_ ≠ gb941) k_ from fun k_ hk => ⟨(.inr (Nat.le_trans (below_size (by repeat (first | (with_reducible first | exact HB.out | apply below_alloc | apply pw_below_drewN | apply below_drew1 | refine below_set ?_ GE941.out) | exact HB.out))) hk)), Kd.freshB (g := gb941) (o := .cells #[.int .i64 a0_0, .slice A0_1 l0_1.length c0_1] 24 (0, 0)) (by (with_reducible repeat (first | refine blk_drewN ?_ _ | refine blk_drew ?_ | refine blk_alloc ?_ _)); exact BK941.out) k_ hk⟩) _ (Nat.le_refl _)) (Below.refl _ _) (Nat.le_refl _) (by simp) ?_; (case hd => rfl); (case hg => rfl); (case hr => first | (go_simp; done) | (go_simp; rfl)); (case hp => exact (Reps.one (show Kd.FK (Kd.slice 3 (Kd.int .i64)) _ _ l1 [.slice A1 l1.length c1] from (Kd.FK_slice_mk (Kd.V_reads' (Kd.V_mono (ok' := (fun k_ => (P1_ k_ ∨ w.heap.size ≤ k_) ∧ k_ ≠ gb941)) (HO1.out) (fun k_ hk => ⟨hk.1, hk.2⟩))).2.1 (Kd.V_F (Kd.V_mono (ok' := (fun k_ => (P1_ k_ ∨ w.heap.size ≤ k_) ∧ k_ ≠ gb941)) (HO1.out) (fun k_ hk => ⟨hk.1, hk.2⟩))))) (Reps.none _ _))); intro v943 w18 ho19 hb hg_ hnew_; clear hg_ hnew_; (first | rw [← Ny942.out] at ho19 | (simp only [Int.reduceToNat] at ho19; rw [← Ny942.out] at ho19)); have n0_ := Aside0.mk (Kd.V_elder' (by (with_reducible repeat (first | apply Kd.V_alloc | apply Kd.V_drewN | apply Kd.V_drew)); exact HO1.out) (Kd.N_base ho19) hb); have n1_ := Aside0.mk (Kd.N_lower ho19 (below_size (by repeat (first | (with_reducible first | exact HB.out | apply below_alloc | apply pw_below_drewN | apply below_drew1 | refine below_set ?_ GE941.out) | exact HB.out)))); have n2_ := Aside0.mk (blk_below (g := gb941) (o := .cells #[.int .i64 a0_0, .slice A0_1 l0_1.length c0_1] 24 (0, 0)) (by (with_reducible repeat (first | refine blk_drewN ?_ _ | refine blk_drew ?_ | refine blk_alloc ?_ _)); exact BK941.out) hb); have n3_ := Aside0.mk (below_step (by repeat (first | (with_reducible first | exact HB.out | apply below_alloc | apply pw_below_drewN | apply below_drew1 | refine below_set ?_ GE941.out) | exact HB.out)) hb); clear HO1; clear BK941; clear HB; have HO1 := n0_; have HO944 := n1_; have BK941 := n2_; have HB := n3_; clear n0_ n1_ n2_ n3_; clear hb ho19; obtain ⟨Ao20, co20, eo20⟩ := Kd.N_slice HO944.out; subst eo20) | ((with_reducible refine gate_callee (f := 28) rfl ?_); refine goesL_ (some 27) rfl rfl Try.func28 (by kernel_rfl) rfl #[.agg #[.int .i64 a0_0, .slice A0_1 l0_1.length c0_1], .slice Ao20 y942.length co20] rfl (by (try simp only [List.map_toArray, List.map_cons, List.map_nil]); first | done | rfl | (simp only [List.length_drop, List.length_take]; rfl)) ?_; (with_reducible refine (pylonlaw14_Long.calls k a0_0 _ _ l0_1 _ _ y942 false _ ?side1 ?side2 ?side3 ?side4 A7.out).mono ?_); (case side1 => repeat (first | exact (Kd.C_below HR0_1.out HB.out) | (with_reducible refine Kd.C_alloc ?_ _) | (with_reducible refine Kd.C_drewN ?_ _) | (with_reducible refine Kd.C_drew ?_))); (case side2 => exact HC0_1.out); (case side3 => repeat (first | exact (Kd.N_reads' HO944.out).2.2 | (with_reducible refine Kd.C_alloc ?_ _) | (with_reducible refine Kd.C_drewN ?_ _) | (with_reducible refine Kd.C_drew ?_))); (case side4 => exact (Kd.N_reads' HO944.out).2.1); rintro e w21 ⟨rfl, hb⟩; refine ⟨_, rfl, ?_⟩; have n0_ := Aside0.mk (Kd.V_below (by (with_reducible repeat (first | apply Kd.V_alloc | apply Kd.V_drewN | apply Kd.V_drew)); exact HO1.out) hb); have n1_ := Aside0.mk (Kd.N_below (by (with_reducible repeat (first | apply Kd.N_alloc | apply Kd.N_drewN | apply Kd.N_drew)); exact HO944.out) hb); have n2_ := Aside0.mk (blk_below (g := gb941) (o := .cells #[.int .i64 a0_0, .slice A0_1 l0_1.length c0_1] 24 (0, 0)) (by (with_reducible repeat (first | refine blk_drewN ?_ _ | refine blk_drew ?_ | refine blk_alloc ?_ _)); exact BK941.out) hb); have n3_ := Aside0.mk (below_step (by repeat (first | (with_reducible first | exact HB.out | apply below_alloc | apply pw_below_drewN | apply below_drew1 | refine below_set ?_ GE941.out) | exact HB.out)) hb); clear HO1; clear HO944; clear BK941; clear HB; have HO1 := n0_; have HO944 := n1_; have BK941 := n2_; have HB := n3_; clear n0_ n1_ n2_ n3_; (try clear hb); (try clear hb2); (try clear hk); (try clear hi)) | (go_at_call 51; (with_reducible refine (pylonlaw16_awake.calls  true _ A14.out).mono ?_); rintro e w22 ⟨rfl, hb⟩; have n0_ := Aside0.mk (Kd.V_below (by (with_reducible repeat (first | apply Kd.V_alloc | apply Kd.V_drewN | apply Kd.V_drew)); exact HO1.out) hb); have n1_ := Aside0.mk (Kd.N_below (by (with_reducible repeat (first | apply Kd.N_alloc | apply Kd.N_drewN | apply Kd.N_drew)); exact HO944.out) hb); have n2_ := Aside0.mk (blk_below (g := gb941) (o := .cells #[.int .i64 a0_0, .slice A0_1 l0_1.length c0_1] 24 (0, 0)) (by (with_reducible repeat (first | refine blk_drewN ?_ _ | refine blk_drew ?_ | refine blk_alloc ?_ _)); exact BK941.out) hb); have n3_ := Aside0.mk (below_step (by repeat (first | (with_reducible first | exact HB.out | apply below_alloc | apply pw_below_drewN | apply below_drew1 | refine below_set ?_ GE941.out) | exact HB.out)) hb); clear HO1; clear HO944; clear BK941; clear HB; have HO1 := n0_; have HO944 := n1_; have BK941 := n2_; have HB := n3_; clear n0_ n1_ n2_ n3_; (try clear hb); (try clear hb2); (try clear hk); (try clear hi); have hcz23_0 : w22.cell? ⟨gb941, 0, none⟩ = some (.int .i64 a0_0) := (blk_cell BK941.out 0).trans rfl; have hcz23_1 : w22.cell? ⟨gb941, 1, none⟩ = some (.slice A0_1 l0_1.length c0_1) := (blk_cell BK941.out 1).trans rfl; have hfz23_0 := blk_frozen BK941.out 0; have hfz23_1 := blk_frozen BK941.out 1) | (go_at_call 31; (with_reducible refine (net_Outs.calls k a0_0 _ _ l0_1 _ _ l1 t947 _ ?side1 ?side2 ?side3 ?side4 A16.out).mono ?_); (case side1 => repeat (first | exact (Kd.C_below HR0_1.out HB.out) | (with_reducible refine Kd.C_alloc ?_ _) | (with_reducible refine Kd.C_drewN ?_ _) | (with_reducible refine Kd.C_drew ?_))); (case side2 => exact HC0_1.out); (case side3 => repeat (first | exact (Kd.V_reads' HO1.out).2.2 | (with_reducible refine Kd.C_alloc ?_ _) | (with_reducible refine Kd.C_drewN ?_ _) | (with_reducible refine Kd.C_drew ?_))); (case side4 => exact (Kd.V_reads' HO1.out).2.1); rintro e w24 ⟨rfl, hb⟩; have n0_ := Aside0.mk (Kd.V_below (by (with_reducible repeat (first | apply Kd.V_alloc | apply Kd.V_drewN | apply Kd.V_drew)); exact HO1.out) hb); have n1_ := Aside0.mk (Kd.N_below (by (with_reducible repeat (first | apply Kd.N_alloc | apply Kd.N_drewN | apply Kd.N_drew)); exact HO944.out) hb); have n2_ := Aside0.mk (blk_below (g := gb941) (o := .cells #[.int .i64 a0_0, .slice A0_1 l0_1.length c0_1] 24 (0, 0)) (by (with_reducible repeat (first | refine blk_drewN ?_ _ | refine blk_drew ?_ | refine blk_alloc ?_ _)); exact BK941.out) hb); have n3_ := Aside0.mk (below_step (by repeat (first | (with_reducible first | exact HB.out | apply below_alloc | apply pw_below_drewN | apply below_drew1 | refine below_set ?_ GE941.out) | exact HB.out)) hb); clear HO1; clear HO944; clear BK941; clear HB; have HO1 := n0_; have HO944 := n1_; have BK941 := n2_; have HB := n3_; clear n0_ n1_ n2_ n3_; (try clear hb); (try clear hb2); (try clear hk); (try clear hi)))
        go_meet
        case rel => exact ⟨_, ((t947 != 0)), (by first | rfl | (simp; done) | (simp [*]; done)), H', ⟨by first | omega | exact Nat.le_refl _⟩, ⟨by (with_reducible repeat (first | apply Kd.V_alloc | apply Kd.V_drewN | apply Kd.V_drew)); exact Kd.V_mono HO1.out (fun _ hk => ⟨hk.1.1, hk.1.2⟩)⟩, ⟨by (with_reducible repeat (first | refine blk_drewN ?_ _ | refine blk_drew ?_ | refine blk_alloc ?_ _)); exact BK941.out⟩, ⟨by repeat (first | (with_reducible first | exact HB.out | apply below_alloc | apply pw_below_drewN | apply below_drew1 | refine below_set ?_ GE941.out) | exact HB.out)⟩⟩
      · as_aux_lemma =>
        replace c15 := Bool.eq_false_iff.mpr c15
        subst c15
        have H1 : (pylonlaw16_TreeBalance.j0 k l1 a2 a3 true a0_0 l0_1) = some r := by rw [if_neg (show ¬ (false = true) by decide)] at H; exact H
        clear H
        have H := H1
        clear H1
        have H' := Aside0.mk H
        clear H
        have hcz25_0 : w6.cell? ⟨gb941, 0, none⟩ = some (.int .i64 a0_0) := (blk_cell BK941.out 0).trans rfl
        have hcz25_1 : w6.cell? ⟨gb941, 1, none⟩ = some (.slice A0_1 l0_1.length c0_1) := (blk_cell BK941.out 1).trans rfl
        have hfz25_0 := blk_frozen BK941.out 0
        have hfz25_1 := blk_frozen BK941.out 1
        go_wp2_with (first | ((with_reducible refine gate_dst (N := 26) rfl ?_); (try (refine gate_guard (by rfl) ?_; dsimp only)); refine Kd.N_lit (Kd.slice 3 (Kd.int .i64)) _ 25 ?hg (N' := 26) ?hd (xs := ([l1] : List (List Int))) (inner := [.slice A1 l1.length c1]) (ok := (fun k_ => (P1_ k_ ∨ w.heap.size ≤ k_) ∧ k_ ≠ gb941)) (okp := (fun k_ => (P1_ k_ ∨ w.heap.size ≤ k_) ∧ k_ ≠ gb941)) ?hr ?hp (fun _ hk => hk) ((show ∀ k_, w6.heap.size ≤ k_ → (fun k_ => (P1_ k_ ∨ w.heap.size ≤ k_) ∧ k_ ≠ gb941) k_ from fun k_ hk => ⟨(.inr (Nat.le_trans (below_size (by repeat (first | (with_reducible first | exact HB.out | apply below_alloc | apply pw_below_drewN | apply below_drew1 | refine below_set ?_ GE941.out) | exact HB.out))) hk)), Kd.freshB (g := gb941) (o := .cells #[.int .i64 a0_0, .slice A0_1 l0_1.length c0_1] 24 (0, 0)) (by (with_reducible repeat (first | refine blk_drewN ?_ _ | refine blk_drew ?_ | refine blk_alloc ?_ _)); exact BK941.out) k_ hk⟩) _ (Nat.le_refl _)) (Below.refl _ _) (Nat.le_refl _) (by simp) ?_; (case hd => rfl); (case hg => rfl); (case hr => first | (go_simp; done) | (go_simp; rfl)); (case hp => exact (Reps.one (show Kd.FK (Kd.slice 3 (Kd.int .i64)) _ _ l1 [.slice A1 l1.length c1] from (Kd.FK_slice_mk (Kd.V_reads' (Kd.V_mono (ok' := (fun k_ => (P1_ k_ ∨ w.heap.size ≤ k_) ∧ k_ ≠ gb941)) (HO1.out) (fun k_ hk => ⟨hk.1, hk.2⟩))).2.1 (Kd.V_F (Kd.V_mono (ok' := (fun k_ => (P1_ k_ ∨ w.heap.size ≤ k_) ∧ k_ ≠ gb941)) (HO1.out) (fun k_ hk => ⟨hk.1, hk.2⟩))))) (Reps.none _ _))); intro v943 w26 ho27 hb hg_ hnew_; clear hg_ hnew_; (first | rw [← Ny942.out] at ho27 | (simp only [Int.reduceToNat] at ho27; rw [← Ny942.out] at ho27)); have n0_ := Aside0.mk (Kd.V_elder' (by (with_reducible repeat (first | apply Kd.V_alloc | apply Kd.V_drewN | apply Kd.V_drew)); exact HO1.out) (Kd.N_base ho27) hb); have n1_ := Aside0.mk (Kd.N_lower ho27 (below_size (by repeat (first | (with_reducible first | exact HB.out | apply below_alloc | apply pw_below_drewN | apply below_drew1 | refine below_set ?_ GE941.out) | exact HB.out)))); have n2_ := Aside0.mk (blk_below (g := gb941) (o := .cells #[.int .i64 a0_0, .slice A0_1 l0_1.length c0_1] 24 (0, 0)) (by (with_reducible repeat (first | refine blk_drewN ?_ _ | refine blk_drew ?_ | refine blk_alloc ?_ _)); exact BK941.out) hb); have n3_ := Aside0.mk (below_step (by repeat (first | (with_reducible first | exact HB.out | apply below_alloc | apply pw_below_drewN | apply below_drew1 | refine below_set ?_ GE941.out) | exact HB.out)) hb); clear HO1; clear BK941; clear HB; have HO1 := n0_; have HO944 := n1_; have BK941 := n2_; have HB := n3_; clear n0_ n1_ n2_ n3_; clear hb ho27; obtain ⟨Ao28, co28, eo28⟩ := Kd.N_slice HO944.out; subst eo28) | ((with_reducible refine gate_callee (f := 28) rfl ?_); refine goesL_ (some 27) rfl rfl Try.func28 (by kernel_rfl) rfl #[.agg #[.int .i64 a0_0, .slice A0_1 l0_1.length c0_1], .slice Ao28 y942.length co28] rfl (by (try simp only [List.map_toArray, List.map_cons, List.map_nil]); first | done | rfl | (simp only [List.length_drop, List.length_take]; rfl)) ?_; (with_reducible refine (pylonlaw14_Long.calls k a0_0 _ _ l0_1 _ _ y942 false _ ?side1 ?side2 ?side3 ?side4 A7.out).mono ?_); (case side1 => repeat (first | exact (Kd.C_below HR0_1.out HB.out) | (with_reducible refine Kd.C_alloc ?_ _) | (with_reducible refine Kd.C_drewN ?_ _) | (with_reducible refine Kd.C_drew ?_))); (case side2 => exact HC0_1.out); (case side3 => repeat (first | exact (Kd.N_reads' HO944.out).2.2 | (with_reducible refine Kd.C_alloc ?_ _) | (with_reducible refine Kd.C_drewN ?_ _) | (with_reducible refine Kd.C_drew ?_))); (case side4 => exact (Kd.N_reads' HO944.out).2.1); rintro e w29 ⟨rfl, hb⟩; refine ⟨_, rfl, ?_⟩; have n0_ := Aside0.mk (Kd.V_below (by (with_reducible repeat (first | apply Kd.V_alloc | apply Kd.V_drewN | apply Kd.V_drew)); exact HO1.out) hb); have n1_ := Aside0.mk (Kd.N_below (by (with_reducible repeat (first | apply Kd.N_alloc | apply Kd.N_drewN | apply Kd.N_drew)); exact HO944.out) hb); have n2_ := Aside0.mk (blk_below (g := gb941) (o := .cells #[.int .i64 a0_0, .slice A0_1 l0_1.length c0_1] 24 (0, 0)) (by (with_reducible repeat (first | refine blk_drewN ?_ _ | refine blk_drew ?_ | refine blk_alloc ?_ _)); exact BK941.out) hb); have n3_ := Aside0.mk (below_step (by repeat (first | (with_reducible first | exact HB.out | apply below_alloc | apply pw_below_drewN | apply below_drew1 | refine below_set ?_ GE941.out) | exact HB.out)) hb); clear HO1; clear HO944; clear BK941; clear HB; have HO1 := n0_; have HO944 := n1_; have BK941 := n2_; have HB := n3_; clear n0_ n1_ n2_ n3_; (try clear hb); (try clear hb2); (try clear hk); (try clear hi)) | (go_at_call 51; (with_reducible refine (pylonlaw16_awake.calls  false _ A14.out).mono ?_); rintro e w30 ⟨rfl, hb⟩; have n0_ := Aside0.mk (Kd.V_below (by (with_reducible repeat (first | apply Kd.V_alloc | apply Kd.V_drewN | apply Kd.V_drew)); exact HO1.out) hb); have n1_ := Aside0.mk (Kd.N_below (by (with_reducible repeat (first | apply Kd.N_alloc | apply Kd.N_drewN | apply Kd.N_drew)); exact HO944.out) hb); have n2_ := Aside0.mk (blk_below (g := gb941) (o := .cells #[.int .i64 a0_0, .slice A0_1 l0_1.length c0_1] 24 (0, 0)) (by (with_reducible repeat (first | refine blk_drewN ?_ _ | refine blk_drew ?_ | refine blk_alloc ?_ _)); exact BK941.out) hb); have n3_ := Aside0.mk (below_step (by repeat (first | (with_reducible first | exact HB.out | apply below_alloc | apply pw_below_drewN | apply below_drew1 | refine below_set ?_ GE941.out) | exact HB.out)) hb); clear HO1; clear HO944; clear BK941; clear HB; have HO1 := n0_; have HO944 := n1_; have BK941 := n2_; have HB := n3_; clear n0_ n1_ n2_ n3_; (try clear hb); (try clear hb2); (try clear hk); (try clear hi)))
        go_meet
        case rel => exact ⟨_, (true), (by first | rfl | (simp; done) | (simp [*]; done)), H', ⟨by first | omega | exact Nat.le_refl _⟩, ⟨by (with_reducible repeat (first | apply Kd.V_alloc | apply Kd.V_drewN | apply Kd.V_drew)); exact Kd.V_mono HO1.out (fun _ hk => ⟨hk.1.1, hk.1.2⟩)⟩, ⟨by (with_reducible repeat (first | refine blk_drewN ?_ _ | refine blk_drew ?_ | refine blk_alloc ?_ _)); exact BK941.out⟩, ⟨by repeat (first | (with_reducible first | exact HB.out | apply below_alloc | apply pw_below_drewN | apply below_drew1 | refine below_set ?_ GE941.out) | exact HB.out)⟩⟩
  case rest =>
    clear HC5
    try clear c1
    try clear c2
    try clear p2
    try clear c8
    try clear c15
    try clear c16
    try clear c28
    try clear hcz17_0
    try clear hcz17_1
    try clear hcz23_0
    try clear hcz23_1
    try clear hcz25_0
    try clear hcz25_1
    try clear hcz9_0
    try clear hcz9_1
    try clear hfz17_0
    try clear hfz17_1
    try clear hfz23_0
    try clear hfz23_1
    try clear hfz25_0
    try clear hfz25_1
    try clear hfz9_0
    try clear hfz9_1
    obtain ⟨kq, x37_4, rfl, HA, HJ4, HO_1, BK941, HB⟩ := hcut
    cases kq with
    | zero => exact absurd HA.out (by simp [pylonlaw16_TreeBalance.j0])
    | succ kj4 =>
      have H := HA.out
      clear HA
      simp only [pylonlaw16_TreeBalance.j0] at H
      by_cases c31 : x37_4 = true
      · as_aux_lemma =>
        subst c31
        have H1 : ((pylonlaw16_awake.f).bind fun t948 => (some t948)) = some r := by rw [if_pos rfl] at H; exact H
        clear H
        have H := H1
        clear H1
        replace H := Option.bind_eq_some_iff.mp H
        obtain ⟨t948, A320, H⟩ := H
        replace H : (some t948) = some r := H
        have A32 := Aside0.mk A320
        clear A320
        obtain rfl := Option.some.inj H
        go_wp2_with (first | ((with_reducible refine gate_callee (f := 51) rfl ?_); refine goesL_ (some 38) rfl rfl Try.func51 (by kernel_rfl) rfl #[] rfl (by (try simp only [List.map_toArray, List.map_cons, List.map_nil]); first | done | rfl | (simp only [List.length_drop, List.length_take]; rfl)) ?_; (with_reducible refine (pylonlaw16_awake.calls  t948 _ A32.out).mono ?_); rintro e w33 ⟨rfl, hb⟩; refine ⟨_, rfl, ?_⟩; have n0_ := Aside0.mk (Kd.V_below (by (with_reducible repeat (first | apply Kd.V_alloc | apply Kd.V_drewN | apply Kd.V_drew)); exact HO_1.out) hb); have n1_ := Aside0.mk (blk_below (g := gb941) (o := .cells #[.int .i64 a0_0, .slice A0_1 l0_1.length c0_1] 24 (0, 0)) (by (with_reducible repeat (first | refine blk_drewN ?_ _ | refine blk_drew ?_ | refine blk_alloc ?_ _)); exact BK941.out) hb); have n2_ := Aside0.mk (below_step (by repeat (first | (with_reducible first | exact HB.out | apply below_alloc | apply pw_below_drewN | apply below_drew1 | refine below_set ?_ GE941.out) | exact HB.out)) hb); clear HO_1; clear BK941; clear HB; have HO_1 := n0_; have BK941 := n1_; have HB := n2_; clear n0_ n1_ n2_; (try clear hb); (try clear hb2); (try clear hk); (try clear hi)))
        go_ret
        exact ⟨by first | rfl | (simp [errW_none, errW_some] <;> rfl) | (simp [*, errW_none, errW_some] <;> rfl), by repeat (first | (with_reducible first | exact HB.out | apply below_alloc | apply pw_below_drewN | apply below_drew1 | refine below_set ?_ GE941.out) | exact HB.out)⟩
      · as_aux_lemma =>
        replace c31 := Bool.eq_false_iff.mpr c31
        subst c31
        have H1 : ((tree_Cycles.f kj4 a0_0 l0_1 l1).bind fun bt949 => ((tree_Path.f kj4 a0_0 l0_1 l1 a2 a3).bind fun bt953 => ((tree_Tree.f kj4 a0_0 l0_1 l1).bind fun bt957 => (if bt949.2 = 0 then (if bt957.2 = 0 then (if bt953.2 = 0 then (pylonlaw16_TreeBalance.j1 kj4 l1 a2 a3 bt949.1 bt953.1 bt953.2 bt957.1 false a0_0 l0_1) else (pylonlaw16_TreeBalance.j1 kj4 l1 a2 a3 bt949.1 bt953.1 bt953.2 bt957.1 ((bt953.1.length : Int) != 0) a0_0 l0_1)) else (pylonlaw16_TreeBalance.j1 kj4 l1 a2 a3 bt949.1 bt953.1 bt953.2 bt957.1 true a0_0 l0_1)) else (pylonlaw16_TreeBalance.j1 kj4 l1 a2 a3 bt949.1 bt953.1 bt953.2 bt957.1 true a0_0 l0_1))))) = some r := by rw [if_neg (show ¬ (false = true) by decide)] at H; exact H
        clear H
        have H := H1
        clear H1
        replace H := Option.bind_eq_some_iff.mp H
        obtain ⟨⟨t949, t952⟩, A340, H⟩ := H
        replace H : ((tree_Path.f kj4 a0_0 l0_1 l1 a2 a3).bind fun bt953 => ((tree_Tree.f kj4 a0_0 l0_1 l1).bind fun bt957 => (if t952 = 0 then (if bt957.2 = 0 then (if bt953.2 = 0 then (pylonlaw16_TreeBalance.j1 kj4 l1 a2 a3 t949 bt953.1 bt953.2 bt957.1 false a0_0 l0_1) else (pylonlaw16_TreeBalance.j1 kj4 l1 a2 a3 t949 bt953.1 bt953.2 bt957.1 ((bt953.1.length : Int) != 0) a0_0 l0_1)) else (pylonlaw16_TreeBalance.j1 kj4 l1 a2 a3 t949 bt953.1 bt953.2 bt957.1 true a0_0 l0_1)) else (pylonlaw16_TreeBalance.j1 kj4 l1 a2 a3 t949 bt953.1 bt953.2 bt957.1 true a0_0 l0_1)))) = some r := H
        have A34 := Aside0.mk A340
        clear A340
        replace H := Option.bind_eq_some_iff.mp H
        obtain ⟨⟨t953, t956⟩, A350, H⟩ := H
        replace H : ((tree_Tree.f kj4 a0_0 l0_1 l1).bind fun bt957 => (if t952 = 0 then (if bt957.2 = 0 then (if t956 = 0 then (pylonlaw16_TreeBalance.j1 kj4 l1 a2 a3 t949 t953 t956 bt957.1 false a0_0 l0_1) else (pylonlaw16_TreeBalance.j1 kj4 l1 a2 a3 t949 t953 t956 bt957.1 ((t953.length : Int) != 0) a0_0 l0_1)) else (pylonlaw16_TreeBalance.j1 kj4 l1 a2 a3 t949 t953 t956 bt957.1 true a0_0 l0_1)) else (pylonlaw16_TreeBalance.j1 kj4 l1 a2 a3 t949 t953 t956 bt957.1 true a0_0 l0_1))) = some r := H
        have A35 := Aside0.mk A350
        clear A350
        replace H := Option.bind_eq_some_iff.mp H
        obtain ⟨⟨t957, t960⟩, A360, H⟩ := H
        replace H : (if t952 = 0 then (if t960 = 0 then (if t956 = 0 then (pylonlaw16_TreeBalance.j1 kj4 l1 a2 a3 t949 t953 t956 t957 false a0_0 l0_1) else (pylonlaw16_TreeBalance.j1 kj4 l1 a2 a3 t949 t953 t956 t957 ((t953.length : Int) != 0) a0_0 l0_1)) else (pylonlaw16_TreeBalance.j1 kj4 l1 a2 a3 t949 t953 t956 t957 true a0_0 l0_1)) else (pylonlaw16_TreeBalance.j1 kj4 l1 a2 a3 t949 t953 t956 t957 true a0_0 l0_1)) = some r := H
        have A36 := Aside0.mk A360
        clear A360
        have HC37 := Aside0.mk H
        clear H
        have hcz38_0 : wc.cell? ⟨gb941, 0, none⟩ = some (.int .i64 a0_0) := (blk_cell BK941.out 0).trans rfl
        have hcz38_1 : wc.cell? ⟨gb941, 1, none⟩ = some (.slice A0_1 l0_1.length c0_1) := (blk_cell BK941.out 1).trans rfl
        have hfz38_0 := blk_frozen BK941.out 0
        have hfz38_1 := blk_frozen BK941.out 1
        go_upto_region 6 with (first | ((with_reducible refine gate_callee (f := 57) rfl ?_); refine goesL_ (some 42) rfl rfl Try.func57 (by kernel_rfl) rfl #[.agg #[.int .i64 a0_0, .slice A0_1 l0_1.length c0_1], .slice A1 l1.length c1] rfl (by (try simp only [List.map_toArray, List.map_cons, List.map_nil]); first | done | rfl | (simp only [List.length_drop, List.length_take]; rfl)) ?_; (with_reducible refine (tree_Cycles.calls kj4 a0_0 _ _ l0_1 _ _ l1 t949 t952 _ ?side1 ?side2 ?side3 ?side4 A34.out).mono ?_); (case side1 => repeat (first | exact (Kd.C_below HR0_1.out HB.out) | (with_reducible refine Kd.C_alloc ?_ _) | (with_reducible refine Kd.C_drewN ?_ _) | (with_reducible refine Kd.C_drew ?_))); (case side2 => exact HC0_1.out); (case side3 => repeat (first | exact (Kd.V_reads' HO_1.out).2.2 | (with_reducible refine Kd.C_alloc ?_ _) | (with_reducible refine Kd.C_drewN ?_ _) | (with_reducible refine Kd.C_drew ?_))); (case side4 => exact (Kd.V_reads' HO_1.out).2.1); rintro e w39 ⟨v950, rfl, ho0, hb⟩; refine ⟨_, rfl, ?_⟩; have n0_ := Aside0.mk (Kd.V_elder' (by (with_reducible repeat (first | apply Kd.V_alloc | apply Kd.V_drewN | apply Kd.V_drew)); exact HO_1.out) (Kd.N_base (Kd.S_N ho0)) hb); have n1_ := Aside0.mk (Kd.N_lower (Kd.N_mono (ok' := fun k_ => (P1_ k_ ∨ w.heap.size ≤ k_) ∧ k_ ≠ gb941) (Kd.S_N (Kd.S_bound ho0)) (fun k_ hk_ => ⟨(.inr (Nat.le_trans (below_size (by repeat (first | (with_reducible first | exact HB.out | apply below_alloc | apply pw_below_drewN | apply below_drew1 | refine below_set ?_ GE941.out) | exact HB.out))) hk_.2.1)), (Kd.freshB (g := gb941) (o := .cells #[.int .i64 a0_0, .slice A0_1 l0_1.length c0_1] 24 (0, 0)) (by (with_reducible repeat (first | refine blk_drewN ?_ _ | refine blk_drew ?_ | refine blk_alloc ?_ _)); exact BK941.out) k_ hk_.2.1)⟩)) (below_size (by repeat (first | (with_reducible first | exact HB.out | apply below_alloc | apply pw_below_drewN | apply below_drew1 | refine below_set ?_ GE941.out) | exact HB.out)))); have n2_ := Aside0.mk (blk_below (g := gb941) (o := .cells #[.int .i64 a0_0, .slice A0_1 l0_1.length c0_1] 24 (0, 0)) (by (with_reducible repeat (first | refine blk_drewN ?_ _ | refine blk_drew ?_ | refine blk_alloc ?_ _)); exact BK941.out) hb); have n3_ := Aside0.mk (below_step (by repeat (first | (with_reducible first | exact HB.out | apply below_alloc | apply pw_below_drewN | apply below_drew1 | refine below_set ?_ GE941.out) | exact HB.out)) hb); clear HO_1; clear BK941; clear HB; have HO_1 := n0_; have HO951 := n1_; have BK941 := n2_; have HB := n3_; clear n0_ n1_ n2_ n3_; (try clear hb); (try clear hb2); (try clear hk); (try clear hi); (try clear ho0); have hcz40_0 : w39.cell? ⟨gb941, 0, none⟩ = some (.int .i64 a0_0) := (blk_cell BK941.out 0).trans rfl; have hcz40_1 : w39.cell? ⟨gb941, 1, none⟩ = some (.slice A0_1 l0_1.length c0_1) := (blk_cell BK941.out 1).trans rfl; have hfz40_0 := blk_frozen BK941.out 0; have hfz40_1 := blk_frozen BK941.out 1) | ((with_reducible refine gate_callee (f := 62) rfl ?_); refine goesL_ (some 50) rfl rfl Try.func62 (by kernel_rfl) rfl #[.agg #[.int .i64 a0_0, .slice A0_1 l0_1.length c0_1], .slice A1 l1.length c1, .int .i64 a2, .int .i64 a3] rfl (by (try simp only [List.map_toArray, List.map_cons, List.map_nil]); first | done | rfl | (simp only [List.length_drop, List.length_take]; rfl)) ?_; (with_reducible refine (tree_Path.calls kj4 a0_0 _ _ l0_1 _ _ l1 a2 a3 t953 t956 _ ?side1 ?side2 ?side3 ?side4 A35.out).mono ?_); (case side1 => repeat (first | exact (Kd.C_below HR0_1.out HB.out) | (with_reducible refine Kd.C_alloc ?_ _) | (with_reducible refine Kd.C_drewN ?_ _) | (with_reducible refine Kd.C_drew ?_))); (case side2 => exact HC0_1.out); (case side3 => repeat (first | exact (Kd.V_reads' HO_1.out).2.2 | (with_reducible refine Kd.C_alloc ?_ _) | (with_reducible refine Kd.C_drewN ?_ _) | (with_reducible refine Kd.C_drew ?_))); (case side4 => exact (Kd.V_reads' HO_1.out).2.1); rintro e w41 ⟨v954, rfl, ho0, hb⟩; refine ⟨_, rfl, ?_⟩; have n0_ := Aside0.mk (Kd.V_elder' (by (with_reducible repeat (first | apply Kd.V_alloc | apply Kd.V_drewN | apply Kd.V_drew)); exact HO_1.out) (Kd.R_base ho0) hb); have n1_ := Aside0.mk (Kd.N_elder' (by (with_reducible repeat (first | apply Kd.N_alloc | apply Kd.N_drewN | apply Kd.N_drew)); exact HO951.out) (Kd.R_base ho0) hb); have n2_ := Aside0.mk (Kd.R_lower (Kd.R_newM (M := fun k_ => (w.heap.size ≤ k_)) ho0 (below_size (by repeat (first | (with_reducible first | exact HB.out | apply below_alloc | apply pw_below_drewN | apply below_drew1 | refine below_set ?_ GE941.out) | exact HB.out))) (fun k_ h_ => h_)) (below_size (by repeat (first | (with_reducible first | exact HB.out | apply below_alloc | apply pw_below_drewN | apply below_drew1 | refine below_set ?_ GE941.out) | exact HB.out)))); have n3_ := Aside0.mk (blk_below (g := gb941) (o := .cells #[.int .i64 a0_0, .slice A0_1 l0_1.length c0_1] 24 (0, 0)) (by (with_reducible repeat (first | refine blk_drewN ?_ _ | refine blk_drew ?_ | refine blk_alloc ?_ _)); exact BK941.out) hb); have n4_ := Aside0.mk (below_step (by repeat (first | (with_reducible first | exact HB.out | apply below_alloc | apply pw_below_drewN | apply below_drew1 | refine below_set ?_ GE941.out) | exact HB.out)) hb); clear HO_1; clear HO951; clear BK941; clear HB; have HO_1 := n0_; have HO951 := n1_; have HO955 := n2_; have BK941 := n3_; have HB := n4_; clear n0_ n1_ n2_ n3_ n4_; (try clear hb); (try clear hb2); (try clear hk); (try clear hi); (try clear ho0); have hcz42_0 : w41.cell? ⟨gb941, 0, none⟩ = some (.int .i64 a0_0) := (blk_cell BK941.out 0).trans rfl; have hcz42_1 : w41.cell? ⟨gb941, 1, none⟩ = some (.slice A0_1 l0_1.length c0_1) := (blk_cell BK941.out 1).trans rfl; have hfz42_0 := blk_frozen BK941.out 0; have hfz42_1 := blk_frozen BK941.out 1) | ((with_reducible refine gate_callee (f := 56) rfl ?_); refine goesL_ (some 56) rfl rfl Try.func56 (by kernel_rfl) rfl #[.agg #[.int .i64 a0_0, .slice A0_1 l0_1.length c0_1], .slice A1 l1.length c1] rfl (by (try simp only [List.map_toArray, List.map_cons, List.map_nil]); first | done | rfl | (simp only [List.length_drop, List.length_take]; rfl)) ?_; (with_reducible refine (tree_Tree.calls kj4 a0_0 _ _ l0_1 _ _ l1 t957 t960 _ ?side1 ?side2 ?side3 ?side4 A36.out).mono ?_); (case side1 => repeat (first | exact (Kd.C_below HR0_1.out HB.out) | (with_reducible refine Kd.C_alloc ?_ _) | (with_reducible refine Kd.C_drewN ?_ _) | (with_reducible refine Kd.C_drew ?_))); (case side2 => exact HC0_1.out); (case side3 => repeat (first | exact (Kd.V_reads' HO_1.out).2.2 | (with_reducible refine Kd.C_alloc ?_ _) | (with_reducible refine Kd.C_drewN ?_ _) | (with_reducible refine Kd.C_drew ?_))); (case side4 => exact (Kd.V_reads' HO_1.out).2.1); rintro e w43 ⟨v958, rfl, ho0, hb⟩; refine ⟨_, rfl, ?_⟩; have n0_ := Aside0.mk (Kd.V_elder' (by (with_reducible repeat (first | apply Kd.V_alloc | apply Kd.V_drewN | apply Kd.V_drew)); exact HO_1.out) (Kd.R_base ho0) hb); have n1_ := Aside0.mk (Kd.N_elder' (by (with_reducible repeat (first | apply Kd.N_alloc | apply Kd.N_drewN | apply Kd.N_drew)); exact HO951.out) (Kd.R_base ho0) hb); have n2_ := Aside0.mk (Kd.R_elder' (by (with_reducible repeat (first | apply Kd.R_alloc | apply Kd.R_drewN | apply Kd.R_drew)); exact HO955.out) (Kd.R_base ho0) hb); have n3_ := Aside0.mk (Kd.R_lower (Kd.R_new' (Kd.R_newM (M := fun k_ => (w.heap.size ≤ k_)) ho0 (below_size (by repeat (first | (with_reducible first | exact HB.out | apply below_alloc | apply pw_below_drewN | apply below_drew1 | refine below_set ?_ GE941.out) | exact HB.out))) (fun k_ h_ => h_)) (Kd.R_lt (by (with_reducible repeat (first | apply Kd.R_alloc | apply Kd.R_drewN | apply Kd.R_drew)); exact HO955.out))) (below_size (by repeat (first | (with_reducible first | exact HB.out | apply below_alloc | apply pw_below_drewN | apply below_drew1 | refine below_set ?_ GE941.out) | exact HB.out)))); have n4_ := Aside0.mk (blk_below (g := gb941) (o := .cells #[.int .i64 a0_0, .slice A0_1 l0_1.length c0_1] 24 (0, 0)) (by (with_reducible repeat (first | refine blk_drewN ?_ _ | refine blk_drew ?_ | refine blk_alloc ?_ _)); exact BK941.out) hb); have n5_ := Aside0.mk (below_step (by repeat (first | (with_reducible first | exact HB.out | apply below_alloc | apply pw_below_drewN | apply below_drew1 | refine below_set ?_ GE941.out) | exact HB.out)) hb); clear HO_1; clear HO951; clear HO955; clear BK941; clear HB; have HO_1 := n0_; have HO951 := n1_; have HO955 := n2_; have HO959 := n3_; have BK941 := n4_; have HB := n5_; clear n0_ n1_ n2_ n3_ n4_ n5_; (try clear hb); (try clear hb2); (try clear hk); (try clear hi); (try clear ho0)))
        (try simp only [Act.put, List.setIfInBounds_toArray, List.set_cons_zero, List.set_cons_succ])
        go_cut [73] (fun v73 wc => ∃ (kq : Nat) (x73_36 : Bool), v73 = .bool x73_36 ∧ Aside0 (pylonlaw16_TreeBalance.j1 kq l1 a2 a3 t949 t953 t956 t957 x73_36 a0_0 l0_1 = some r) ∧ Aside0 (kq ≤ kj4) ∧ Aside0 (Kd.V (Kd.int .i64) 3 wc w.heap.size (fun k_ => (P1_ k_ ∨ w.heap.size ≤ k_) ∧ some k_ ≠ (v950 : Value).ownBlock ∧ some k_ ≠ (v954 : Value).ownBlock ∧ some k_ ≠ (v958 : Value).ownBlock ∧ k_ ≠ gb941) (.slice A1 l1.length c1) l1) ∧ Aside0 (Kd.N (Kd.slice 3 (Kd.int .i64)) 25 wc w.heap.size (fun k_ => (P1_ k_ ∨ w.heap.size ≤ k_) ∧ some k_ ≠ (v954 : Value).ownBlock ∧ some k_ ≠ (v958 : Value).ownBlock ∧ k_ ≠ gb941) v950 t949) ∧ Aside0 (Kd.R (Kd.int .i64) 3 wc w.heap.size (fun k_ => (w.heap.size ≤ k_) ∧ some k_ ≠ (v958 : Value).ownBlock) v954 t953) ∧ Aside0 (Kd.R (Kd.int .i64) 3 wc w.heap.size (fun k_ => (w.heap.size ≤ k_) ∧ some k_ ≠ (v954 : Value).ownBlock) v958 t957) ∧ Aside0 (wc.heap[gb941]? = some (.cells #[.int .i64 a0_0, (.slice A0_1 l0_1.length c0_1)] 24 (0, 0))) ∧ Aside0 (Below w.heap.size w wc))
        case first =>
          have H := HC37.out
          clear HC37
          by_cases c44 : t952 = 0
          · rw [if_pos c44] at H
            have c44b0 : (t952 == 0) = true := beq_iff_eq.mpr c44
            have c44b1 : (t952 != 0) = false := bne_eq_false_iff_eq.mpr c44
            clear c44
            (first | rw [c44b0] | (simp only [i64_w, i32_w]; rw [c44b0]) | skip)
            by_cases c45 : t960 = 0
            · rw [if_pos c45] at H
              have c45b0 : (t960 == 0) = true := beq_iff_eq.mpr c45
              have c45b1 : (t960 != 0) = false := bne_eq_false_iff_eq.mpr c45
              clear c45
              by_cases c46 : t956 = 0
              · rw [if_pos c46] at H
                have c46b0 : (t956 == 0) = true := beq_iff_eq.mpr c46
                have c46b1 : (t956 != 0) = false := bne_eq_false_iff_eq.mpr c46
                clear c46
                have H' := Aside0.mk H
                clear H
                go_wp2
                go_meet
                case rel => exact ⟨_, (false), (by first | rfl | (simp; done) | (simp [*]; done)), H', ⟨by have := HJ4.out; first | omega | exact Nat.le_refl _⟩, ⟨by (with_reducible repeat (first | apply Kd.V_alloc | apply Kd.V_drewN | apply Kd.V_drew)); exact Kd.V_mono HO_1.out (fun _ hk => ⟨hk.1.1.1.1, ⟨hk.1.1.2, ⟨hk.1.2, ⟨hk.2, hk.1.1.1.2⟩⟩⟩⟩)⟩, ⟨by (with_reducible repeat (first | apply Kd.N_alloc | apply Kd.N_drewN | apply Kd.N_drew)); exact Kd.N_mono HO951.out (fun _ hk => ⟨hk.1.1.1, ⟨hk.1.2, ⟨hk.2, hk.1.1.2⟩⟩⟩)⟩, ⟨by (with_reducible repeat (first | apply Kd.R_alloc | apply Kd.R_drewN | apply Kd.R_drew)); exact Kd.R_mono HO955.out (fun _ hk => ⟨hk.1.1, hk.2⟩)⟩, ⟨by (with_reducible repeat (first | apply Kd.R_alloc | apply Kd.R_drewN | apply Kd.R_drew)); exact Kd.R_mono HO959.out (fun _ hk => ⟨hk.1.1, hk.2⟩)⟩, ⟨by (with_reducible repeat (first | refine blk_drewN ?_ _ | refine blk_drew ?_ | refine blk_alloc ?_ _)); exact BK941.out⟩, ⟨by repeat (first | (with_reducible first | exact HB.out | apply below_alloc | apply pw_below_drewN | apply below_drew1 | refine below_set ?_ GE941.out) | exact HB.out)⟩⟩
              · rw [if_neg c46] at H
                have c46b0 : (t956 == 0) = false := beq_eq_false_iff_ne.mpr c46
                have c46b1 : (t956 != 0) = true := bne_iff_ne.mpr c46
                have H' := Aside0.mk H
                clear H
                obtain ⟨Ao47, co47, eo47⟩ := Kd.R_slice HO955.out
                subst eo47
                go_wp2
                go_meet
                case rel => exact ⟨_, (((t953.length : Int) != 0)), (by first | rfl | (simp; done) | (simp [*]; done)), H', ⟨by have := HJ4.out; first | omega | exact Nat.le_refl _⟩, ⟨by (with_reducible repeat (first | apply Kd.V_alloc | apply Kd.V_drewN | apply Kd.V_drew)); exact Kd.V_mono HO_1.out (fun _ hk => ⟨hk.1.1.1.1, ⟨hk.1.1.2, ⟨hk.1.2, ⟨hk.2, hk.1.1.1.2⟩⟩⟩⟩)⟩, ⟨by (with_reducible repeat (first | apply Kd.N_alloc | apply Kd.N_drewN | apply Kd.N_drew)); exact Kd.N_mono HO951.out (fun _ hk => ⟨hk.1.1.1, ⟨hk.1.2, ⟨hk.2, hk.1.1.2⟩⟩⟩)⟩, ⟨by (with_reducible repeat (first | apply Kd.R_alloc | apply Kd.R_drewN | apply Kd.R_drew)); exact Kd.R_mono HO955.out (fun _ hk => ⟨hk.1.1, hk.2⟩)⟩, ⟨by (with_reducible repeat (first | apply Kd.R_alloc | apply Kd.R_drewN | apply Kd.R_drew)); exact Kd.R_mono HO959.out (fun _ hk => ⟨hk.1.1, hk.2⟩)⟩, ⟨by (with_reducible repeat (first | refine blk_drewN ?_ _ | refine blk_drew ?_ | refine blk_alloc ?_ _)); exact BK941.out⟩, ⟨by repeat (first | (with_reducible first | exact HB.out | apply below_alloc | apply pw_below_drewN | apply below_drew1 | refine below_set ?_ GE941.out) | exact HB.out)⟩⟩
            · rw [if_neg c45] at H
              have c45b0 : (t960 == 0) = false := beq_eq_false_iff_ne.mpr c45
              have c45b1 : (t960 != 0) = true := bne_iff_ne.mpr c45
              have H' := Aside0.mk H
              clear H
              go_wp2
              go_meet
              case rel => exact ⟨_, (true), (by first | rfl | (simp; done) | (simp [*]; done)), H', ⟨by have := HJ4.out; first | omega | exact Nat.le_refl _⟩, ⟨by (with_reducible repeat (first | apply Kd.V_alloc | apply Kd.V_drewN | apply Kd.V_drew)); exact Kd.V_mono HO_1.out (fun _ hk => ⟨hk.1.1.1.1, ⟨hk.1.1.2, ⟨hk.1.2, ⟨hk.2, hk.1.1.1.2⟩⟩⟩⟩)⟩, ⟨by (with_reducible repeat (first | apply Kd.N_alloc | apply Kd.N_drewN | apply Kd.N_drew)); exact Kd.N_mono HO951.out (fun _ hk => ⟨hk.1.1.1, ⟨hk.1.2, ⟨hk.2, hk.1.1.2⟩⟩⟩)⟩, ⟨by (with_reducible repeat (first | apply Kd.R_alloc | apply Kd.R_drewN | apply Kd.R_drew)); exact Kd.R_mono HO955.out (fun _ hk => ⟨hk.1.1, hk.2⟩)⟩, ⟨by (with_reducible repeat (first | apply Kd.R_alloc | apply Kd.R_drewN | apply Kd.R_drew)); exact Kd.R_mono HO959.out (fun _ hk => ⟨hk.1.1, hk.2⟩)⟩, ⟨by (with_reducible repeat (first | refine blk_drewN ?_ _ | refine blk_drew ?_ | refine blk_alloc ?_ _)); exact BK941.out⟩, ⟨by repeat (first | (with_reducible first | exact HB.out | apply below_alloc | apply pw_below_drewN | apply below_drew1 | refine below_set ?_ GE941.out) | exact HB.out)⟩⟩
          · rw [if_neg c44] at H
            have c44b0 : (t952 == 0) = false := beq_eq_false_iff_ne.mpr c44
            have c44b1 : (t952 != 0) = true := bne_iff_ne.mpr c44
            (first | rw [c44b0] | (simp only [i64_w, i32_w]; rw [c44b0]) | skip)
            have H' := Aside0.mk H
            clear H
            go_wp2
            go_meet
            case rel => exact ⟨_, (true), (by first | rfl | (simp; done) | (simp [*]; done)), H', ⟨by have := HJ4.out; first | omega | exact Nat.le_refl _⟩, ⟨by (with_reducible repeat (first | apply Kd.V_alloc | apply Kd.V_drewN | apply Kd.V_drew)); exact Kd.V_mono HO_1.out (fun _ hk => ⟨hk.1.1.1.1, ⟨hk.1.1.2, ⟨hk.1.2, ⟨hk.2, hk.1.1.1.2⟩⟩⟩⟩)⟩, ⟨by (with_reducible repeat (first | apply Kd.N_alloc | apply Kd.N_drewN | apply Kd.N_drew)); exact Kd.N_mono HO951.out (fun _ hk => ⟨hk.1.1.1, ⟨hk.1.2, ⟨hk.2, hk.1.1.2⟩⟩⟩)⟩, ⟨by (with_reducible repeat (first | apply Kd.R_alloc | apply Kd.R_drewN | apply Kd.R_drew)); exact Kd.R_mono HO955.out (fun _ hk => ⟨hk.1.1, hk.2⟩)⟩, ⟨by (with_reducible repeat (first | apply Kd.R_alloc | apply Kd.R_drewN | apply Kd.R_drew)); exact Kd.R_mono HO959.out (fun _ hk => ⟨hk.1.1, hk.2⟩)⟩, ⟨by (with_reducible repeat (first | refine blk_drewN ?_ _ | refine blk_drew ?_ | refine blk_alloc ?_ _)); exact BK941.out⟩, ⟨by repeat (first | (with_reducible first | exact HB.out | apply below_alloc | apply pw_below_drewN | apply below_drew1 | refine below_set ?_ GE941.out) | exact HB.out)⟩⟩
        case rest =>
          clear HC37
          try clear c1
          try clear c2
          try clear p2
          try clear c3
          try clear c4
          try clear c5
          try clear c6
          try clear c8
          try clear c15
          try clear c16
          try clear c28
          try clear c31
          try clear c44
          try clear c44b0
          try clear c44b1
          try clear c45
          try clear c45b0
          try clear c45b1
          try clear c46
          try clear c46b0
          try clear c46b1
          try clear hcz17_0
          try clear hcz17_1
          try clear hcz23_0
          try clear hcz23_1
          try clear hcz25_0
          try clear hcz25_1
          try clear hcz38_0
          try clear hcz38_1
          try clear hcz40_0
          try clear hcz40_1
          try clear hcz42_0
          try clear hcz42_1
          try clear hcz9_0
          try clear hcz9_1
          try clear hfz17_0
          try clear hfz17_1
          try clear hfz23_0
          try clear hfz23_1
          try clear hfz25_0
          try clear hfz25_1
          try clear hfz38_0
          try clear hfz38_1
          try clear hfz40_0
          try clear hfz40_1
          try clear hfz42_0
          try clear hfz42_1
          try clear hfz9_0
          try clear hfz9_1
          try clear p2
          obtain ⟨kq, x73_36, rfl, HA, HJ36, HO_1, HO_9, HO_11, HO_13, BK941, HB⟩ := hcut
          cases kq with
          | zero => exact absurd HA.out (by simp [pylonlaw16_TreeBalance.j1])
          | succ kj36 =>
            have H := HA.out
            clear HA
            simp only [pylonlaw16_TreeBalance.j1] at H
            by_cases c48 : x73_36 = true
            · as_aux_lemma =>
              subst c48
              have H1 : (some false) = some r := by rw [if_pos rfl] at H; exact H
              clear H
              have H := H1
              clear H1
              obtain rfl := Option.some.inj H
              go_wp2
              go_ret
              exact ⟨by first | rfl | (simp [errW_none, errW_some] <;> rfl) | (simp [*, errW_none, errW_some] <;> rfl), by repeat (first | (with_reducible first | exact HB.out | apply below_alloc | apply pw_below_drewN | apply below_drew1 | refine below_set ?_ GE941.out) | exact HB.out)⟩
            · as_aux_lemma =>
              replace c48 := Bool.eq_false_iff.mpr c48
              subst c48
              have H1 : (pylonlaw16_TreeBalance.l0 kj36 l1 a2 a3 t949 t953 t956 t957 0 a0_0 l0_1) = some r := by rw [if_neg (show ¬ (false = true) by decide)] at H; exact H
              clear H
              have H := H1
              clear H1
              have H' := Aside0.mk H
              clear H
              go_wp2
              go_loopg [15] kj36 (fun kq v15 w' => ∃ (x15_3 : Int), v15 = .int .i64 x15_3 ∧ Aside0 (pylonlaw16_TreeBalance.l0 kq l1 a2 a3 t949 t953 t956 t957 x15_3 a0_0 l0_1 = some r) ∧ Aside0 (kq ≤ kj36) ∧ Aside0 (Kd.V (Kd.int .i64) 3 w' w.heap.size (fun k_ => (P1_ k_ ∨ w.heap.size ≤ k_) ∧ some k_ ≠ (v950 : Value).ownBlock ∧ some k_ ≠ (v954 : Value).ownBlock ∧ some k_ ≠ (v958 : Value).ownBlock ∧ k_ ≠ gb941) (.slice A1 l1.length c1) l1) ∧ Aside0 (Kd.N (Kd.slice 3 (Kd.int .i64)) 25 w' w.heap.size (fun k_ => (P1_ k_ ∨ w.heap.size ≤ k_) ∧ some k_ ≠ (v954 : Value).ownBlock ∧ some k_ ≠ (v958 : Value).ownBlock ∧ k_ ≠ gb941) v950 t949) ∧ Aside0 (Kd.R (Kd.int .i64) 3 w' w.heap.size (fun k_ => (w.heap.size ≤ k_) ∧ some k_ ≠ (v958 : Value).ownBlock) v954 t953) ∧ Aside0 (Kd.R (Kd.int .i64) 3 w' w.heap.size (fun k_ => (w.heap.size ≤ k_) ∧ some k_ ≠ (v954 : Value).ownBlock) v958 t957) ∧ Aside0 (w'.heap[gb941]? = some (.cells #[.int .i64 a0_0, (.slice A0_1 l0_1.length c0_1)] 24 (0, 0))) ∧ Aside0 (Below w.heap.size w w'))
              case atStart => exact ⟨(0), (by first | rfl | (simp; done) | (simp [*]; done)), H', ⟨Nat.le_refl _⟩, ⟨by (with_reducible repeat (first | apply Kd.V_alloc | apply Kd.V_drewN | apply Kd.V_drew)); exact HO_1.out⟩, ⟨by (with_reducible repeat (first | apply Kd.N_alloc | apply Kd.N_drewN | apply Kd.N_drew)); exact HO_9.out⟩, ⟨by (with_reducible repeat (first | apply Kd.R_alloc | apply Kd.R_drewN | apply Kd.R_drew)); exact HO_11.out⟩, ⟨by (with_reducible repeat (first | apply Kd.R_alloc | apply Kd.R_drewN | apply Kd.R_drew)); exact HO_13.out⟩, ⟨by (with_reducible repeat (first | refine blk_drewN ?_ _ | refine blk_drew ?_ | refine blk_alloc ?_ _)); exact BK941.out⟩, ⟨by repeat (first | (with_reducible first | exact HB.out | apply below_alloc | apply pw_below_drewN | apply below_drew1 | refine below_set ?_ GE941.out) | exact HB.out)⟩⟩
              case round => as_aux_lemma =>
                clear H'
                try clear c1
                try clear c2
                try clear p2
                try clear c3
                try clear c4
                try clear c5
                try clear c6
                try clear c8
                try clear c15
                try clear c16
                try clear c28
                try clear c31
                try clear c44
                try clear c44b0
                try clear c44b1
                try clear c45
                try clear c45b0
                try clear c45b1
                try clear c46
                try clear c46b0
                try clear c46b1
                try clear c48
                try clear hcz17_0
                try clear hcz17_1
                try clear hcz23_0
                try clear hcz23_1
                try clear hcz25_0
                try clear hcz25_1
                try clear hcz38_0
                try clear hcz38_1
                try clear hcz40_0
                try clear hcz40_1
                try clear hcz42_0
                try clear hcz42_1
                try clear hcz9_0
                try clear hcz9_1
                try clear hfz17_0
                try clear hfz17_1
                try clear hfz23_0
                try clear hfz23_1
                try clear hfz25_0
                try clear hfz25_1
                try clear hfz38_0
                try clear hfz38_1
                try clear hfz40_0
                try clear hfz40_1
                try clear hfz42_0
                try clear hfz42_1
                try clear hfz9_0
                try clear hfz9_1
                try clear p2
                obtain ⟨x15_3, rfl, HA, HK3, HO_1, HO_9, HO_11, HO_13, BK941, HB⟩ := hrel
                cases gk with
                | zero => exact absurd HA.out (by simp [pylonlaw16_TreeBalance.l0])
                | succ k3 =>
                  have H := HA.out
                  clear HA
                  simp only [pylonlaw16_TreeBalance.l0] at H
                  by_cases c49 : x15_3 < (t949.length : Int)
                  · rw [if_pos c49] at H
                    have c49b0 : decide (x15_3 < (t949.length : Int)) = true := decide_eq_true c49
                    clear c49
                    by_cases c50 : 0 ≤ x15_3
                    · rw [if_pos c50] at H
                      have c50b0 : decide (0 ≤ x15_3) = true := decide_eq_true c50
                      clear c50
                      replace H := Option.bind_eq_some_iff.mp H
                      obtain ⟨⟨t962, t965⟩, A510, H⟩ := H
                      replace H : (pylonlaw16_TreeBalance.l1 k3 l1 a2 a3 t949 t953 t956 t957 x15_3 t962 t965 0 a0_0 l0_1) = some r := H
                      have A51 := Aside0.mk A510
                      clear A510
                      have H' := Aside0.mk H
                      clear H
                      obtain ⟨Ao52, co52, eo52⟩ := Kd.N_slice HO_9.out
                      subst eo52
                      try go_wp2
                      have n0_ := Aside0.mk (Kd.V_drew HO_1.out)
                      have n1_ := Aside0.mk (Kd.N_drew HO_9.out)
                      have n2_ := Aside0.mk (Kd.R_drew HO_11.out)
                      have n3_ := Aside0.mk (Kd.R_drew HO_13.out)
                      have n4_ := Aside0.mk (blk_drew BK941.out)
                      have n5_ := Aside0.mk (below_drew1 HB.out)
                      clear HO_1
                      clear HO_9
                      clear HO_11
                      clear HO_13
                      clear BK941
                      clear HB
                      have HO_1 := n0_
                      have HO_9 := n1_
                      have HO_11 := n2_
                      have HO_13 := n3_
                      have BK941 := n4_
                      have HB := n5_
                      clear n0_ n1_ n2_ n3_ n4_ n5_
                      have p961 : 0 ≤ (x15_3 : Int) := of_decide_eq_true (by first | (with_reducible assumption) | assumption)
                      have q961 : x15_3 < (t949.length : Int) := of_decide_eq_true (by first | (with_reducible assumption) | assumption)
                      obtain ⟨ad961, A961_0, c961_0, e961, hx961_0, hl961_0, hi961_0⟩ := at_L1 (Kd.N_reads' HO_9.out).2.2 x15_3 p961 q961
                      cases e961
                      obtain ⟨ce961, hce961, hMe961, hcc961⟩ := Kd.N_get HO_9.out [] x15_3 p961 (by first | exact q961 | exact of_decide_eq_true (by first | (with_reducible assumption) | assumption) | (have e_ := (Kd.N_reads' HO_9.out).1; omega))
                      obtain ⟨ua961_0, uc961_0, rfl, ul961_0, ge961_0⟩ := Kd.FK_slice_open hMe961
                      have hv961_0 := hcc961 0 _ rfl
                      rw [Nat.add_zero, show ((Kd.slice 3 (Kd.int .i64))).sz = 1 from rfl, Nat.mul_one] at hv961_0
                      replace hv961_0 := Option.some.inj (hv961_0.symm.trans hx961_0)
                      injection hv961_0 with hva_ hvn_ hvc_
                      rw [hva_] at ge961_0
                      rw [hvc_] at ul961_0
                      have HL961_0 := Aside0.mk (show Kd.V (Kd.int .i64) 3 _ w.heap.size _ _ (rd_L1 t949 x15_3) from Kd.V_mk ul961_0 ge961_0)
                      clear hva_ hvn_ hvc_ ge961_0 ul961_0
                      clear hcc961 hce961
                      have HR961_0 := Aside0.mk hi961_0
                      have HC961_0 := Aside0.mk hl961_0
                      clear hi961_0 hl961_0
                      replace p961 := eq_true p961
                      replace q961 := eq_true q961
                      refine start_ (n := 11) (S := fun w' => w'.cell? ⟨gb941, 0, none⟩ = some (.int .i64 a0_0) ∧ w'.cell? ⟨gb941, 1, none⟩ = some (.slice A0_1 l0_1.length c0_1) ∧ w'.cell? (ad961.add (x15_3).toNat) = some (.slice A961_0 (rd_L1 t949 x15_3).length c961_0)) (ds := []) #[false, false, false, false, false, false, false, false, false, false, false] (by kernel_rfl) rfl rfl ⟨(blk_cell BK941.out 0).trans rfl, (blk_cell BK941.out 1).trans rfl, hx961_0⟩ (fun hHeld => ?_); refine with_tabW pylonlaw16_TreeBalance.tab11 pylonlaw16_TreeBalance.bits11 (fun HT_ HW_ => ?_)
                      generalize wr.drew = w53 at HO_1 HO_9 HO_11 HO_13 BK941 HB HL961_0 HR961_0 hx961_0 hHeld ⊢
                      refine pure_ (i := 1) (N := some 82) (v := ?_) (a' := ?_) #[false, true, false, false, false, false, false, false, false, false, false] rfl rfl (any_of HT_.out (by kernel_rfl)) (fun _ _ _ h => h) (Or.inl ⟨by rfl, ?_⟩) ?_ ?_
                      rotate_left
                      · intro w'
                        go_simp
                        with_reducible rfl
                      rotate_left
                      · simp only [Act.put, List.setIfInBounds_toArray, List.set_cons_zero, List.set_cons_succ, i64_w, i32_w]
                        rfl
                      refine pure_ (i := 2) (N := some 83) (v := ?_) (a' := ?_) #[false, true, true, false, false, false, false, false, false, false, false] rfl rfl (any_of HT_.out (by kernel_rfl)) (fun _ _ _ h => h) (Or.inl ⟨by rfl, ?_⟩) ?_ ?_
                      rotate_left
                      · intro w'
                        go_simp
                        with_reducible rfl
                      rotate_left
                      · simp only [Act.put, List.setIfInBounds_toArray, List.set_cons_zero, List.set_cons_succ, i64_w, i32_w]
                        rfl
                      refine pure_ (i := 3) (N := some 84) (v := ?_) (a' := ?_) #[false, true, true, true, false, false, false, false, false, false, false] rfl rfl (any_of HT_.out (by kernel_rfl)) (fun _ _ _ h => h) (Or.inl ⟨by rfl, ?_⟩) ?_ ?_
                      rotate_left
                      · intro w'
                        go_simp
                        with_reducible rfl
                      rotate_left
                      · simp only [Act.put, List.setIfInBounds_toArray, List.set_cons_zero, List.set_cons_succ, i64_w, i32_w]
                        rfl
                      refine take_ (i := 0) (N := some 81) (v := ?_) (a' := ?_) #[true, true, true, true, false, false, false, false, false, false, false] rfl rfl (take_ofW HT_.out HW_.out (by kernel_rfl)) (fun _ _ _ h => h) (Or.inl ⟨by rfl, ?_⟩) hHeld ?_ ?_
                      rotate_left
                      · rintro w' ⟨s0, s1, s2⟩
                        go_simp
                        with_reducible rfl
                      rotate_left
                      · simp only [Act.put, List.setIfInBounds_toArray, List.set_cons_zero, List.set_cons_succ, i64_w, i32_w]
                        rfl
                      refine take_ (i := 4) (N := some 85) (v := ?_) (a' := ?_) #[true, true, true, true, true, false, false, false, false, false, false] rfl rfl (take_ofW HT_.out HW_.out (by kernel_rfl)) (fun _ _ _ h => h) (Or.inl ⟨by rfl, ?_⟩) hHeld ?_ ?_
                      rotate_left
                      · rintro w' ⟨s0, s1, s2⟩
                        go_simp
                        with_reducible rfl
                      rotate_left
                      · simp only [Act.put, List.setIfInBounds_toArray, List.set_cons_zero, List.set_cons_succ, i64_w, i32_w]
                        rfl
                      refine one_ (i := 5) (N := some 86) #[true, true, true, true, true, true, false, false, false, false, false] rfl rfl (one_of HT_.out (by kernel_rfl)) (by decide) (fun K hK => ?_)
                      refine goes_ Try.func65 (by kernel_rfl) rfl #[.agg #[.int .i64 a0_0, .slice A0_1 l0_1.length c0_1], .slice A961_0 (rd_L1 t949 x15_3).length c961_0] (by rfl) rfl rfl (by (try simp only [List.map_toArray, List.map_cons, List.map_nil]); first | done | rfl | (simp only [List.length_drop, List.length_take]; rfl)) ?_
                      with_reducible refine (pylonlaw16_balance.calls k3 a0_0 _ _ l0_1 _ _ (rd_L1 t949 x15_3) t962 t965 _ ?side1 ?side2 ?side3 ?side4 A51.out).mono ?_
                      (case side1 => repeat (first | exact (Kd.C_below HR0_1.out HB.out) | (with_reducible refine Kd.C_alloc ?_ _) | (with_reducible refine Kd.C_drewN ?_ _) | (with_reducible refine Kd.C_drew ?_)))
                      (case side2 => exact HC0_1.out)
                      (case side3 => repeat (first | exact (by repeat (first | (with_reducible exact HR961_0.out) | (with_reducible refine Kd.C_alloc ?_ _) | (with_reducible refine Kd.C_drewN ?_ _) | (with_reducible refine Kd.C_drew ?_) | exact HR961_0.out)) | (with_reducible refine Kd.C_alloc ?_ _) | (with_reducible refine Kd.C_drewN ?_ _) | (with_reducible refine Kd.C_drew ?_)))
                      (case side4 => exact HC961_0.out)
                      rintro e w54 ⟨v963, rfl, ho0, hb⟩
                      have HS2_ := (hb.cell (World.block_lt_of_cell? _ _ (hHeld.2.2))).trans (hHeld.2.2)
                      refine ⟨_, rfl, ?_⟩
                      have n0_ := Aside0.mk (Kd.V_elder' (by (with_reducible repeat (first | apply Kd.V_alloc | apply Kd.V_drewN | apply Kd.V_drew)); exact HO_1.out) (Kd.R_base ho0) hb)
                      have n1_ := Aside0.mk (Kd.N_elder' (by (with_reducible repeat (first | apply Kd.N_alloc | apply Kd.N_drewN | apply Kd.N_drew)); exact HO_9.out) (Kd.R_base ho0) hb)
                      have n2_ := Aside0.mk (Kd.R_elder' (by (with_reducible repeat (first | apply Kd.R_alloc | apply Kd.R_drewN | apply Kd.R_drew)); exact HO_11.out) (Kd.R_base ho0) hb)
                      have n3_ := Aside0.mk (Kd.R_elder' (by (with_reducible repeat (first | apply Kd.R_alloc | apply Kd.R_drewN | apply Kd.R_drew)); exact HO_13.out) (Kd.R_base ho0) hb)
                      have n4_ := Aside0.mk (Kd.V_elder' (by (with_reducible repeat (first | apply Kd.V_alloc | apply Kd.V_drewN | apply Kd.V_drew)); exact HL961_0.out) (Kd.R_base ho0) hb)
                      have n5_ := Aside0.mk (Kd.R_lower (Kd.R_new' (Kd.R_new' (Kd.R_newM (M := fun k_ => (w.heap.size ≤ k_)) ho0 (below_size (by repeat (first | (with_reducible first | exact HB.out | apply below_alloc | apply pw_below_drewN | apply below_drew1 | refine below_set ?_ GE941.out) | exact HB.out))) (fun k_ h_ => h_)) (Kd.R_lt (by (with_reducible repeat (first | apply Kd.R_alloc | apply Kd.R_drewN | apply Kd.R_drew)); exact HO_11.out))) (Kd.R_lt (by (with_reducible repeat (first | apply Kd.R_alloc | apply Kd.R_drewN | apply Kd.R_drew)); exact HO_13.out))) (below_size (by repeat (first | (with_reducible first | exact HB.out | apply below_alloc | apply pw_below_drewN | apply below_drew1 | refine below_set ?_ GE941.out) | exact HB.out))))
                      have n6_ := Aside0.mk (blk_below (g := gb941) (o := .cells #[.int .i64 a0_0, .slice A0_1 l0_1.length c0_1] 24 (0, 0)) (by (with_reducible repeat (first | refine blk_drewN ?_ _ | refine blk_drew ?_ | refine blk_alloc ?_ _)); exact BK941.out) hb)
                      have n7_ := Aside0.mk (Kd.C_below (by repeat (first | (with_reducible exact HR961_0.out) | (with_reducible refine Kd.C_alloc ?_ _) | (with_reducible refine Kd.C_drewN ?_ _) | (with_reducible refine Kd.C_drew ?_) | exact HR961_0.out)) hb)
                      have n8_ := Aside0.mk (below_step (by repeat (first | (with_reducible first | exact HB.out | apply below_alloc | apply pw_below_drewN | apply below_drew1 | refine below_set ?_ GE941.out) | exact HB.out)) hb)
                      clear HO_1
                      clear HO_9
                      clear HO_11
                      clear HO_13
                      clear HL961_0
                      clear BK941
                      clear HR961_0
                      clear HB
                      have HO_1 := n0_
                      have HO_9 := n1_
                      have HO_11 := n2_
                      have HO_13 := n3_
                      have HL961_0 := n4_
                      have HO964 := n5_
                      have BK941 := n6_
                      have HR961_0 := n7_
                      have HB := n8_
                      clear n0_ n1_ n2_ n3_ n4_ n5_ n6_ n7_ n8_
                      (try clear hb)
                      (try clear hb2)
                      (try clear hk)
                      (try clear hi)
                      (try clear ho0)
                      refine hK.out _ _ ⟨(blk_cell BK941.out 0).trans rfl, (blk_cell BK941.out 1).trans rfl, HS2_⟩ (fun hHeld => ?_)
                      clear hK K
                      refine norm_ (a' := ?_) ?_ ?_
                      rotate_left
                      · show Act.put _ (some 86) _ = _
                        simp only [Act.put, List.setIfInBounds_toArray, List.set_cons_zero, List.set_cons_succ, i64_w, i32_w]
                        rfl
                      refine pure_ (i := 6) (N := some 80) (v := ?_) (a' := ?_) #[true, true, true, true, true, true, true, false, false, false, false] rfl rfl (any_of HT_.out (by kernel_rfl)) (fun _ _ _ h => h) (Or.inl ⟨by rfl, ?_⟩) ?_ ?_
                      rotate_left
                      · intro w'
                        go_simp
                        with_reducible rfl
                      rotate_left
                      · simp only [Act.put, List.setIfInBounds_toArray, List.set_cons_zero, List.set_cons_succ, i64_w, i32_w]
                        rfl
                      refine pure_ (i := 7) (N := some 87) (v := ?_) (a' := ?_) #[true, true, true, true, true, true, true, true, false, false, false] rfl rfl (any_of HT_.out (by kernel_rfl)) (fun _ _ _ h => h) (Or.inl ⟨by rfl, ?_⟩) ?_ ?_
                      rotate_left
                      · intro w'
                        go_simp
                        with_reducible rfl
                      rotate_left
                      · simp only [Act.put, List.setIfInBounds_toArray, List.set_cons_zero, List.set_cons_succ, i64_w, i32_w]
                        rfl
                      refine pure_ (i := 8) (N := some 88) (v := ?_) (a' := ?_) #[true, true, true, true, true, true, true, true, true, false, false] rfl rfl (any_of HT_.out (by kernel_rfl)) (fun _ _ _ h => h) (Or.inl ⟨by rfl, ?_⟩) ?_ ?_
                      rotate_left
                      · intro w'
                        go_simp
                        with_reducible rfl
                      rotate_left
                      · simp only [Act.put, List.setIfInBounds_toArray, List.set_cons_zero, List.set_cons_succ, i64_w, i32_w]
                        rfl
                      refine pure_ (i := 9) (N := some 16) (v := ?_) (a' := ?_) #[true, true, true, true, true, true, true, true, true, true, false] rfl rfl (any_of HT_.out (by kernel_rfl)) (fun _ _ _ h => h) (Or.inl ⟨by rfl, ?_⟩) ?_ ?_
                      rotate_left
                      · intro w'
                        go_simp
                        with_reducible rfl
                      rotate_left
                      · simp only [Act.put, List.setIfInBounds_toArray, List.set_cons_zero, List.set_cons_succ, i64_w, i32_w]
                        rfl
                      refine pure_ (i := 10) (N := some 17) (v := ?_) (a' := ?_) #[true, true, true, true, true, true, true, true, true, true, true] rfl rfl (any_of HT_.out (by kernel_rfl)) (fun _ _ _ h => h) (Or.inl ⟨by rfl, ?_⟩) ?_ ?_
                      rotate_left
                      · intro w'
                        go_simp
                        with_reducible rfl
                      rotate_left
                      · simp only [Act.put, List.setIfInBounds_toArray, List.set_cons_zero, List.set_cons_succ, i64_w, i32_w]
                        rfl
                      refine done_ (done_of HT_.out (by kernel_rfl)) ?_
                      try go_wp2
                      go_loopg [18] k3 (fun kq v18 w' => ∃ (x18_4 : Int), v18 = .int .i64 x18_4 ∧ Aside0 (pylonlaw16_TreeBalance.l1 kq l1 a2 a3 t949 t953 t956 t957 x15_3 t962 t965 x18_4 a0_0 l0_1 = some r) ∧ Aside0 (kq ≤ k3) ∧ Aside0 (Kd.V (Kd.int .i64) 3 w' w.heap.size (fun k_ => (P1_ k_ ∨ w.heap.size ≤ k_) ∧ some k_ ≠ ((.slice (some ad961) t949.length co52) : Value).ownBlock ∧ some k_ ≠ (v954 : Value).ownBlock ∧ some k_ ≠ (v958 : Value).ownBlock ∧ some k_ ≠ (v963 : Value).ownBlock ∧ k_ ≠ gb941) (.slice A1 l1.length c1) l1) ∧ Aside0 (Kd.N (Kd.slice 3 (Kd.int .i64)) 25 w' w.heap.size (fun k_ => (P1_ k_ ∨ w.heap.size ≤ k_) ∧ some k_ ≠ (v954 : Value).ownBlock ∧ some k_ ≠ (v958 : Value).ownBlock ∧ some k_ ≠ (v963 : Value).ownBlock ∧ k_ ≠ gb941) (.slice (some ad961) t949.length co52) t949) ∧ Aside0 (Kd.R (Kd.int .i64) 3 w' w.heap.size (fun k_ => (w.heap.size ≤ k_) ∧ some k_ ≠ (v958 : Value).ownBlock ∧ some k_ ≠ (v963 : Value).ownBlock) v954 t953) ∧ Aside0 (Kd.R (Kd.int .i64) 3 w' w.heap.size (fun k_ => (w.heap.size ≤ k_) ∧ some k_ ≠ (v954 : Value).ownBlock ∧ some k_ ≠ (v963 : Value).ownBlock) v958 t957) ∧ Aside0 (Kd.R (Kd.int .i64) 3 w' w.heap.size (fun k_ => (w.heap.size ≤ k_) ∧ some k_ ≠ (v954 : Value).ownBlock ∧ some k_ ≠ (v958 : Value).ownBlock) v963 t962) ∧ Aside0 (w'.heap[gb941]? = some (.cells #[.int .i64 a0_0, (.slice A0_1 l0_1.length c0_1)] 24 (0, 0))) ∧ Aside0 (Kd.C (Kd.int .i64) w' A961_0 (rd_L1 t949 x15_3).length (rd_L1 t949 x15_3)) ∧ Aside0 (Below w.heap.size w w'))
                      case atStart => exact ⟨(0), (by first | rfl | (simp; done) | (simp [*]; done)), H', ⟨Nat.le_refl _⟩, ⟨by (with_reducible repeat (first | apply Kd.V_alloc | apply Kd.V_drewN | apply Kd.V_drew)); exact Kd.V_mono HO_1.out (fun _ hk => ⟨hk.1.1, ⟨hk.1.2.1, ⟨hk.1.2.2.1, ⟨hk.1.2.2.2.1, ⟨hk.2, hk.1.2.2.2.2⟩⟩⟩⟩⟩)⟩, ⟨by (with_reducible repeat (first | apply Kd.N_alloc | apply Kd.N_drewN | apply Kd.N_drew)); exact Kd.N_mono HO_9.out (fun _ hk => ⟨hk.1.1, ⟨hk.1.2.1, ⟨hk.1.2.2.1, ⟨hk.2, hk.1.2.2.2⟩⟩⟩⟩)⟩, ⟨by (with_reducible repeat (first | apply Kd.R_alloc | apply Kd.R_drewN | apply Kd.R_drew)); exact Kd.R_mono HO_11.out (fun _ hk => ⟨hk.1.1, ⟨hk.1.2, hk.2⟩⟩)⟩, ⟨by (with_reducible repeat (first | apply Kd.R_alloc | apply Kd.R_drewN | apply Kd.R_drew)); exact Kd.R_mono HO_13.out (fun _ hk => ⟨hk.1.1, ⟨hk.1.2, hk.2⟩⟩)⟩, ⟨by (with_reducible repeat (first | apply Kd.R_alloc | apply Kd.R_drewN | apply Kd.R_drew)); exact Kd.R_mono HO964.out (fun _ hk => ⟨hk.1.1.1, ⟨hk.1.2, hk.2⟩⟩)⟩, ⟨by (with_reducible repeat (first | refine blk_drewN ?_ _ | refine blk_drew ?_ | refine blk_alloc ?_ _)); exact BK941.out⟩, ⟨by repeat (first | (with_reducible exact HR961_0.out) | (with_reducible refine Kd.C_alloc ?_ _) | (with_reducible refine Kd.C_drewN ?_ _) | (with_reducible refine Kd.C_drew ?_) | exact HR961_0.out)⟩, ⟨by repeat (first | (with_reducible first | exact HB.out | apply below_alloc | apply pw_below_drewN | apply below_drew1 | refine below_set ?_ GE941.out) | exact HB.out)⟩⟩
                      case round => as_aux_lemma =>
                        clear H'
                        try clear c1
                        try clear c2
                        try clear p2
                        try clear c3
                        try clear c4
                        try clear c5
                        try clear c6
                        try clear c8
                        try clear c9
                        try clear p9
                        try clear q9
                        try clear hx9
                        try clear c15
                        try clear c16
                        try clear c28
                        try clear c31
                        try clear c44
                        try clear c44b0
                        try clear c44b1
                        try clear c45
                        try clear c45b0
                        try clear c45b1
                        try clear c46
                        try clear c46b0
                        try clear c46b1
                        try clear c48
                        try clear c49
                        try clear c49b0
                        try clear c50
                        try clear c50b0
                        try clear c51
                        try clear hcz17_0
                        try clear hcz17_1
                        try clear hcz23_0
                        try clear hcz23_1
                        try clear hcz25_0
                        try clear hcz25_1
                        try clear hcz38_0
                        try clear hcz38_1
                        try clear hcz40_0
                        try clear hcz40_1
                        try clear hcz42_0
                        try clear hcz42_1
                        try clear hcz9_0
                        try clear hcz9_1
                        try clear hfz17_0
                        try clear hfz17_1
                        try clear hfz23_0
                        try clear hfz23_1
                        try clear hfz25_0
                        try clear hfz25_1
                        try clear hfz38_0
                        try clear hfz38_1
                        try clear hfz40_0
                        try clear hfz40_1
                        try clear hfz42_0
                        try clear hfz42_1
                        try clear hfz9_0
                        try clear hfz9_1
                        try clear hx961_0
                        try clear p2
                        try clear p961
                        try clear q961
                        obtain ⟨x18_4, rfl, HA, HK4, HO_1, HO_9, HO_11, HO_13, HO_16, BK941, HR961_0, HB⟩ := hrel
                        cases gk with
                        | zero => exact absurd HA.out (by simp [pylonlaw16_TreeBalance.l1])
                        | succ k4 =>
                          have H := HA.out
                          clear HA
                          simp only [pylonlaw16_TreeBalance.l1] at H
                          by_cases c55 : x18_4 < (t962.length : Int)
                          · rw [if_pos c55] at H
                            have c55b0 : decide (x18_4 < (t962.length : Int)) = true := decide_eq_true c55
                            clear c55
                            by_cases c56 : 0 ≤ x18_4
                            · rw [if_pos c56] at H
                              have c56b0 : decide (0 ≤ x18_4) = true := decide_eq_true c56
                              clear c56
                              by_cases c57 : (rd t962 x18_4) = 0
                              · rw [if_pos c57] at H
                                have c57b0 : ((rd t962 x18_4) == 0) = true := beq_iff_eq.mpr c57
                                have c57b1 : ((rd t962 x18_4) != 0) = false := bne_eq_false_iff_eq.mpr c57
                                clear c57
                                have H' := Aside0.mk H
                                clear H
                                obtain ⟨Ao58, co58, eo58⟩ := Kd.R_slice HO_16.out
                                subst eo58
                                have p966 : 0 ≤ (x18_4 : Int) := of_decide_eq_true (by first | (with_reducible assumption) | assumption)
                                have q966 : x18_4 < (t962.length : Int) := of_decide_eq_true (by first | (with_reducible assumption) | assumption)
                                obtain ⟨ad966, e966, hx966_0⟩ := Kd.at_int (Kd.R_reads' HO_16.out).2.2 x18_4 p966 q966
                                cases e966
                                replace p966 := eq_true p966
                                replace q966 := eq_true q966
                                go_wp2
                                go_roundg k4
                                case measure => have := HJ4.out; have := HJ36.out; have := HK3.out; have := HK4.out; omega
                                case rel => exact ⟨(wrap64 (x18_4 + 1)), (by first | rfl | (simp; done) | (simp [*]; done)), H', ⟨by have := HJ4.out; have := HJ36.out; have := HK3.out; have := HK4.out; omega⟩, ⟨by (with_reducible repeat (first | apply Kd.V_alloc | apply Kd.V_drewN | apply Kd.V_drew)); exact HO_1.out⟩, ⟨by (with_reducible repeat (first | apply Kd.N_alloc | apply Kd.N_drewN | apply Kd.N_drew)); exact HO_9.out⟩, ⟨by (with_reducible repeat (first | apply Kd.R_alloc | apply Kd.R_drewN | apply Kd.R_drew)); exact HO_11.out⟩, ⟨by (with_reducible repeat (first | apply Kd.R_alloc | apply Kd.R_drewN | apply Kd.R_drew)); exact HO_13.out⟩, ⟨by (with_reducible repeat (first | apply Kd.R_alloc | apply Kd.R_drewN | apply Kd.R_drew)); exact HO_16.out⟩, ⟨by (with_reducible repeat (first | refine blk_drewN ?_ _ | refine blk_drew ?_ | refine blk_alloc ?_ _)); exact BK941.out⟩, ⟨by repeat (first | (with_reducible exact HR961_0.out) | (with_reducible refine Kd.C_alloc ?_ _) | (with_reducible refine Kd.C_drewN ?_ _) | (with_reducible refine Kd.C_drew ?_) | exact HR961_0.out)⟩, ⟨by repeat (first | (with_reducible first | exact HB.out | apply below_alloc | apply pw_below_drewN | apply below_drew1 | refine below_set ?_ GE941.out) | exact HB.out)⟩⟩
                              · rw [if_neg c57] at H
                                have c57b0 : ((rd t962 x18_4) == 0) = false := beq_eq_false_iff_ne.mpr c57
                                have c57b1 : ((rd t962 x18_4) != 0) = true := bne_iff_ne.mpr c57
                                obtain rfl := Option.some.inj H
                                obtain ⟨Ao59, co59, eo59⟩ := Kd.R_slice HO_16.out
                                subst eo59
                                have p966 : 0 ≤ (x18_4 : Int) := of_decide_eq_true (by first | (with_reducible assumption) | assumption)
                                have q966 : x18_4 < (t962.length : Int) := of_decide_eq_true (by first | (with_reducible assumption) | assumption)
                                obtain ⟨ad966, e966, hx966_0⟩ := Kd.at_int (Kd.R_reads' HO_16.out).2.2 x18_4 p966 q966
                                cases e966
                                replace p966 := eq_true p966
                                replace q966 := eq_true q966
                                go_wp2
                                go_ret
                                exact ⟨by first | rfl | (simp [errW_none, errW_some] <;> rfl) | (simp [*, errW_none, errW_some] <;> rfl), by repeat (first | (with_reducible first | exact HB.out | apply below_alloc | apply pw_below_drewN | apply below_drew1 | refine below_set ?_ GE941.out) | exact HB.out)⟩
                            · rw [if_neg c56] at H
                              exact absurd H (by simp)
                          · rw [if_neg c55] at H
                            have c55b0 : decide (x18_4 < (t962.length : Int)) = false := decide_eq_false c55
                            clear c55
                            have H' := Aside0.mk H
                            clear H
                            obtain ⟨Ao60, co60, eo60⟩ := Kd.R_slice HO_16.out
                            subst eo60
                            go_wp2
                            go_loopg [19] k4 (fun kq v19 w' => ∃ (x19_5 : Int), v19 = .int .i64 x19_5 ∧ Aside0 (pylonlaw16_TreeBalance.l2 kq l1 a2 a3 t949 t953 t956 t957 x15_3 t965 x19_5 a0_0 l0_1 = some r) ∧ Aside0 (kq ≤ k4) ∧ Aside0 (Kd.V (Kd.int .i64) 3 w' w.heap.size (fun k_ => (P1_ k_ ∨ w.heap.size ≤ k_) ∧ some k_ ≠ ((.slice (some ad961) t949.length co52) : Value).ownBlock ∧ some k_ ≠ (v954 : Value).ownBlock ∧ some k_ ≠ (v958 : Value).ownBlock ∧ k_ ≠ gb941) (.slice A1 l1.length c1) l1) ∧ Aside0 (Kd.N (Kd.slice 3 (Kd.int .i64)) 25 w' w.heap.size (fun k_ => (P1_ k_ ∨ w.heap.size ≤ k_) ∧ some k_ ≠ (v954 : Value).ownBlock ∧ some k_ ≠ (v958 : Value).ownBlock ∧ k_ ≠ gb941) (.slice (some ad961) t949.length co52) t949) ∧ Aside0 (Kd.R (Kd.int .i64) 3 w' w.heap.size (fun k_ => (w.heap.size ≤ k_) ∧ some k_ ≠ (v958 : Value).ownBlock) v954 t953) ∧ Aside0 (Kd.R (Kd.int .i64) 3 w' w.heap.size (fun k_ => (w.heap.size ≤ k_) ∧ some k_ ≠ (v954 : Value).ownBlock) v958 t957) ∧ Aside0 (w'.heap[gb941]? = some (.cells #[.int .i64 a0_0, (.slice A0_1 l0_1.length c0_1)] 24 (0, 0))) ∧ Aside0 (Kd.C (Kd.int .i64) w' A961_0 (rd_L1 t949 x15_3).length (rd_L1 t949 x15_3)) ∧ Aside0 (Below w.heap.size w w'))
                            case atStart => exact ⟨(0), (by first | rfl | (simp; done) | (simp [*]; done)), H', ⟨Nat.le_refl _⟩, ⟨by (with_reducible repeat (first | apply Kd.V_alloc | apply Kd.V_drewN | apply Kd.V_drew)); exact Kd.V_mono HO_1.out (fun _ hk => ⟨hk.1, ⟨hk.2.1, ⟨hk.2.2.1, ⟨hk.2.2.2.1, hk.2.2.2.2.2⟩⟩⟩⟩)⟩, ⟨by (with_reducible repeat (first | apply Kd.N_alloc | apply Kd.N_drewN | apply Kd.N_drew)); exact Kd.N_mono HO_9.out (fun _ hk => ⟨hk.1, ⟨hk.2.1, ⟨hk.2.2.1, hk.2.2.2.2⟩⟩⟩)⟩, ⟨by (with_reducible repeat (first | apply Kd.R_alloc | apply Kd.R_drewN | apply Kd.R_drew)); exact Kd.R_mono HO_11.out (fun _ hk => ⟨hk.1, hk.2.1⟩)⟩, ⟨by (with_reducible repeat (first | apply Kd.R_alloc | apply Kd.R_drewN | apply Kd.R_drew)); exact Kd.R_mono HO_13.out (fun _ hk => ⟨hk.1, hk.2.1⟩)⟩, ⟨by (with_reducible repeat (first | refine blk_drewN ?_ _ | refine blk_drew ?_ | refine blk_alloc ?_ _)); exact BK941.out⟩, ⟨by repeat (first | (with_reducible exact HR961_0.out) | (with_reducible refine Kd.C_alloc ?_ _) | (with_reducible refine Kd.C_drewN ?_ _) | (with_reducible refine Kd.C_drew ?_) | exact HR961_0.out)⟩, ⟨by repeat (first | (with_reducible first | exact HB.out | apply below_alloc | apply pw_below_drewN | apply below_drew1 | refine below_set ?_ GE941.out) | exact HB.out)⟩⟩
                            case round => as_aux_lemma =>
                              clear H'
                              try clear c1
                              try clear c2
                              try clear p2
                              try clear c3
                              try clear c4
                              try clear c5
                              try clear c6
                              try clear p6
                              try clear c8
                              try clear c9
                              try clear p9
                              try clear q9
                              try clear hx9
                              try clear c15
                              try clear c16
                              try clear c28
                              try clear c31
                              try clear c44
                              try clear c44b0
                              try clear c44b1
                              try clear c45
                              try clear c45b0
                              try clear c45b1
                              try clear c46
                              try clear c46b0
                              try clear c46b1
                              try clear c48
                              try clear c49
                              try clear c49b0
                              try clear c50
                              try clear c50b0
                              try clear c51
                              try clear c55
                              try clear c55b0
                              try clear c56
                              try clear c56b0
                              try clear c57
                              try clear c57b0
                              try clear c57b1
                              try clear hcz17_0
                              try clear hcz17_1
                              try clear hcz23_0
                              try clear hcz23_1
                              try clear hcz25_0
                              try clear hcz25_1
                              try clear hcz38_0
                              try clear hcz38_1
                              try clear hcz40_0
                              try clear hcz40_1
                              try clear hcz42_0
                              try clear hcz42_1
                              try clear hcz9_0
                              try clear hcz9_1
                              try clear hfz17_0
                              try clear hfz17_1
                              try clear hfz23_0
                              try clear hfz23_1
                              try clear hfz25_0
                              try clear hfz25_1
                              try clear hfz38_0
                              try clear hfz38_1
                              try clear hfz40_0
                              try clear hfz40_1
                              try clear hfz42_0
                              try clear hfz42_1
                              try clear hfz9_0
                              try clear hfz9_1
                              try clear hx961_0
                              try clear hx966_0
                              try clear p2
                              try clear p9
                              try clear p961
                              try clear p966
                              try clear q9
                              try clear q961
                              try clear q966
                              obtain ⟨x19_5, rfl, HA, HK5, HO_1, HO_9, HO_11, HO_13, BK941, HR961_0, HB⟩ := hrel
                              cases gk with
                              | zero => exact absurd HA.out (by simp [pylonlaw16_TreeBalance.l2])
                              | succ k5 =>
                                have H := HA.out
                                clear HA
                                simp only [pylonlaw16_TreeBalance.l2] at H
                                by_cases c61 : 0 ≤ x15_3
                                · rw [if_pos c61] at H
                                  have c61b0 : decide (0 ≤ x15_3) = true := decide_eq_true c61
                                  clear c61
                                  by_cases c62 : x15_3 < (t949.length : Int)
                                  · rw [if_pos c62] at H
                                    have c62b0 : decide (x15_3 < (t949.length : Int)) = true := decide_eq_true c62
                                    clear c62
                                    by_cases c63 : x19_5 < ((rd_L1 t949 x15_3).length : Int)
                                    · rw [if_pos c63] at H
                                      have c63b0 : decide (x19_5 < ((rd_L1 t949 x15_3).length : Int)) = true := decide_eq_true c63
                                      clear c63
                                      by_cases c64 : 0 ≤ x19_5
                                      · rw [if_pos c64] at H
                                        have c64b0 : decide (0 ≤ x19_5) = true := decide_eq_true c64
                                        clear c64
                                        by_cases c65 : (rd (rd_L1 t949 x15_3) x19_5) = 0
                                        · rw [if_pos c65] at H
                                          have c65b0 : ((rd (rd_L1 t949 x15_3) x19_5) == 0) = true := beq_iff_eq.mpr c65
                                          have c65b1 : ((rd (rd_L1 t949 x15_3) x19_5) != 0) = false := bne_eq_false_iff_eq.mpr c65
                                          clear c65
                                          have H' := Aside0.mk H
                                          clear H
                                          have p967 : 0 ≤ (x15_3 : Int) := of_decide_eq_true (by first | (with_reducible assumption) | assumption)
                                          have q967 : x15_3 < (t949.length : Int) := of_decide_eq_true (by first | (with_reducible assumption) | assumption)
                                          obtain ⟨ad967, A967_0, c967_0, e967, hx967_0, hl967_0, hi967_0⟩ := at_L1 (Kd.N_reads' HO_9.out).2.2 x15_3 p967 q967
                                          obtain rfl : ad961 = ad967 := (by injection e967)
                                          obtain ⟨ce967, hce967, hMe967, hcc967⟩ := Kd.N_get HO_9.out [] x15_3 p967 (by first | exact q967 | exact of_decide_eq_true (by first | (with_reducible assumption) | assumption) | (have e_ := (Kd.N_reads' HO_9.out).1; omega))
                                          obtain ⟨ua967_0, uc967_0, rfl, ul967_0, ge967_0⟩ := Kd.FK_slice_open hMe967
                                          have hv967_0 := hcc967 0 _ rfl
                                          rw [Nat.add_zero, show ((Kd.slice 3 (Kd.int .i64))).sz = 1 from rfl, Nat.mul_one] at hv967_0
                                          replace hv967_0 := Option.some.inj (hv967_0.symm.trans hx967_0)
                                          injection hv967_0 with hva_ hvn_ hvc_
                                          rw [hva_] at ge967_0
                                          rw [hvc_] at ul967_0
                                          have HL967_0 := Aside0.mk (show Kd.V (Kd.int .i64) 3 _ w.heap.size _ _ (rd_L1 t949 x15_3) from Kd.V_mk ul967_0 ge967_0)
                                          clear hva_ hvn_ hvc_ ge967_0 ul967_0
                                          clear hcc967 hce967
                                          have HR967_0 := Aside0.mk hi967_0
                                          have HC967_0 := Aside0.mk hl967_0
                                          clear hi967_0 hl967_0
                                          replace p967 := eq_true p967
                                          replace q967 := eq_true q967
                                          have p968 : 0 ≤ (x15_3 : Int) := of_decide_eq_true (by first | (with_reducible assumption) | assumption)
                                          have q968 : x15_3 < (t949.length : Int) := of_decide_eq_true (by first | (with_reducible assumption) | assumption)
                                          obtain ⟨ad968, A968_0, c968_0, e968, hx968_0, hl968_0, hi968_0⟩ := at_L1 (Kd.N_reads' HO_9.out).2.2 x15_3 p968 q968
                                          obtain rfl : ad961 = ad968 := (by injection e968)
                                          obtain ⟨ce968, hce968, hMe968, hcc968⟩ := Kd.N_get HO_9.out [] x15_3 p968 (by first | exact q968 | exact of_decide_eq_true (by first | (with_reducible assumption) | assumption) | (have e_ := (Kd.N_reads' HO_9.out).1; omega))
                                          obtain ⟨ua968_0, uc968_0, rfl, ul968_0, ge968_0⟩ := Kd.FK_slice_open hMe968
                                          have hv968_0 := hcc968 0 _ rfl
                                          rw [Nat.add_zero, show ((Kd.slice 3 (Kd.int .i64))).sz = 1 from rfl, Nat.mul_one] at hv968_0
                                          replace hv968_0 := Option.some.inj (hv968_0.symm.trans hx968_0)
                                          injection hv968_0 with hva_ hvn_ hvc_
                                          rw [hva_] at ge968_0
                                          rw [hvc_] at ul968_0
                                          have HL968_0 := Aside0.mk (show Kd.V (Kd.int .i64) 3 _ w.heap.size _ _ (rd_L1 t949 x15_3) from Kd.V_mk ul968_0 ge968_0)
                                          clear hva_ hvn_ hvc_ ge968_0 ul968_0
                                          clear hcc968 hce968
                                          have HR968_0 := Aside0.mk hi968_0
                                          have HC968_0 := Aside0.mk hl968_0
                                          clear hi968_0 hl968_0
                                          replace p968 := eq_true p968
                                          replace q968 := eq_true q968
                                          have ea_ := Option.some.inj (hx967_0.symm.trans hx968_0)
                                          injection ea_ with ea_ en_ ec_
                                          subst ea_
                                          subst ec_
                                          clear en_
                                          have p969 : 0 ≤ (x19_5 : Int) := of_decide_eq_true (by first | (with_reducible assumption) | assumption)
                                          have q969 : x19_5 < ((rd_L1 t949 x15_3).length : Int) := of_decide_eq_true (by first | (with_reducible assumption) | assumption)
                                          obtain ⟨ad969, e969, hx969_0⟩ := Kd.at_int (by repeat (first | (with_reducible exact HR968_0.out) | (with_reducible refine Kd.C_alloc ?_ _) | (with_reducible refine Kd.C_drewN ?_ _) | (with_reducible refine Kd.C_drew ?_) | exact HR968_0.out)) x19_5 p969 q969
                                          cases e969
                                          replace p969 := eq_true p969
                                          replace q969 := eq_true q969
                                          go_wp2
                                          go_roundg k5
                                          case measure => have := HJ4.out; have := HJ36.out; have := HK3.out; have := HK4.out; have := HK5.out; omega
                                          case rel => exact ⟨(wrap64 (x19_5 + 1)), (by first | rfl | (simp; done) | (simp [*]; done)), H', ⟨by have := HJ4.out; have := HJ36.out; have := HK3.out; have := HK4.out; have := HK5.out; omega⟩, ⟨by (with_reducible repeat (first | apply Kd.V_alloc | apply Kd.V_drewN | apply Kd.V_drew)); exact HO_1.out⟩, ⟨by (with_reducible repeat (first | apply Kd.N_alloc | apply Kd.N_drewN | apply Kd.N_drew)); exact HO_9.out⟩, ⟨by (with_reducible repeat (first | apply Kd.R_alloc | apply Kd.R_drewN | apply Kd.R_drew)); exact HO_11.out⟩, ⟨by (with_reducible repeat (first | apply Kd.R_alloc | apply Kd.R_drewN | apply Kd.R_drew)); exact HO_13.out⟩, ⟨by (with_reducible repeat (first | refine blk_drewN ?_ _ | refine blk_drew ?_ | refine blk_alloc ?_ _)); exact BK941.out⟩, ⟨by repeat (first | (with_reducible exact HR961_0.out) | (with_reducible refine Kd.C_alloc ?_ _) | (with_reducible refine Kd.C_drewN ?_ _) | (with_reducible refine Kd.C_drew ?_) | exact HR961_0.out)⟩, ⟨by repeat (first | (with_reducible first | exact HB.out | apply below_alloc | apply pw_below_drewN | apply below_drew1 | refine below_set ?_ GE941.out) | exact HB.out)⟩⟩
                                        · rw [if_neg c65] at H
                                          have c65b0 : ((rd (rd_L1 t949 x15_3) x19_5) == 0) = false := beq_eq_false_iff_ne.mpr c65
                                          have c65b1 : ((rd (rd_L1 t949 x15_3) x19_5) != 0) = true := bne_iff_ne.mpr c65
                                          replace H := Option.bind_eq_some_iff.mp H
                                          obtain ⟨t970, A660, H⟩ := H
                                          replace H : (if t970 = true then (some false) else (pylonlaw16_TreeBalance.l2 k5 l1 a2 a3 t949 t953 t956 t957 x15_3 t965 (wrap64 (x19_5 + 1)) a0_0 l0_1)) = some r := H
                                          have A66 := Aside0.mk A660
                                          clear A660
                                          by_cases c67 : t970 = true
                                          · as_aux_lemma =>
                                            subst c67
                                            have H1 : (some false) = some r := by rw [if_pos rfl] at H; exact H
                                            clear H
                                            have H := H1
                                            clear H1
                                            obtain rfl := Option.some.inj H
                                            have p967 : 0 ≤ (x15_3 : Int) := of_decide_eq_true (by first | (with_reducible assumption) | assumption)
                                            have q967 : x15_3 < (t949.length : Int) := of_decide_eq_true (by first | (with_reducible assumption) | assumption)
                                            obtain ⟨ad967, A967_0, c967_0, e967, hx967_0, hl967_0, hi967_0⟩ := at_L1 (Kd.N_reads' HO_9.out).2.2 x15_3 p967 q967
                                            obtain rfl : ad961 = ad967 := (by injection e967)
                                            obtain ⟨ce967, hce967, hMe967, hcc967⟩ := Kd.N_get HO_9.out [] x15_3 p967 (by first | exact q967 | exact of_decide_eq_true (by first | (with_reducible assumption) | assumption) | (have e_ := (Kd.N_reads' HO_9.out).1; omega))
                                            obtain ⟨ua967_0, uc967_0, rfl, ul967_0, ge967_0⟩ := Kd.FK_slice_open hMe967
                                            have hv967_0 := hcc967 0 _ rfl
                                            rw [Nat.add_zero, show ((Kd.slice 3 (Kd.int .i64))).sz = 1 from rfl, Nat.mul_one] at hv967_0
                                            replace hv967_0 := Option.some.inj (hv967_0.symm.trans hx967_0)
                                            injection hv967_0 with hva_ hvn_ hvc_
                                            rw [hva_] at ge967_0
                                            rw [hvc_] at ul967_0
                                            have HL967_0 := Aside0.mk (show Kd.V (Kd.int .i64) 3 _ w.heap.size _ _ (rd_L1 t949 x15_3) from Kd.V_mk ul967_0 ge967_0)
                                            clear hva_ hvn_ hvc_ ge967_0 ul967_0
                                            clear hcc967 hce967
                                            have HR967_0 := Aside0.mk hi967_0
                                            have HC967_0 := Aside0.mk hl967_0
                                            clear hi967_0 hl967_0
                                            replace p967 := eq_true p967
                                            replace q967 := eq_true q967
                                            have p968 : 0 ≤ (x15_3 : Int) := of_decide_eq_true (by first | (with_reducible assumption) | assumption)
                                            have q968 : x15_3 < (t949.length : Int) := of_decide_eq_true (by first | (with_reducible assumption) | assumption)
                                            obtain ⟨ad968, A968_0, c968_0, e968, hx968_0, hl968_0, hi968_0⟩ := at_L1 (Kd.N_reads' HO_9.out).2.2 x15_3 p968 q968
                                            obtain rfl : ad961 = ad968 := (by injection e968)
                                            obtain ⟨ce968, hce968, hMe968, hcc968⟩ := Kd.N_get HO_9.out [] x15_3 p968 (by first | exact q968 | exact of_decide_eq_true (by first | (with_reducible assumption) | assumption) | (have e_ := (Kd.N_reads' HO_9.out).1; omega))
                                            obtain ⟨ua968_0, uc968_0, rfl, ul968_0, ge968_0⟩ := Kd.FK_slice_open hMe968
                                            have hv968_0 := hcc968 0 _ rfl
                                            rw [Nat.add_zero, show ((Kd.slice 3 (Kd.int .i64))).sz = 1 from rfl, Nat.mul_one] at hv968_0
                                            replace hv968_0 := Option.some.inj (hv968_0.symm.trans hx968_0)
                                            injection hv968_0 with hva_ hvn_ hvc_
                                            rw [hva_] at ge968_0
                                            rw [hvc_] at ul968_0
                                            have HL968_0 := Aside0.mk (show Kd.V (Kd.int .i64) 3 _ w.heap.size _ _ (rd_L1 t949 x15_3) from Kd.V_mk ul968_0 ge968_0)
                                            clear hva_ hvn_ hvc_ ge968_0 ul968_0
                                            clear hcc968 hce968
                                            have HR968_0 := Aside0.mk hi968_0
                                            have HC968_0 := Aside0.mk hl968_0
                                            clear hi968_0 hl968_0
                                            replace p968 := eq_true p968
                                            replace q968 := eq_true q968
                                            have ea_ := Option.some.inj (hx967_0.symm.trans hx968_0)
                                            injection ea_ with ea_ en_ ec_
                                            subst ea_
                                            subst ec_
                                            clear en_
                                            have p969 : 0 ≤ (x19_5 : Int) := of_decide_eq_true (by first | (with_reducible assumption) | assumption)
                                            have q969 : x19_5 < ((rd_L1 t949 x15_3).length : Int) := of_decide_eq_true (by first | (with_reducible assumption) | assumption)
                                            obtain ⟨ad969, e969, hx969_0⟩ := Kd.at_int (by repeat (first | (with_reducible exact HR968_0.out) | (with_reducible refine Kd.C_alloc ?_ _) | (with_reducible refine Kd.C_drewN ?_ _) | (with_reducible refine Kd.C_drew ?_) | exact HR968_0.out)) x19_5 p969 q969
                                            cases e969
                                            replace p969 := eq_true p969
                                            replace q969 := eq_true q969
                                            go_wp2_with (first | (go_at_call 60; (with_reducible refine (pylonlaw16_has.calls k5 _ _ l1 x19_5 true _ ?side1 ?side2 A66.out).mono ?_); (case side1 => repeat (first | exact (Kd.V_reads' HO_1.out).2.2 | (with_reducible refine Kd.C_alloc ?_ _) | (with_reducible refine Kd.C_drewN ?_ _) | (with_reducible refine Kd.C_drew ?_))); (case side2 => exact (Kd.V_reads' HO_1.out).2.1); rintro e w' ⟨rfl, ⟨nd, rfl⟩⟩))
                                            go_ret
                                            exact ⟨by first | rfl | (simp [errW_none, errW_some] <;> rfl) | (simp [*, errW_none, errW_some] <;> rfl), by repeat (first | (with_reducible first | exact HB.out | apply below_alloc | apply pw_below_drewN | apply below_drew1 | refine below_set ?_ GE941.out) | exact HB.out)⟩
                                          · as_aux_lemma =>
                                            replace c67 := Bool.eq_false_iff.mpr c67
                                            subst c67
                                            have H1 : (pylonlaw16_TreeBalance.l2 k5 l1 a2 a3 t949 t953 t956 t957 x15_3 t965 (wrap64 (x19_5 + 1)) a0_0 l0_1) = some r := by rw [if_neg (show ¬ (false = true) by decide)] at H; exact H
                                            clear H
                                            have H := H1
                                            clear H1
                                            have H' := Aside0.mk H
                                            clear H
                                            have p967 : 0 ≤ (x15_3 : Int) := of_decide_eq_true (by first | (with_reducible assumption) | assumption)
                                            have q967 : x15_3 < (t949.length : Int) := of_decide_eq_true (by first | (with_reducible assumption) | assumption)
                                            obtain ⟨ad967, A967_0, c967_0, e967, hx967_0, hl967_0, hi967_0⟩ := at_L1 (Kd.N_reads' HO_9.out).2.2 x15_3 p967 q967
                                            obtain rfl : ad961 = ad967 := (by injection e967)
                                            obtain ⟨ce967, hce967, hMe967, hcc967⟩ := Kd.N_get HO_9.out [] x15_3 p967 (by first | exact q967 | exact of_decide_eq_true (by first | (with_reducible assumption) | assumption) | (have e_ := (Kd.N_reads' HO_9.out).1; omega))
                                            obtain ⟨ua967_0, uc967_0, rfl, ul967_0, ge967_0⟩ := Kd.FK_slice_open hMe967
                                            have hv967_0 := hcc967 0 _ rfl
                                            rw [Nat.add_zero, show ((Kd.slice 3 (Kd.int .i64))).sz = 1 from rfl, Nat.mul_one] at hv967_0
                                            replace hv967_0 := Option.some.inj (hv967_0.symm.trans hx967_0)
                                            injection hv967_0 with hva_ hvn_ hvc_
                                            rw [hva_] at ge967_0
                                            rw [hvc_] at ul967_0
                                            have HL967_0 := Aside0.mk (show Kd.V (Kd.int .i64) 3 _ w.heap.size _ _ (rd_L1 t949 x15_3) from Kd.V_mk ul967_0 ge967_0)
                                            clear hva_ hvn_ hvc_ ge967_0 ul967_0
                                            clear hcc967 hce967
                                            have HR967_0 := Aside0.mk hi967_0
                                            have HC967_0 := Aside0.mk hl967_0
                                            clear hi967_0 hl967_0
                                            replace p967 := eq_true p967
                                            replace q967 := eq_true q967
                                            have p968 : 0 ≤ (x15_3 : Int) := of_decide_eq_true (by first | (with_reducible assumption) | assumption)
                                            have q968 : x15_3 < (t949.length : Int) := of_decide_eq_true (by first | (with_reducible assumption) | assumption)
                                            obtain ⟨ad968, A968_0, c968_0, e968, hx968_0, hl968_0, hi968_0⟩ := at_L1 (Kd.N_reads' HO_9.out).2.2 x15_3 p968 q968
                                            obtain rfl : ad961 = ad968 := (by injection e968)
                                            obtain ⟨ce968, hce968, hMe968, hcc968⟩ := Kd.N_get HO_9.out [] x15_3 p968 (by first | exact q968 | exact of_decide_eq_true (by first | (with_reducible assumption) | assumption) | (have e_ := (Kd.N_reads' HO_9.out).1; omega))
                                            obtain ⟨ua968_0, uc968_0, rfl, ul968_0, ge968_0⟩ := Kd.FK_slice_open hMe968
                                            have hv968_0 := hcc968 0 _ rfl
                                            rw [Nat.add_zero, show ((Kd.slice 3 (Kd.int .i64))).sz = 1 from rfl, Nat.mul_one] at hv968_0
                                            replace hv968_0 := Option.some.inj (hv968_0.symm.trans hx968_0)
                                            injection hv968_0 with hva_ hvn_ hvc_
                                            rw [hva_] at ge968_0
                                            rw [hvc_] at ul968_0
                                            have HL968_0 := Aside0.mk (show Kd.V (Kd.int .i64) 3 _ w.heap.size _ _ (rd_L1 t949 x15_3) from Kd.V_mk ul968_0 ge968_0)
                                            clear hva_ hvn_ hvc_ ge968_0 ul968_0
                                            clear hcc968 hce968
                                            have HR968_0 := Aside0.mk hi968_0
                                            have HC968_0 := Aside0.mk hl968_0
                                            clear hi968_0 hl968_0
                                            replace p968 := eq_true p968
                                            replace q968 := eq_true q968
                                            have ea_ := Option.some.inj (hx967_0.symm.trans hx968_0)
                                            injection ea_ with ea_ en_ ec_
                                            subst ea_
                                            subst ec_
                                            clear en_
                                            have p969 : 0 ≤ (x19_5 : Int) := of_decide_eq_true (by first | (with_reducible assumption) | assumption)
                                            have q969 : x19_5 < ((rd_L1 t949 x15_3).length : Int) := of_decide_eq_true (by first | (with_reducible assumption) | assumption)
                                            obtain ⟨ad969, e969, hx969_0⟩ := Kd.at_int (by repeat (first | (with_reducible exact HR968_0.out) | (with_reducible refine Kd.C_alloc ?_ _) | (with_reducible refine Kd.C_drewN ?_ _) | (with_reducible refine Kd.C_drew ?_) | exact HR968_0.out)) x19_5 p969 q969
                                            cases e969
                                            replace p969 := eq_true p969
                                            replace q969 := eq_true q969
                                            go_wp2_with (first | (go_at_call 60; (with_reducible refine (pylonlaw16_has.calls k5 _ _ l1 x19_5 false _ ?side1 ?side2 A66.out).mono ?_); (case side1 => repeat (first | exact (Kd.V_reads' HO_1.out).2.2 | (with_reducible refine Kd.C_alloc ?_ _) | (with_reducible refine Kd.C_drewN ?_ _) | (with_reducible refine Kd.C_drew ?_))); (case side2 => exact (Kd.V_reads' HO_1.out).2.1); rintro e w' ⟨rfl, ⟨nd, rfl⟩⟩))
                                            go_roundg k5
                                            case measure => have := HJ4.out; have := HJ36.out; have := HK3.out; have := HK4.out; have := HK5.out; omega
                                            case rel => exact ⟨(wrap64 (x19_5 + 1)), (by first | rfl | (simp; done) | (simp [*]; done)), H', ⟨by have := HJ4.out; have := HJ36.out; have := HK3.out; have := HK4.out; have := HK5.out; omega⟩, ⟨by (with_reducible repeat (first | apply Kd.V_alloc | apply Kd.V_drewN | apply Kd.V_drew)); exact HO_1.out⟩, ⟨by (with_reducible repeat (first | apply Kd.N_alloc | apply Kd.N_drewN | apply Kd.N_drew)); exact HO_9.out⟩, ⟨by (with_reducible repeat (first | apply Kd.R_alloc | apply Kd.R_drewN | apply Kd.R_drew)); exact HO_11.out⟩, ⟨by (with_reducible repeat (first | apply Kd.R_alloc | apply Kd.R_drewN | apply Kd.R_drew)); exact HO_13.out⟩, ⟨by (with_reducible repeat (first | refine blk_drewN ?_ _ | refine blk_drew ?_ | refine blk_alloc ?_ _)); exact BK941.out⟩, ⟨by repeat (first | (with_reducible exact HR961_0.out) | (with_reducible refine Kd.C_alloc ?_ _) | (with_reducible refine Kd.C_drewN ?_ _) | (with_reducible refine Kd.C_drew ?_) | exact HR961_0.out)⟩, ⟨by repeat (first | (with_reducible first | exact HB.out | apply below_alloc | apply pw_below_drewN | apply below_drew1 | refine below_set ?_ GE941.out) | exact HB.out)⟩⟩
                                      · rw [if_neg c64] at H
                                        exact absurd H (by simp)
                                    · rw [if_neg c63] at H
                                      have c63b0 : decide (x19_5 < ((rd_L1 t949 x15_3).length : Int)) = false := decide_eq_false c63
                                      clear c63
                                      by_cases c68 : t965 = true
                                      · as_aux_lemma =>
                                        subst c68
                                        have H1 : (pylonlaw16_TreeBalance.l0 k5 l1 a2 a3 t949 t953 t956 t957 (wrap64 (x15_3 + 1)) a0_0 l0_1) = some r := by rw [if_pos rfl] at H; exact H
                                        clear H
                                        have H := H1
                                        clear H1
                                        have H' := Aside0.mk H
                                        clear H
                                        have p967 : 0 ≤ (x15_3 : Int) := of_decide_eq_true (by first | (with_reducible assumption) | assumption)
                                        have q967 : x15_3 < (t949.length : Int) := of_decide_eq_true (by first | (with_reducible assumption) | assumption)
                                        obtain ⟨ad967, A967_0, c967_0, e967, hx967_0, hl967_0, hi967_0⟩ := at_L1 (Kd.N_reads' HO_9.out).2.2 x15_3 p967 q967
                                        obtain rfl : ad961 = ad967 := (by injection e967)
                                        obtain ⟨ce967, hce967, hMe967, hcc967⟩ := Kd.N_get HO_9.out [] x15_3 p967 (by first | exact q967 | exact of_decide_eq_true (by first | (with_reducible assumption) | assumption) | (have e_ := (Kd.N_reads' HO_9.out).1; omega))
                                        obtain ⟨ua967_0, uc967_0, rfl, ul967_0, ge967_0⟩ := Kd.FK_slice_open hMe967
                                        have hv967_0 := hcc967 0 _ rfl
                                        rw [Nat.add_zero, show ((Kd.slice 3 (Kd.int .i64))).sz = 1 from rfl, Nat.mul_one] at hv967_0
                                        replace hv967_0 := Option.some.inj (hv967_0.symm.trans hx967_0)
                                        injection hv967_0 with hva_ hvn_ hvc_
                                        rw [hva_] at ge967_0
                                        rw [hvc_] at ul967_0
                                        have HL967_0 := Aside0.mk (show Kd.V (Kd.int .i64) 3 _ w.heap.size _ _ (rd_L1 t949 x15_3) from Kd.V_mk ul967_0 ge967_0)
                                        clear hva_ hvn_ hvc_ ge967_0 ul967_0
                                        clear hcc967 hce967
                                        have HR967_0 := Aside0.mk hi967_0
                                        have HC967_0 := Aside0.mk hl967_0
                                        clear hi967_0 hl967_0
                                        replace p967 := eq_true p967
                                        replace q967 := eq_true q967
                                        go_wp2
                                        go_roundg k5
                                        case measure => have := HJ4.out; have := HJ36.out; have := HK3.out; have := HK4.out; have := HK5.out; omega
                                        case rel => exact ⟨(wrap64 (x15_3 + 1)), (by first | rfl | (simp; done) | (simp [*]; done)), H', ⟨by have := HJ4.out; have := HJ36.out; have := HK3.out; have := HK4.out; have := HK5.out; omega⟩, ⟨by (with_reducible repeat (first | apply Kd.V_alloc | apply Kd.V_drewN | apply Kd.V_drew)); exact HO_1.out⟩, ⟨by (with_reducible repeat (first | apply Kd.N_alloc | apply Kd.N_drewN | apply Kd.N_drew)); exact HO_9.out⟩, ⟨by (with_reducible repeat (first | apply Kd.R_alloc | apply Kd.R_drewN | apply Kd.R_drew)); exact HO_11.out⟩, ⟨by (with_reducible repeat (first | apply Kd.R_alloc | apply Kd.R_drewN | apply Kd.R_drew)); exact HO_13.out⟩, ⟨by (with_reducible repeat (first | refine blk_drewN ?_ _ | refine blk_drew ?_ | refine blk_alloc ?_ _)); exact BK941.out⟩, ⟨by repeat (first | (with_reducible first | exact HB.out | apply below_alloc | apply pw_below_drewN | apply below_drew1 | refine below_set ?_ GE941.out) | exact HB.out)⟩⟩
                                      · as_aux_lemma =>
                                        replace c68 := Bool.eq_false_iff.mpr c68
                                        subst c68
                                        have H1 : (some false) = some r := by rw [if_neg (show ¬ (false = true) by decide)] at H; exact H
                                        clear H
                                        have H := H1
                                        clear H1
                                        obtain rfl := Option.some.inj H
                                        have p967 : 0 ≤ (x15_3 : Int) := of_decide_eq_true (by first | (with_reducible assumption) | assumption)
                                        have q967 : x15_3 < (t949.length : Int) := of_decide_eq_true (by first | (with_reducible assumption) | assumption)
                                        obtain ⟨ad967, A967_0, c967_0, e967, hx967_0, hl967_0, hi967_0⟩ := at_L1 (Kd.N_reads' HO_9.out).2.2 x15_3 p967 q967
                                        obtain rfl : ad961 = ad967 := (by injection e967)
                                        obtain ⟨ce967, hce967, hMe967, hcc967⟩ := Kd.N_get HO_9.out [] x15_3 p967 (by first | exact q967 | exact of_decide_eq_true (by first | (with_reducible assumption) | assumption) | (have e_ := (Kd.N_reads' HO_9.out).1; omega))
                                        obtain ⟨ua967_0, uc967_0, rfl, ul967_0, ge967_0⟩ := Kd.FK_slice_open hMe967
                                        have hv967_0 := hcc967 0 _ rfl
                                        rw [Nat.add_zero, show ((Kd.slice 3 (Kd.int .i64))).sz = 1 from rfl, Nat.mul_one] at hv967_0
                                        replace hv967_0 := Option.some.inj (hv967_0.symm.trans hx967_0)
                                        injection hv967_0 with hva_ hvn_ hvc_
                                        rw [hva_] at ge967_0
                                        rw [hvc_] at ul967_0
                                        have HL967_0 := Aside0.mk (show Kd.V (Kd.int .i64) 3 _ w.heap.size _ _ (rd_L1 t949 x15_3) from Kd.V_mk ul967_0 ge967_0)
                                        clear hva_ hvn_ hvc_ ge967_0 ul967_0
                                        clear hcc967 hce967
                                        have HR967_0 := Aside0.mk hi967_0
                                        have HC967_0 := Aside0.mk hl967_0
                                        clear hi967_0 hl967_0
                                        replace p967 := eq_true p967
                                        replace q967 := eq_true q967
                                        go_wp2
                                        go_ret
                                        exact ⟨by first | rfl | (simp [errW_none, errW_some] <;> rfl) | (simp [*, errW_none, errW_some] <;> rfl), by repeat (first | (with_reducible first | exact HB.out | apply below_alloc | apply pw_below_drewN | apply below_drew1 | refine below_set ?_ GE941.out) | exact HB.out)⟩
                                  · rw [if_neg c62] at H
                                    exact absurd H (by simp)
                                · rw [if_neg c61] at H
                                  exact absurd H (by simp)
                    · rw [if_neg c50] at H
                      exact absurd H (by simp)
                  · rw [if_neg c49] at H
                    have c49b0 : decide (x15_3 < (t949.length : Int)) = false := decide_eq_false c49
                    clear c49
                    by_cases c69 : t956 = 0
                    · rw [if_pos c69] at H
                      have c69b0 : (t956 == 0) = true := beq_iff_eq.mpr c69
                      have c69b1 : (t956 != 0) = false := bne_eq_false_iff_eq.mpr c69
                      clear c69
                      replace H := Option.bind_eq_some_iff.mp H
                      obtain ⟨⟨t971, t974⟩, A700, H⟩ := H
                      replace H : (if t974 = true then (if a2 < 0 then (pylonlaw16_TreeBalance.j5 k3 a2 a3 t953 t957 t971 true) else (if a2 ≥ a0_0 then (pylonlaw16_TreeBalance.j5 k3 a2 a3 t953 t957 t971 true) else (if a3 < 0 then (pylonlaw16_TreeBalance.j5 k3 a2 a3 t953 t957 t971 true) else (pylonlaw16_TreeBalance.j5 k3 a2 a3 t953 t957 t971 (decide (a3 ≥ a0_0)))))) else (pylonlaw16_TreeBalance.j5 k3 a2 a3 t953 t957 t971 true)) = some r := H
                      have A70 := Aside0.mk A700
                      clear A700
                      have HC71 := Aside0.mk H
                      clear H
                      obtain ⟨Ao72, co72, eo72⟩ := Kd.N_slice HO_9.out
                      subst eo72
                      have hcz73_0 : wr.cell? ⟨gb941, 0, none⟩ = some (.int .i64 a0_0) := (blk_cell BK941.out 0).trans rfl
                      have hcz73_1 : wr.cell? ⟨gb941, 1, none⟩ = some (.slice A0_1 l0_1.length c0_1) := (blk_cell BK941.out 1).trans rfl
                      have hfz73_0 := blk_frozen BK941.out 0
                      have hfz73_1 := blk_frozen BK941.out 1
                      obtain ⟨Ao74, co74, eo74⟩ := Kd.R_slice HO_11.out
                      subst eo74
                      go_upto_region 27 with (first | ((with_reducible refine gate_callee (f := 65) rfl ?_); refine goesL_ (some 135) rfl rfl Try.func65 (by kernel_rfl) rfl #[.agg #[.int .i64 a0_0, .slice A0_1 l0_1.length c0_1], .slice Ao74 t953.length co74] rfl (by (try simp only [List.map_toArray, List.map_cons, List.map_nil]); first | done | rfl | (simp only [List.length_drop, List.length_take]; rfl)) ?_; (with_reducible refine (pylonlaw16_balance.calls k3 a0_0 _ _ l0_1 _ _ t953 t971 t974 _ ?side1 ?side2 ?side3 ?side4 A70.out).mono ?_); (case side1 => repeat (first | exact (Kd.C_below HR0_1.out HB.out) | (with_reducible refine Kd.C_alloc ?_ _) | (with_reducible refine Kd.C_drewN ?_ _) | (with_reducible refine Kd.C_drew ?_))); (case side2 => exact HC0_1.out); (case side3 => repeat (first | exact (Kd.R_reads' HO_11.out).2.2 | (with_reducible refine Kd.C_alloc ?_ _) | (with_reducible refine Kd.C_drewN ?_ _) | (with_reducible refine Kd.C_drew ?_))); (case side4 => exact (Kd.R_reads' HO_11.out).2.1); rintro e w75 ⟨v972, rfl, ho0, hb⟩; refine ⟨_, rfl, ?_⟩; have n0_ := Aside0.mk (Kd.V_elder' (by (with_reducible repeat (first | apply Kd.V_alloc | apply Kd.V_drewN | apply Kd.V_drew)); exact HO_1.out) (Kd.R_base ho0) hb); have n1_ := Aside0.mk (Kd.N_elder' (by (with_reducible repeat (first | apply Kd.N_alloc | apply Kd.N_drewN | apply Kd.N_drew)); exact HO_9.out) (Kd.R_base ho0) hb); have n2_ := Aside0.mk (Kd.R_elder' (by (with_reducible repeat (first | apply Kd.R_alloc | apply Kd.R_drewN | apply Kd.R_drew)); exact HO_11.out) (Kd.R_base ho0) hb); have n3_ := Aside0.mk (Kd.R_elder' (by (with_reducible repeat (first | apply Kd.R_alloc | apply Kd.R_drewN | apply Kd.R_drew)); exact HO_13.out) (Kd.R_base ho0) hb); have n4_ := Aside0.mk (Kd.R_lower (Kd.R_new' (Kd.R_new' (Kd.R_newM (M := fun k_ => (w.heap.size ≤ k_)) ho0 (below_size (by repeat (first | (with_reducible first | exact HB.out | apply below_alloc | apply pw_below_drewN | apply below_drew1 | refine below_set ?_ GE941.out) | exact HB.out))) (fun k_ h_ => h_)) (Kd.R_lt (by (with_reducible repeat (first | apply Kd.R_alloc | apply Kd.R_drewN | apply Kd.R_drew)); exact HO_11.out))) (Kd.R_lt (by (with_reducible repeat (first | apply Kd.R_alloc | apply Kd.R_drewN | apply Kd.R_drew)); exact HO_13.out))) (below_size (by repeat (first | (with_reducible first | exact HB.out | apply below_alloc | apply pw_below_drewN | apply below_drew1 | refine below_set ?_ GE941.out) | exact HB.out)))); have n5_ := Aside0.mk (blk_below (g := gb941) (o := .cells #[.int .i64 a0_0, .slice A0_1 l0_1.length c0_1] 24 (0, 0)) (by (with_reducible repeat (first | refine blk_drewN ?_ _ | refine blk_drew ?_ | refine blk_alloc ?_ _)); exact BK941.out) hb); have n6_ := Aside0.mk (below_step (by repeat (first | (with_reducible first | exact HB.out | apply below_alloc | apply pw_below_drewN | apply below_drew1 | refine below_set ?_ GE941.out) | exact HB.out)) hb); clear HO_1; clear HO_9; clear HO_11; clear HO_13; clear BK941; clear HB; have HO_1 := n0_; have HO_9 := n1_; have HO_11 := n2_; have HO_13 := n3_; have HO973 := n4_; have BK941 := n5_; have HB := n6_; clear n0_ n1_ n2_ n3_ n4_ n5_ n6_; (try clear hb); (try clear hb2); (try clear hk); (try clear hi); (try clear ho0)))
                      (try simp only [Act.put, List.setIfInBounds_toArray, List.set_cons_zero, List.set_cons_succ])
                      go_cut [159] (fun v159 wc => ∃ (kq : Nat) (x159_70 : Bool), v159 = .bool x159_70 ∧ Aside0 (pylonlaw16_TreeBalance.j5 kq a2 a3 t953 t957 t971 x159_70 = some r) ∧ Aside0 (kq ≤ k3) ∧ Aside0 (Kd.R (Kd.int .i64) 3 wc w.heap.size (fun k_ => (w.heap.size ≤ k_) ∧ some k_ ≠ (v958 : Value).ownBlock ∧ some k_ ≠ (v972 : Value).ownBlock) (.slice Ao74 t953.length co74) t953) ∧ Aside0 (Kd.R (Kd.int .i64) 3 wc w.heap.size (fun k_ => (w.heap.size ≤ k_) ∧ some k_ ≠ ((.slice Ao74 t953.length co74) : Value).ownBlock ∧ some k_ ≠ (v972 : Value).ownBlock) v958 t957) ∧ Aside0 (Kd.R (Kd.int .i64) 3 wc w.heap.size (fun k_ => (w.heap.size ≤ k_) ∧ some k_ ≠ ((.slice Ao74 t953.length co74) : Value).ownBlock ∧ some k_ ≠ (v958 : Value).ownBlock) v972 t971) ∧ Aside0 (wc.heap[gb941]? = some (.cells #[.int .i64 a0_0, (.slice A0_1 l0_1.length c0_1)] 24 (0, 0))) ∧ Aside0 (Below w.heap.size w wc))
                      case first =>
                        have H := HC71.out
                        clear HC71
                        by_cases c76 : t974 = true
                        · as_aux_lemma =>
                          subst c76
                          have H1 : (if a2 < 0 then (pylonlaw16_TreeBalance.j5 k3 a2 a3 t953 t957 t971 true) else (if a2 ≥ a0_0 then (pylonlaw16_TreeBalance.j5 k3 a2 a3 t953 t957 t971 true) else (if a3 < 0 then (pylonlaw16_TreeBalance.j5 k3 a2 a3 t953 t957 t971 true) else (pylonlaw16_TreeBalance.j5 k3 a2 a3 t953 t957 t971 (decide (a3 ≥ a0_0)))))) = some r := by rw [if_pos rfl] at H; exact H
                          clear H
                          have H := H1
                          clear H1
                          by_cases c77 : a2 < 0
                          · rw [if_pos c77] at H
                            have c77b0 : decide (a2 < 0) = true := decide_eq_true c77
                            clear c77
                            (first | rw [c77b0] | (simp only [i64_w, i32_w]; rw [c77b0]) | skip)
                            have H' := Aside0.mk H
                            clear H
                            go_wp2
                            go_meet
                            case rel => exact ⟨_, (true), (by first | rfl | (simp; done) | (simp [*]; done)), H', ⟨by have := HJ4.out; have := HJ36.out; have := HK3.out; first | omega | exact Nat.le_refl _⟩, ⟨by (with_reducible repeat (first | apply Kd.R_alloc | apply Kd.R_drewN | apply Kd.R_drew)); exact Kd.R_mono HO_11.out (fun _ hk => ⟨hk.1.1, ⟨hk.1.2, hk.2⟩⟩)⟩, ⟨by (with_reducible repeat (first | apply Kd.R_alloc | apply Kd.R_drewN | apply Kd.R_drew)); exact Kd.R_mono HO_13.out (fun _ hk => ⟨hk.1.1, ⟨hk.1.2, hk.2⟩⟩)⟩, ⟨by (with_reducible repeat (first | apply Kd.R_alloc | apply Kd.R_drewN | apply Kd.R_drew)); exact Kd.R_mono HO973.out (fun _ hk => ⟨hk.1.1.1, ⟨hk.1.2, hk.2⟩⟩)⟩, ⟨by (with_reducible repeat (first | refine blk_drewN ?_ _ | refine blk_drew ?_ | refine blk_alloc ?_ _)); exact BK941.out⟩, ⟨by repeat (first | (with_reducible first | exact HB.out | apply below_alloc | apply pw_below_drewN | apply below_drew1 | refine below_set ?_ GE941.out) | exact HB.out)⟩⟩
                          · rw [if_neg c77] at H
                            have c77b0 : decide (a2 < 0) = false := decide_eq_false c77
                            clear c77
                            (first | rw [c77b0] | (simp only [i64_w, i32_w]; rw [c77b0]) | skip)
                            by_cases c78 : a2 ≥ a0_0
                            · rw [if_pos c78] at H
                              have c78b0 : decide (a0_0 ≤ a2) = true := decide_eq_true c78
                              clear c78
                              have H' := Aside0.mk H
                              clear H
                              have hcz79_0 : w75.cell? ⟨gb941, 0, none⟩ = some (.int .i64 a0_0) := (blk_cell BK941.out 0).trans rfl
                              have hcz79_1 : w75.cell? ⟨gb941, 1, none⟩ = some (.slice A0_1 l0_1.length c0_1) := (blk_cell BK941.out 1).trans rfl
                              have hfz79_0 := blk_frozen BK941.out 0
                              have hfz79_1 := blk_frozen BK941.out 1
                              go_wp2
                              go_meet
                              case rel => exact ⟨_, (true), (by first | rfl | (simp; done) | (simp [*]; done)), H', ⟨by have := HJ4.out; have := HJ36.out; have := HK3.out; first | omega | exact Nat.le_refl _⟩, ⟨by (with_reducible repeat (first | apply Kd.R_alloc | apply Kd.R_drewN | apply Kd.R_drew)); exact Kd.R_mono HO_11.out (fun _ hk => ⟨hk.1.1, ⟨hk.1.2, hk.2⟩⟩)⟩, ⟨by (with_reducible repeat (first | apply Kd.R_alloc | apply Kd.R_drewN | apply Kd.R_drew)); exact Kd.R_mono HO_13.out (fun _ hk => ⟨hk.1.1, ⟨hk.1.2, hk.2⟩⟩)⟩, ⟨by (with_reducible repeat (first | apply Kd.R_alloc | apply Kd.R_drewN | apply Kd.R_drew)); exact Kd.R_mono HO973.out (fun _ hk => ⟨hk.1.1.1, ⟨hk.1.2, hk.2⟩⟩)⟩, ⟨by (with_reducible repeat (first | refine blk_drewN ?_ _ | refine blk_drew ?_ | refine blk_alloc ?_ _)); exact BK941.out⟩, ⟨by repeat (first | (with_reducible first | exact HB.out | apply below_alloc | apply pw_below_drewN | apply below_drew1 | refine below_set ?_ GE941.out) | exact HB.out)⟩⟩
                            · rw [if_neg c78] at H
                              have c78b0 : decide (a0_0 ≤ a2) = false := decide_eq_false c78
                              clear c78
                              by_cases c80 : a3 < 0
                              · rw [if_pos c80] at H
                                have c80b0 : decide (a3 < 0) = true := decide_eq_true c80
                                clear c80
                                have H' := Aside0.mk H
                                clear H
                                have hcz81_0 : w75.cell? ⟨gb941, 0, none⟩ = some (.int .i64 a0_0) := (blk_cell BK941.out 0).trans rfl
                                have hcz81_1 : w75.cell? ⟨gb941, 1, none⟩ = some (.slice A0_1 l0_1.length c0_1) := (blk_cell BK941.out 1).trans rfl
                                have hfz81_0 := blk_frozen BK941.out 0
                                have hfz81_1 := blk_frozen BK941.out 1
                                go_wp2
                                go_meet
                                case rel => exact ⟨_, (true), (by first | rfl | (simp; done) | (simp [*]; done)), H', ⟨by have := HJ4.out; have := HJ36.out; have := HK3.out; first | omega | exact Nat.le_refl _⟩, ⟨by (with_reducible repeat (first | apply Kd.R_alloc | apply Kd.R_drewN | apply Kd.R_drew)); exact Kd.R_mono HO_11.out (fun _ hk => ⟨hk.1.1, ⟨hk.1.2, hk.2⟩⟩)⟩, ⟨by (with_reducible repeat (first | apply Kd.R_alloc | apply Kd.R_drewN | apply Kd.R_drew)); exact Kd.R_mono HO_13.out (fun _ hk => ⟨hk.1.1, ⟨hk.1.2, hk.2⟩⟩)⟩, ⟨by (with_reducible repeat (first | apply Kd.R_alloc | apply Kd.R_drewN | apply Kd.R_drew)); exact Kd.R_mono HO973.out (fun _ hk => ⟨hk.1.1.1, ⟨hk.1.2, hk.2⟩⟩)⟩, ⟨by (with_reducible repeat (first | refine blk_drewN ?_ _ | refine blk_drew ?_ | refine blk_alloc ?_ _)); exact BK941.out⟩, ⟨by repeat (first | (with_reducible first | exact HB.out | apply below_alloc | apply pw_below_drewN | apply below_drew1 | refine below_set ?_ GE941.out) | exact HB.out)⟩⟩
                              · rw [if_neg c80] at H
                                have c80b0 : decide (a3 < 0) = false := decide_eq_false c80
                                clear c80
                                have H' := Aside0.mk H
                                clear H
                                have hcz82_0 : w75.cell? ⟨gb941, 0, none⟩ = some (.int .i64 a0_0) := (blk_cell BK941.out 0).trans rfl
                                have hcz82_1 : w75.cell? ⟨gb941, 1, none⟩ = some (.slice A0_1 l0_1.length c0_1) := (blk_cell BK941.out 1).trans rfl
                                have hfz82_0 := blk_frozen BK941.out 0
                                have hfz82_1 := blk_frozen BK941.out 1
                                go_wp2
                                go_meet
                                case rel => exact ⟨_, (decide (a3 ≥ a0_0)), (by first | rfl | (simp; done) | (simp [*]; done)), H', ⟨by have := HJ4.out; have := HJ36.out; have := HK3.out; first | omega | exact Nat.le_refl _⟩, ⟨by (with_reducible repeat (first | apply Kd.R_alloc | apply Kd.R_drewN | apply Kd.R_drew)); exact Kd.R_mono HO_11.out (fun _ hk => ⟨hk.1.1, ⟨hk.1.2, hk.2⟩⟩)⟩, ⟨by (with_reducible repeat (first | apply Kd.R_alloc | apply Kd.R_drewN | apply Kd.R_drew)); exact Kd.R_mono HO_13.out (fun _ hk => ⟨hk.1.1, ⟨hk.1.2, hk.2⟩⟩)⟩, ⟨by (with_reducible repeat (first | apply Kd.R_alloc | apply Kd.R_drewN | apply Kd.R_drew)); exact Kd.R_mono HO973.out (fun _ hk => ⟨hk.1.1.1, ⟨hk.1.2, hk.2⟩⟩)⟩, ⟨by (with_reducible repeat (first | refine blk_drewN ?_ _ | refine blk_drew ?_ | refine blk_alloc ?_ _)); exact BK941.out⟩, ⟨by repeat (first | (with_reducible first | exact HB.out | apply below_alloc | apply pw_below_drewN | apply below_drew1 | refine below_set ?_ GE941.out) | exact HB.out)⟩⟩
                        · as_aux_lemma =>
                          replace c76 := Bool.eq_false_iff.mpr c76
                          subst c76
                          have H1 : (pylonlaw16_TreeBalance.j5 k3 a2 a3 t953 t957 t971 true) = some r := by rw [if_neg (show ¬ (false = true) by decide)] at H; exact H
                          clear H
                          have H := H1
                          clear H1
                          have H' := Aside0.mk H
                          clear H
                          go_wp2
                          go_meet
                          case rel => exact ⟨_, (true), (by first | rfl | (simp; done) | (simp [*]; done)), H', ⟨by have := HJ4.out; have := HJ36.out; have := HK3.out; first | omega | exact Nat.le_refl _⟩, ⟨by (with_reducible repeat (first | apply Kd.R_alloc | apply Kd.R_drewN | apply Kd.R_drew)); exact Kd.R_mono HO_11.out (fun _ hk => ⟨hk.1.1, ⟨hk.1.2, hk.2⟩⟩)⟩, ⟨by (with_reducible repeat (first | apply Kd.R_alloc | apply Kd.R_drewN | apply Kd.R_drew)); exact Kd.R_mono HO_13.out (fun _ hk => ⟨hk.1.1, ⟨hk.1.2, hk.2⟩⟩)⟩, ⟨by (with_reducible repeat (first | apply Kd.R_alloc | apply Kd.R_drewN | apply Kd.R_drew)); exact Kd.R_mono HO973.out (fun _ hk => ⟨hk.1.1.1, ⟨hk.1.2, hk.2⟩⟩)⟩, ⟨by (with_reducible repeat (first | refine blk_drewN ?_ _ | refine blk_drew ?_ | refine blk_alloc ?_ _)); exact BK941.out⟩, ⟨by repeat (first | (with_reducible first | exact HB.out | apply below_alloc | apply pw_below_drewN | apply below_drew1 | refine below_set ?_ GE941.out) | exact HB.out)⟩⟩
                      case rest =>
                        clear HC71
                        try clear c1
                        try clear c2
                        try clear p2
                        try clear c3
                        try clear c4
                        try clear c5
                        try clear c6
                        try clear p6
                        try clear c7
                        try clear c8
                        try clear c9
                        try clear p9
                        try clear q9
                        try clear hx9
                        try clear c15
                        try clear c16
                        try clear c28
                        try clear c31
                        try clear c44
                        try clear c44b0
                        try clear c44b1
                        try clear c45
                        try clear c45b0
                        try clear c45b1
                        try clear c46
                        try clear c46b0
                        try clear c46b1
                        try clear c48
                        try clear c49
                        try clear c49b0
                        try clear c50
                        try clear c50b0
                        try clear c51
                        try clear c55
                        try clear c55b0
                        try clear c56
                        try clear c56b0
                        try clear c57
                        try clear c57b0
                        try clear c57b1
                        try clear c61
                        try clear c61b0
                        try clear c62
                        try clear c62b0
                        try clear c63
                        try clear c63b0
                        try clear c64
                        try clear c64b0
                        try clear p64
                        try clear c65
                        try clear c65b0
                        try clear c65b1
                        try clear c67
                        try clear c68
                        try clear c69
                        try clear c69b0
                        try clear c69b1
                        try clear c76
                        try clear c77
                        try clear c77b0
                        try clear c78
                        try clear c78b0
                        try clear c80
                        try clear c80b0
                        try clear hcz17_0
                        try clear hcz17_1
                        try clear hcz23_0
                        try clear hcz23_1
                        try clear hcz25_0
                        try clear hcz25_1
                        try clear hcz38_0
                        try clear hcz38_1
                        try clear hcz40_0
                        try clear hcz40_1
                        try clear hcz42_0
                        try clear hcz42_1
                        try clear hcz73_0
                        try clear hcz73_1
                        try clear hcz79_0
                        try clear hcz79_1
                        try clear hcz81_0
                        try clear hcz81_1
                        try clear hcz82_0
                        try clear hcz82_1
                        try clear hcz9_0
                        try clear hcz9_1
                        try clear hfz17_0
                        try clear hfz17_1
                        try clear hfz23_0
                        try clear hfz23_1
                        try clear hfz25_0
                        try clear hfz25_1
                        try clear hfz38_0
                        try clear hfz38_1
                        try clear hfz40_0
                        try clear hfz40_1
                        try clear hfz42_0
                        try clear hfz42_1
                        try clear hfz73_0
                        try clear hfz73_1
                        try clear hfz79_0
                        try clear hfz79_1
                        try clear hfz81_0
                        try clear hfz81_1
                        try clear hfz82_0
                        try clear hfz82_1
                        try clear hfz9_0
                        try clear hfz9_1
                        try clear hx961_0
                        try clear hx966_0
                        try clear hx967_0
                        try clear hx968_0
                        try clear hx969_0
                        try clear p2
                        try clear p6
                        try clear p9
                        try clear p961
                        try clear p966
                        try clear p967
                        try clear p968
                        try clear p969
                        try clear q9
                        try clear q961
                        try clear q966
                        try clear q967
                        try clear q968
                        try clear q969
                        obtain ⟨kq, x159_70, rfl, HA, HJ70, HO_11, HO_13, HO_20, BK941, HB⟩ := hcut
                        cases kq with
                        | zero => exact absurd HA.out (by simp [pylonlaw16_TreeBalance.j5])
                        | succ kj70 =>
                          have H := HA.out
                          clear HA
                          simp only [pylonlaw16_TreeBalance.j5] at H
                          by_cases c83 : x159_70 = true
                          · as_aux_lemma =>
                            subst c83
                            have H1 : (some false) = some r := by rw [if_pos rfl] at H; exact H
                            clear H
                            have H := H1
                            clear H1
                            obtain rfl := Option.some.inj H
                            go_wp2
                            go_ret
                            exact ⟨by first | rfl | (simp [errW_none, errW_some] <;> rfl) | (simp [*, errW_none, errW_some] <;> rfl), by repeat (first | (with_reducible first | exact HB.out | apply below_alloc | apply pw_below_drewN | apply below_drew1 | refine below_set ?_ GE941.out) | exact HB.out)⟩
                          · as_aux_lemma =>
                            replace c83 := Bool.eq_false_iff.mpr c83
                            subst c83
                            have H1 : (if 0 ≤ a2 then (if a2 < (t971.length : Int) then ((some (t971.set (a2 : Int).toNat (wrap64 ((rd t971 a2) - 1)) : List Int)).bind fun y976 => (if 0 ≤ a3 then (if a3 < (t971.length : Int) then (pylonlaw16_TreeBalance.l3 kj70 t953 t957 (y976.set (a3 : Int).toNat (wrap64 ((rd y976 a3) + 1))) 0) else (none)) else (none))) else (none)) else (none)) = some r := by rw [if_neg (show ¬ (false = true) by decide)] at H; exact H
                            clear H
                            have H := H1
                            clear H1
                            by_cases c84 : 0 ≤ a2
                            · rw [if_pos c84] at H
                              have c84b0 : decide (0 ≤ a2) = true := decide_eq_true c84
                              clear c84
                              by_cases c85 : a2 < (t971.length : Int)
                              · rw [if_pos c85] at H
                                have c85b0 : decide (a2 < (t971.length : Int)) = true := decide_eq_true c85
                                clear c85
                                obtain ⟨y976, hy976⟩ : ∃ y_ : List Int, y_ = (t971.set (a2 : Int).toNat (wrap64 ((rd t971 a2) - 1))) := ⟨_, rfl⟩
                                replace H : (if 0 ≤ a3 then (if a3 < (t971.length : Int) then (pylonlaw16_TreeBalance.l3 kj70 t953 t957 (y976.set (a3 : Int).toNat (wrap64 ((rd y976 a3) + 1))) 0) else (none)) else (none)) = some r := by first | (rw [hy976]; with_reducible exact H) | (have H2_ := (Option.bind_some _ _).symm.trans H; rw [hy976]; with_reducible exact H2_) | (have H2_ := (Option.bind_some _ _).symm.trans H; with_reducible exact H2_) | with_reducible exact H | (rw [hy976]; exact H) | exact H
                                have Ny976 := Aside0.mk hy976
                                clear hy976
                                by_cases c87 : 0 ≤ a3
                                · rw [if_pos c87] at H
                                  have c87b0 : decide (0 ≤ a3) = true := decide_eq_true c87
                                  clear c87
                                  by_cases c88 : a3 < (t971.length : Int)
                                  · rw [if_pos c88] at H
                                    have c88b0 : decide (a3 < (t971.length : Int)) = true := decide_eq_true c88
                                    clear c88
                                    obtain ⟨y978, hy978⟩ : ∃ y_ : List Int, y_ = (y976.set (a3 : Int).toNat (wrap64 ((rd y976 a3) + 1))) := ⟨_, rfl⟩
                                    replace H : (pylonlaw16_TreeBalance.l3 kj70 t953 t957 y978 0) = some r := by first | (rw [hy978]; with_reducible exact H) | (have H2_ := (Option.bind_some _ _).symm.trans H; rw [hy978]; with_reducible exact H2_) | (have H2_ := (Option.bind_some _ _).symm.trans H; with_reducible exact H2_) | with_reducible exact H | (rw [hy978]; exact H) | exact H
                                    have Ny978 := Aside0.mk hy978
                                    clear hy978
                                    have H' := Aside0.mk H
                                    clear H
                                    obtain ⟨Ao90, co90, eo90⟩ := Kd.R_slice HO_20.out
                                    subst eo90
                                    have p975 : 0 ≤ (a2 : Int) := of_decide_eq_true (by first | (with_reducible assumption) | assumption)
                                    have q975 : a2 < (t971.length : Int) := of_decide_eq_true (by first | (with_reducible assumption) | assumption)
                                    obtain ⟨ad975, e975, hx975_0⟩ := Kd.at_int (Kd.R_reads' HO_20.out).2.2 a2 p975 q975
                                    cases e975
                                    replace p975 := eq_true p975
                                    replace q975 := eq_true q975
                                    have p86 : 0 ≤ (a2 : Int) := of_decide_eq_true (by first | (with_reducible assumption) | assumption)
                                    have q86 : (a2 : Int) < ((t971.length : Int) : Int) := of_decide_eq_true (by first | (with_reducible assumption) | assumption)
                                    obtain ⟨go86, co86, eo86, gb86, gl86, cl86, HG86⟩ := Kd.R_form HO_20.out (by omega)
                                    (first | cases eo86 | (injection eo86 with ea_ en_ ec_; (first | subst ea_ | (injection ea_ with ea_; subst ea_)); subst ec_; clear en_))
                                    have GB86 := Aside0.mk gb86
                                    have GG86 := Aside0.mk HG86
                                    clear gb86 gl86 HG86
                                    (first | simp only [add_plain] at hx975_0 | skip)
                                    obtain ⟨hx86_0, hf86_0⟩ := Kd.R_celln 0 HO_20.out (a2 : Int) p86 q86
                                    replace p86 := eq_true p86
                                    replace q86 := eq_true q86
                                    have HP91 := Kd.R_putg HO_20.out (a2 : Int) (wrap64 ((rd t971 a2) - 1))
                                    go_wp2_with (first | ((with_reducible refine gate_store (t := 3) (p := 165) rfl ?_); refine store_event (t := 3) (p := 165) (v := ?vo_w92) (w1 := (wc.setCell ⟨go86, (a2 : Int).toNat, none⟩ (.int .i64 (wrap64 ((rd t971 a2) - 1))))) ?hg ?ho ?hn ?hr ?_; (case ho => rfl); (case hg => rfl); (case hn => rfl); (case hr => first | (go_simp; done) | (go_simp; rfl)); intro w92 hw; have hg : wc.grownBy w92 (some go86) := (by rw [hw]; exact HP91.2); have hp_ : Kd.R (Kd.int .i64) 3 w92 w.heap.size (fun k_ => (w.heap.size ≤ k_) ∧ some k_ ≠ (.slice Ao74 t953.length co74 : Value).ownBlock ∧ some k_ ≠ (v958 : Value).ownBlock) (.slice (some ⟨go86, 0, none⟩) t971.length co90) y976 := (by rw [hw, Ny976.out]; exact HP91.1); clear HP91; have n0_ := Aside0.mk (Kd.R_after (v := (.slice (some ⟨go86, 0, none⟩) t971.length co90)) (v1 := (.slice (some ⟨go86, 0, none⟩) t971.length co90)) (ok := (fun k_ => (w.heap.size ≤ k_) ∧ some k_ ≠ (v958 : Value).ownBlock)) (by (with_reducible repeat (first | apply Kd.R_alloc | apply Kd.R_drewN | apply Kd.R_drew)); exact Kd.R_mono HO_11.out (fun _ hk => ⟨⟨hk.1, hk.2.1⟩, hk.2.2⟩)) hg (.inl rfl)); have n1_ := Aside0.mk (Kd.R_after (v := (.slice (some ⟨go86, 0, none⟩) t971.length co90)) (v1 := (.slice (some ⟨go86, 0, none⟩) t971.length co90)) (ok := (fun k_ => (w.heap.size ≤ k_) ∧ some k_ ≠ (.slice Ao74 t953.length co74 : Value).ownBlock)) (by (with_reducible repeat (first | apply Kd.R_alloc | apply Kd.R_drewN | apply Kd.R_drew)); exact Kd.R_mono HO_13.out (fun _ hk => ⟨⟨hk.1, hk.2.1⟩, hk.2.2⟩)) hg (.inl rfl)); have n2_ := Aside0.mk (hp_); have n3_ := Aside0.mk (blk_grown (g := gb941) (o := .cells #[.int .i64 a0_0, .slice A0_1 l0_1.length c0_1] 24 (0, 0)) (by (with_reducible repeat (first | refine blk_drewN ?_ _ | refine blk_drew ?_ | refine blk_alloc ?_ _)); exact BK941.out) hg (Kd.R_ne HO_20.out BK941.out (by decide))); have n4_ := Aside0.mk ((by rw [hw]; exact below_set (HB.out) GB86.out : Below w.heap.size w w92)); clear HO_11; clear HO_13; clear HO_20; clear BK941; clear HB; have HO_11 := n0_; have HO_13 := n1_; have HO_20 := n2_; have BK941 := n3_; have HB := n4_; clear n0_ n1_ n2_ n3_ n4_; clear hg hw hp_; have p977 : 0 ≤ (a3 : Int) := of_decide_eq_true (by first | (with_reducible assumption) | assumption); have q977 : a3 < (y976.length : Int) := (by have h_ : (a3 : Int) < ((t971.length : Int) : Int) := of_decide_eq_true (by first | (with_reducible assumption) | assumption); first | (have e_ := (Kd.R_reads' HO_20.out).1; omega) | simpa only [Ny976.out, List.length_set] using h_); have ql977 : ((a3 : Int) < ((t971.length : Int) : Int)) = True := eq_true (of_decide_eq_true (by first | (with_reducible assumption) | assumption)); obtain ⟨ad977, e977, hx977_0⟩ := Kd.at_int (Kd.R_reads' HO_20.out).2.2 a3 p977 q977; obtain rfl : (⟨go86, 0, none⟩ : Addr) = ad977 := (by injection e977); (first | simp only [add_plain] at hx977_0 | simp only [add_at] at hx977_0 | simp only [Addr.add, Nat.zero_add] at hx977_0 | skip); replace p977 := eq_true p977; replace q977 := eq_true q977; have p89 : 0 ≤ (a3 : Int) := of_decide_eq_true (by first | (with_reducible assumption) | assumption); have q89 : (a3 : Int) < ((t971.length : Int) : Int) := of_decide_eq_true (by first | (with_reducible assumption) | assumption); obtain ⟨hx89_0, hf89_0⟩ := Kd.R_celln 0 HO_20.out (a3 : Int) p89 q89; replace p89 := eq_true p89; replace q89 := eq_true q89; obtain ⟨hy93_, hz93_⟩ := Kd.R_celln 0 HO_20.out (a3 : Int) (of_decide_eq_true (by first | (with_reducible assumption) | assumption)) (of_decide_eq_true (by first | (with_reducible assumption) | assumption)); have HP93 := Kd.R_putg HO_20.out (a3 : Int) (wrap64 ((rd y976 a3) + 1))) | ((with_reducible refine gate_store (t := 3) (p := 171) rfl ?_); refine store_event (t := 3) (p := 171) (v := ?vo_w94) (w1 := (w92.setCell ⟨go86, (a3 : Int).toNat, none⟩ (.int .i64 (wrap64 ((rd y976 a3) + 1))))) ?hg ?ho ?hn ?hr ?_; (case ho => rfl); (case hg => rfl); (case hn => rfl); (case hr => first | (go_simp; done) | (go_simp; rfl)); intro w94 hw; have hg : w92.grownBy w94 (some go86) := (by rw [hw]; exact HP93.2); have hp_ : Kd.R (Kd.int .i64) 3 w94 w.heap.size (fun k_ => (w.heap.size ≤ k_) ∧ some k_ ≠ (.slice Ao74 t953.length co74 : Value).ownBlock ∧ some k_ ≠ (v958 : Value).ownBlock) (.slice (some ⟨go86, 0, none⟩) t971.length co90) y978 := (by rw [hw, Ny978.out]; exact HP93.1); clear HP93; have n0_ := Aside0.mk (Kd.R_after (v := (.slice (some ⟨go86, 0, none⟩) t971.length co90)) (v1 := (.slice (some ⟨go86, 0, none⟩) t971.length co90)) (ok := (fun k_ => (w.heap.size ≤ k_) ∧ some k_ ≠ (v958 : Value).ownBlock)) (by (with_reducible repeat (first | apply Kd.R_alloc | apply Kd.R_drewN | apply Kd.R_drew)); exact HO_11.out) hg (.inl rfl)); have n1_ := Aside0.mk (Kd.R_after (v := (.slice (some ⟨go86, 0, none⟩) t971.length co90)) (v1 := (.slice (some ⟨go86, 0, none⟩) t971.length co90)) (ok := (fun k_ => (w.heap.size ≤ k_) ∧ some k_ ≠ (.slice Ao74 t953.length co74 : Value).ownBlock)) (by (with_reducible repeat (first | apply Kd.R_alloc | apply Kd.R_drewN | apply Kd.R_drew)); exact HO_13.out) hg (.inl rfl)); have n2_ := Aside0.mk (hp_); have n3_ := Aside0.mk (blk_grown (g := gb941) (o := .cells #[.int .i64 a0_0, .slice A0_1 l0_1.length c0_1] 24 (0, 0)) (by (with_reducible repeat (first | refine blk_drewN ?_ _ | refine blk_drew ?_ | refine blk_alloc ?_ _)); exact BK941.out) hg (Kd.R_ne HO_20.out BK941.out (by decide))); have n4_ := Aside0.mk ((by rw [hw]; exact below_set (HB.out) GB86.out : Below w.heap.size w w94)); clear HO_11; clear HO_13; clear HO_20; clear BK941; clear HB; have HO_11 := n0_; have HO_13 := n1_; have HO_20 := n2_; have BK941 := n3_; have HB := n4_; clear n0_ n1_ n2_ n3_ n4_; clear hg hw hp_))
                                    go_loopg [22] kj70 (fun kq v22 w' => ∃ (x22_5 : Int), v22 = .int .i64 x22_5 ∧ Aside0 (pylonlaw16_TreeBalance.l3 kq t953 t957 y978 x22_5 = some r) ∧ Aside0 (kq ≤ kj70) ∧ Aside0 (Kd.R (Kd.int .i64) 3 w' w.heap.size (fun k_ => (w.heap.size ≤ k_) ∧ some k_ ≠ (v958 : Value).ownBlock ∧ some k_ ≠ ((.slice (some ⟨go86, 0, none⟩) t971.length co90) : Value).ownBlock) (.slice Ao74 t953.length co74) t953) ∧ Aside0 (Kd.R (Kd.int .i64) 3 w' w.heap.size (fun k_ => (w.heap.size ≤ k_) ∧ some k_ ≠ ((.slice Ao74 t953.length co74) : Value).ownBlock ∧ some k_ ≠ ((.slice (some ⟨go86, 0, none⟩) t971.length co90) : Value).ownBlock) v958 t957) ∧ Aside0 (Kd.R (Kd.int .i64) 3 w' w.heap.size (fun k_ => (w.heap.size ≤ k_) ∧ some k_ ≠ ((.slice Ao74 t953.length co74) : Value).ownBlock ∧ some k_ ≠ (v958 : Value).ownBlock) (.slice (some ⟨go86, 0, none⟩) t971.length co90) y978) ∧ Aside0 (w'.heap[gb941]? = some (.cells #[.int .i64 a0_0, (.slice A0_1 l0_1.length c0_1)] 24 (0, 0))) ∧ Aside0 (Below w.heap.size w w'))
                                    case atStart => exact ⟨(0), (by first | rfl | (simp; done) | (simp [*]; done)), H', ⟨Nat.le_refl _⟩, ⟨by (with_reducible repeat (first | apply Kd.R_alloc | apply Kd.R_drewN | apply Kd.R_drew)); exact Kd.R_mono HO_11.out (fun _ hk => ⟨hk.1.1, ⟨hk.1.2, hk.2⟩⟩)⟩, ⟨by (with_reducible repeat (first | apply Kd.R_alloc | apply Kd.R_drewN | apply Kd.R_drew)); exact Kd.R_mono HO_13.out (fun _ hk => ⟨hk.1.1, ⟨hk.1.2, hk.2⟩⟩)⟩, ⟨by (with_reducible repeat (first | apply Kd.R_alloc | apply Kd.R_drewN | apply Kd.R_drew)); exact HO_20.out⟩, ⟨by (with_reducible repeat (first | refine blk_drewN ?_ _ | refine blk_drew ?_ | refine blk_alloc ?_ _)); exact BK941.out⟩, ⟨by repeat (first | (with_reducible first | exact HB.out | apply below_alloc | apply pw_below_drewN | apply below_drew1 | refine below_set ?_ GE941.out) | exact HB.out)⟩⟩
                                    case round => as_aux_lemma =>
                                      clear H'
                                      try clear c1
                                      try clear c2
                                      try clear p2
                                      try clear c3
                                      try clear c4
                                      try clear c5
                                      try clear c6
                                      try clear p6
                                      try clear c7
                                      try clear c8
                                      try clear p8
                                      try clear q8
                                      try clear hx8
                                      try clear hf8
                                      try clear c9
                                      try clear p9
                                      try clear q9
                                      try clear hx9
                                      try clear c15
                                      try clear c16
                                      try clear c28
                                      try clear c31
                                      try clear c44
                                      try clear c44b0
                                      try clear c44b1
                                      try clear c45
                                      try clear c45b0
                                      try clear c45b1
                                      try clear c46
                                      try clear c46b0
                                      try clear c46b1
                                      try clear c48
                                      try clear c49
                                      try clear c49b0
                                      try clear c50
                                      try clear c50b0
                                      try clear c51
                                      try clear c55
                                      try clear c55b0
                                      try clear c56
                                      try clear c56b0
                                      try clear c57
                                      try clear c57b0
                                      try clear c57b1
                                      try clear c61
                                      try clear c61b0
                                      try clear c62
                                      try clear c62b0
                                      try clear c63
                                      try clear c63b0
                                      try clear c64
                                      try clear c64b0
                                      try clear p64
                                      try clear c65
                                      try clear c65b0
                                      try clear c65b1
                                      try clear c67
                                      try clear c68
                                      try clear c69
                                      try clear c69b0
                                      try clear c69b1
                                      try clear c76
                                      try clear c77
                                      try clear c77b0
                                      try clear c78
                                      try clear c78b0
                                      try clear c80
                                      try clear c80b0
                                      try clear c83
                                      try clear c84
                                      try clear c84b0
                                      try clear c85
                                      try clear c85b0
                                      try clear p86
                                      try clear q86
                                      try clear hx86
                                      try clear hf86
                                      try clear c87
                                      try clear c87b0
                                      try clear c88
                                      try clear c88b0
                                      try clear p89
                                      try clear q89
                                      try clear hx89
                                      try clear hf89
                                      try clear hcz17_0
                                      try clear hcz17_1
                                      try clear hcz23_0
                                      try clear hcz23_1
                                      try clear hcz25_0
                                      try clear hcz25_1
                                      try clear hcz38_0
                                      try clear hcz38_1
                                      try clear hcz40_0
                                      try clear hcz40_1
                                      try clear hcz42_0
                                      try clear hcz42_1
                                      try clear hcz73_0
                                      try clear hcz73_1
                                      try clear hcz79_0
                                      try clear hcz79_1
                                      try clear hcz81_0
                                      try clear hcz81_1
                                      try clear hcz82_0
                                      try clear hcz82_1
                                      try clear hcz9_0
                                      try clear hcz9_1
                                      try clear hfz17_0
                                      try clear hfz17_1
                                      try clear hfz23_0
                                      try clear hfz23_1
                                      try clear hfz25_0
                                      try clear hfz25_1
                                      try clear hfz38_0
                                      try clear hfz38_1
                                      try clear hfz40_0
                                      try clear hfz40_1
                                      try clear hfz42_0
                                      try clear hfz42_1
                                      try clear hfz73_0
                                      try clear hfz73_1
                                      try clear hfz79_0
                                      try clear hfz79_1
                                      try clear hfz81_0
                                      try clear hfz81_1
                                      try clear hfz82_0
                                      try clear hfz82_1
                                      try clear hfz9_0
                                      try clear hfz9_1
                                      try clear hx86_0
                                      try clear hx89_0
                                      try clear hx961_0
                                      try clear hx966_0
                                      try clear hx967_0
                                      try clear hx968_0
                                      try clear hx969_0
                                      try clear hx975_0
                                      try clear hx977_0
                                      try clear p2
                                      try clear p6
                                      try clear p64
                                      try clear p86
                                      try clear p89
                                      try clear p9
                                      try clear p961
                                      try clear p966
                                      try clear p967
                                      try clear p968
                                      try clear p969
                                      try clear p975
                                      try clear p977
                                      try clear q86
                                      try clear q89
                                      try clear q9
                                      try clear q961
                                      try clear q966
                                      try clear q967
                                      try clear q968
                                      try clear q969
                                      try clear q975
                                      try clear q977
                                      obtain ⟨x22_5, rfl, HA, HK5, HO_11, HO_13, HO_20, BK941, HB⟩ := hrel
                                      have hl20_5 := (Kd.R_reads' HO_20.out).1
                                      rw [hl20_5] at HO_20
                                      (try simp only [hl20_5])
                                      (try simp only [hl20_5] at BK941)
                                      (try simp only [hl20_5] at HO_11)
                                      (try simp only [hl20_5] at HO_13)
                                      cases gk with
                                      | zero => exact absurd HA.out (by simp [pylonlaw16_TreeBalance.l3])
                                      | succ k5 =>
                                        have H := HA.out
                                        clear HA
                                        simp only [pylonlaw16_TreeBalance.l3] at H
                                        by_cases c95 : x22_5 < (y978.length : Int)
                                        · rw [if_pos c95] at H
                                          have c95b0 : decide (x22_5 < (y978.length : Int)) = true := decide_eq_true c95
                                          clear c95
                                          by_cases c96 : 0 ≤ x22_5
                                          · rw [if_pos c96] at H
                                            have c96b0 : decide (0 ≤ x22_5) = true := decide_eq_true c96
                                            clear c96
                                            by_cases c97 : (rd y978 x22_5) = 0
                                            · rw [if_pos c97] at H
                                              have c97b0 : ((rd y978 x22_5) == 0) = true := beq_iff_eq.mpr c97
                                              have c97b1 : ((rd y978 x22_5) != 0) = false := bne_eq_false_iff_eq.mpr c97
                                              clear c97
                                              have H' := Aside0.mk H
                                              clear H
                                              have p979 : 0 ≤ (x22_5 : Int) := of_decide_eq_true (by first | (with_reducible assumption) | assumption)
                                              have q979 : x22_5 < (y978.length : Int) := of_decide_eq_true (by first | (with_reducible assumption) | assumption)
                                              obtain ⟨ad979, e979, hx979_0⟩ := Kd.at_int (Kd.R_reads' HO_20.out).2.2 x22_5 p979 q979
                                              obtain rfl : (⟨go86, 0, none⟩ : Addr) = ad979 := (by injection e979)
                                              (first | simp only [add_plain] at hx979_0 | simp only [add_at] at hx979_0 | simp only [Addr.add, Nat.zero_add] at hx979_0 | skip)
                                              replace p979 := eq_true p979
                                              replace q979 := eq_true q979
                                              go_wp2
                                              (try simp only [← hl20_5])
                                              go_roundg k5
                                              case measure => have := HJ4.out; have := HJ36.out; have := HK3.out; have := HJ70.out; have := HK5.out; omega
                                              case rel => exact ⟨(wrap64 (x22_5 + 1)), (by first | rfl | (simp; done) | (simp [*]; done)), H', ⟨by have := HJ4.out; have := HJ36.out; have := HK3.out; have := HJ70.out; have := HK5.out; omega⟩, ⟨by (try simp only [hl20_5]); (with_reducible repeat (first | apply Kd.R_alloc | apply Kd.R_drewN | apply Kd.R_drew)); exact HO_11.out⟩, ⟨by (try simp only [hl20_5]); (with_reducible repeat (first | apply Kd.R_alloc | apply Kd.R_drewN | apply Kd.R_drew)); exact HO_13.out⟩, ⟨by (try simp only [hl20_5]); (with_reducible repeat (first | apply Kd.R_alloc | apply Kd.R_drewN | apply Kd.R_drew)); exact HO_20.out⟩, ⟨by (try simp only [hl20_5]); (with_reducible repeat (first | refine blk_drewN ?_ _ | refine blk_drew ?_ | refine blk_alloc ?_ _)); exact BK941.out⟩, ⟨by repeat (first | (with_reducible first | exact HB.out | apply below_alloc | apply pw_below_drewN | apply below_drew1 | refine below_set ?_ GE941.out) | exact HB.out)⟩⟩
                                            · rw [if_neg c97] at H
                                              have c97b0 : ((rd y978 x22_5) == 0) = false := beq_eq_false_iff_ne.mpr c97
                                              have c97b1 : ((rd y978 x22_5) != 0) = true := bne_iff_ne.mpr c97
                                              obtain rfl := Option.some.inj H
                                              have p979 : 0 ≤ (x22_5 : Int) := of_decide_eq_true (by first | (with_reducible assumption) | assumption)
                                              have q979 : x22_5 < (y978.length : Int) := of_decide_eq_true (by first | (with_reducible assumption) | assumption)
                                              obtain ⟨ad979, e979, hx979_0⟩ := Kd.at_int (Kd.R_reads' HO_20.out).2.2 x22_5 p979 q979
                                              obtain rfl : (⟨go86, 0, none⟩ : Addr) = ad979 := (by injection e979)
                                              (first | simp only [add_plain] at hx979_0 | simp only [add_at] at hx979_0 | simp only [Addr.add, Nat.zero_add] at hx979_0 | skip)
                                              replace p979 := eq_true p979
                                              replace q979 := eq_true q979
                                              go_wp2
                                              go_ret
                                              exact ⟨by first | rfl | (simp [errW_none, errW_some] <;> rfl) | (simp [*, errW_none, errW_some] <;> rfl), by repeat (first | (with_reducible first | exact HB.out | apply below_alloc | apply pw_below_drewN | apply below_drew1 | refine below_set ?_ GE941.out) | exact HB.out)⟩
                                          · rw [if_neg c96] at H
                                            exact absurd H (by simp)
                                        · rw [if_neg c95] at H
                                          have c95b0 : decide (x22_5 < (y978.length : Int)) = false := decide_eq_false c95
                                          clear c95
                                          have H' := Aside0.mk H
                                          clear H
                                          go_wp2
                                          go_loopg [23] k5 (fun kq v23 w' => ∃ (x23_6 : Int), v23 = .int .i64 x23_6 ∧ Aside0 (pylonlaw16_TreeBalance.l4 kq t953 t957 x23_6 = some r) ∧ Aside0 (kq ≤ k5) ∧ Aside0 (Kd.R (Kd.int .i64) 3 w' w.heap.size (fun k_ => (w.heap.size ≤ k_) ∧ some k_ ≠ (v958 : Value).ownBlock) (.slice Ao74 t953.length co74) t953) ∧ Aside0 (Kd.R (Kd.int .i64) 3 w' w.heap.size (fun k_ => (w.heap.size ≤ k_) ∧ some k_ ≠ ((.slice Ao74 t953.length co74) : Value).ownBlock) v958 t957) ∧ Aside0 (w'.heap[gb941]? = some (.cells #[.int .i64 a0_0, (.slice A0_1 l0_1.length c0_1)] 24 (0, 0))) ∧ Aside0 (Below w.heap.size w w'))
                                          case atStart => exact ⟨(0), (by first | rfl | (simp; done) | (simp [*]; done)), H', ⟨Nat.le_refl _⟩, ⟨by (try simp only [hl20_5]); (with_reducible repeat (first | apply Kd.R_alloc | apply Kd.R_drewN | apply Kd.R_drew)); exact Kd.R_mono HO_11.out (fun _ hk => ⟨hk.1, hk.2.1⟩)⟩, ⟨by (try simp only [hl20_5]); (with_reducible repeat (first | apply Kd.R_alloc | apply Kd.R_drewN | apply Kd.R_drew)); exact Kd.R_mono HO_13.out (fun _ hk => ⟨hk.1, hk.2.1⟩)⟩, ⟨by (try simp only [hl20_5]); (with_reducible repeat (first | refine blk_drewN ?_ _ | refine blk_drew ?_ | refine blk_alloc ?_ _)); exact BK941.out⟩, ⟨by repeat (first | (with_reducible first | exact HB.out | apply below_alloc | apply pw_below_drewN | apply below_drew1 | refine below_set ?_ GE941.out) | exact HB.out)⟩⟩
                                          case round => as_aux_lemma =>
                                            clear H'
                                            try clear c1
                                            try clear c2
                                            try clear p2
                                            try clear c3
                                            try clear c4
                                            try clear c5
                                            try clear c6
                                            try clear p6
                                            try clear c7
                                            try clear c8
                                            try clear p8
                                            try clear q8
                                            try clear hx8
                                            try clear hf8
                                            try clear c9
                                            try clear p9
                                            try clear q9
                                            try clear hx9
                                            try clear c15
                                            try clear c16
                                            try clear c28
                                            try clear c31
                                            try clear c44
                                            try clear c44b0
                                            try clear c44b1
                                            try clear c45
                                            try clear c45b0
                                            try clear c45b1
                                            try clear c46
                                            try clear c46b0
                                            try clear c46b1
                                            try clear c48
                                            try clear c49
                                            try clear c49b0
                                            try clear c50
                                            try clear c50b0
                                            try clear c51
                                            try clear c55
                                            try clear c55b0
                                            try clear c56
                                            try clear c56b0
                                            try clear c57
                                            try clear c57b0
                                            try clear c57b1
                                            try clear c61
                                            try clear c61b0
                                            try clear c62
                                            try clear c62b0
                                            try clear c63
                                            try clear c63b0
                                            try clear c64
                                            try clear c64b0
                                            try clear p64
                                            try clear c65
                                            try clear c65b0
                                            try clear c65b1
                                            try clear c67
                                            try clear c68
                                            try clear c69
                                            try clear c69b0
                                            try clear c69b1
                                            try clear c76
                                            try clear c77
                                            try clear c77b0
                                            try clear c78
                                            try clear c78b0
                                            try clear c80
                                            try clear c80b0
                                            try clear c83
                                            try clear c84
                                            try clear c84b0
                                            try clear c85
                                            try clear c85b0
                                            try clear p86
                                            try clear q86
                                            try clear hx86
                                            try clear hf86
                                            try clear c87
                                            try clear c87b0
                                            try clear c88
                                            try clear c88b0
                                            try clear p89
                                            try clear q89
                                            try clear hx89
                                            try clear hf89
                                            try clear c95
                                            try clear c95b0
                                            try clear c96
                                            try clear c96b0
                                            try clear p96
                                            try clear q96
                                            try clear hx96
                                            try clear c97
                                            try clear c97b0
                                            try clear c97b1
                                            try clear p97
                                            try clear q97
                                            try clear hx97
                                            try clear hcz17_0
                                            try clear hcz17_1
                                            try clear hcz23_0
                                            try clear hcz23_1
                                            try clear hcz25_0
                                            try clear hcz25_1
                                            try clear hcz38_0
                                            try clear hcz38_1
                                            try clear hcz40_0
                                            try clear hcz40_1
                                            try clear hcz42_0
                                            try clear hcz42_1
                                            try clear hcz73_0
                                            try clear hcz73_1
                                            try clear hcz79_0
                                            try clear hcz79_1
                                            try clear hcz81_0
                                            try clear hcz81_1
                                            try clear hcz82_0
                                            try clear hcz82_1
                                            try clear hcz9_0
                                            try clear hcz9_1
                                            try clear hfz17_0
                                            try clear hfz17_1
                                            try clear hfz23_0
                                            try clear hfz23_1
                                            try clear hfz25_0
                                            try clear hfz25_1
                                            try clear hfz38_0
                                            try clear hfz38_1
                                            try clear hfz40_0
                                            try clear hfz40_1
                                            try clear hfz42_0
                                            try clear hfz42_1
                                            try clear hfz73_0
                                            try clear hfz73_1
                                            try clear hfz79_0
                                            try clear hfz79_1
                                            try clear hfz81_0
                                            try clear hfz81_1
                                            try clear hfz82_0
                                            try clear hfz82_1
                                            try clear hfz9_0
                                            try clear hfz9_1
                                            try clear hx86_0
                                            try clear hx89_0
                                            try clear hx961_0
                                            try clear hx966_0
                                            try clear hx967_0
                                            try clear hx968_0
                                            try clear hx969_0
                                            try clear hx975_0
                                            try clear hx977_0
                                            try clear hx979_0
                                            try clear p2
                                            try clear p6
                                            try clear p64
                                            try clear p8
                                            try clear p86
                                            try clear p89
                                            try clear p9
                                            try clear p961
                                            try clear p966
                                            try clear p967
                                            try clear p968
                                            try clear p969
                                            try clear p975
                                            try clear p977
                                            try clear p979
                                            try clear q8
                                            try clear q86
                                            try clear q89
                                            try clear q9
                                            try clear q961
                                            try clear q966
                                            try clear q967
                                            try clear q968
                                            try clear q969
                                            try clear q975
                                            try clear q977
                                            try clear q979
                                            obtain ⟨x23_6, rfl, HA, HK6, HO_11, HO_13, BK941, HB⟩ := hrel
                                            cases gk with
                                            | zero => exact absurd HA.out (by simp [pylonlaw16_TreeBalance.l4])
                                            | succ k6 =>
                                              have H := HA.out
                                              clear HA
                                              simp only [pylonlaw16_TreeBalance.l4] at H
                                              by_cases c98 : x23_6 < (t953.length : Int)
                                              · rw [if_pos c98] at H
                                                have c98b0 : decide (x23_6 < (t953.length : Int)) = true := decide_eq_true c98
                                                clear c98
                                                by_cases c99 : 0 ≤ x23_6
                                                · rw [if_pos c99] at H
                                                  have c99b0 : decide (0 ≤ x23_6) = true := decide_eq_true c99
                                                  clear c99
                                                  by_cases c100 : (rd t953 x23_6) = 0
                                                  · rw [if_pos c100] at H
                                                    have c100b0 : ((rd t953 x23_6) == 0) = true := beq_iff_eq.mpr c100
                                                    have c100b1 : ((rd t953 x23_6) != 0) = false := bne_eq_false_iff_eq.mpr c100
                                                    clear c100
                                                    have H' := Aside0.mk H
                                                    clear H
                                                    have p980 : 0 ≤ (x23_6 : Int) := of_decide_eq_true (by first | (with_reducible assumption) | assumption)
                                                    have q980 : x23_6 < (t953.length : Int) := of_decide_eq_true (by first | (with_reducible assumption) | assumption)
                                                    obtain ⟨ad980, e980, hx980_0⟩ := Kd.at_int (Kd.R_reads' HO_11.out).2.2 x23_6 p980 q980
                                                    cases e980
                                                    replace p980 := eq_true p980
                                                    replace q980 := eq_true q980
                                                    go_wp2
                                                    go_roundg k6
                                                    case measure => have := HJ4.out; have := HJ36.out; have := HK3.out; have := HJ70.out; have := HK5.out; have := HK6.out; omega
                                                    case rel => exact ⟨(wrap64 (x23_6 + 1)), (by first | rfl | (simp; done) | (simp [*]; done)), H', ⟨by have := HJ4.out; have := HJ36.out; have := HK3.out; have := HJ70.out; have := HK5.out; have := HK6.out; omega⟩, ⟨by (try simp only [hl20_5]); (with_reducible repeat (first | apply Kd.R_alloc | apply Kd.R_drewN | apply Kd.R_drew)); exact HO_11.out⟩, ⟨by (try simp only [hl20_5]); (with_reducible repeat (first | apply Kd.R_alloc | apply Kd.R_drewN | apply Kd.R_drew)); exact HO_13.out⟩, ⟨by (try simp only [hl20_5]); (with_reducible repeat (first | refine blk_drewN ?_ _ | refine blk_drew ?_ | refine blk_alloc ?_ _)); exact BK941.out⟩, ⟨by repeat (first | (with_reducible first | exact HB.out | apply below_alloc | apply pw_below_drewN | apply below_drew1 | refine below_set ?_ GE941.out) | exact HB.out)⟩⟩
                                                  · rw [if_neg c100] at H
                                                    have c100b0 : ((rd t953 x23_6) == 0) = false := beq_eq_false_iff_ne.mpr c100
                                                    have c100b1 : ((rd t953 x23_6) != 0) = true := bne_iff_ne.mpr c100
                                                    replace H := Option.bind_eq_some_iff.mp H
                                                    obtain ⟨t981, A1010, H⟩ := H
                                                    replace H : (if t981 = true then (pylonlaw16_TreeBalance.l4 k6 t953 t957 (wrap64 (x23_6 + 1))) else (some false)) = some r := H
                                                    have A101 := Aside0.mk A1010
                                                    clear A1010
                                                    by_cases c102 : t981 = true
                                                    · as_aux_lemma =>
                                                      subst c102
                                                      have H1 : (pylonlaw16_TreeBalance.l4 k6 t953 t957 (wrap64 (x23_6 + 1))) = some r := by rw [if_pos rfl] at H; exact H
                                                      clear H
                                                      have H := H1
                                                      clear H1
                                                      have H' := Aside0.mk H
                                                      clear H
                                                      have p980 : 0 ≤ (x23_6 : Int) := of_decide_eq_true (by first | (with_reducible assumption) | assumption)
                                                      have q980 : x23_6 < (t953.length : Int) := of_decide_eq_true (by first | (with_reducible assumption) | assumption)
                                                      obtain ⟨ad980, e980, hx980_0⟩ := Kd.at_int (Kd.R_reads' HO_11.out).2.2 x23_6 p980 q980
                                                      cases e980
                                                      replace p980 := eq_true p980
                                                      replace q980 := eq_true q980
                                                      obtain ⟨Ao103, co103, eo103⟩ := Kd.R_slice HO_13.out
                                                      subst eo103
                                                      go_wp2_with (first | (go_at_call 60; (with_reducible refine (pylonlaw16_has.calls k6 _ _ t957 x23_6 true _ ?side1 ?side2 A101.out).mono ?_); (case side1 => repeat (first | exact (Kd.R_reads' HO_13.out).2.2 | (with_reducible refine Kd.C_alloc ?_ _) | (with_reducible refine Kd.C_drewN ?_ _) | (with_reducible refine Kd.C_drew ?_))); (case side2 => exact (Kd.R_reads' HO_13.out).2.1); rintro e w' ⟨rfl, ⟨nd, rfl⟩⟩))
                                                      go_roundg k6
                                                      case measure => have := HJ4.out; have := HJ36.out; have := HK3.out; have := HJ70.out; have := HK5.out; have := HK6.out; omega
                                                      case rel => exact ⟨(wrap64 (x23_6 + 1)), (by first | rfl | (simp; done) | (simp [*]; done)), H', ⟨by have := HJ4.out; have := HJ36.out; have := HK3.out; have := HJ70.out; have := HK5.out; have := HK6.out; omega⟩, ⟨by (try simp only [hl20_5]); (with_reducible repeat (first | apply Kd.R_alloc | apply Kd.R_drewN | apply Kd.R_drew)); exact HO_11.out⟩, ⟨by (try simp only [hl20_5]); (with_reducible repeat (first | apply Kd.R_alloc | apply Kd.R_drewN | apply Kd.R_drew)); exact HO_13.out⟩, ⟨by (try simp only [hl20_5]); (with_reducible repeat (first | refine blk_drewN ?_ _ | refine blk_drew ?_ | refine blk_alloc ?_ _)); exact BK941.out⟩, ⟨by repeat (first | (with_reducible first | exact HB.out | apply below_alloc | apply pw_below_drewN | apply below_drew1 | refine below_set ?_ GE941.out) | exact HB.out)⟩⟩
                                                    · as_aux_lemma =>
                                                      replace c102 := Bool.eq_false_iff.mpr c102
                                                      subst c102
                                                      have H1 : (some false) = some r := by rw [if_neg (show ¬ (false = true) by decide)] at H; exact H
                                                      clear H
                                                      have H := H1
                                                      clear H1
                                                      obtain rfl := Option.some.inj H
                                                      have p980 : 0 ≤ (x23_6 : Int) := of_decide_eq_true (by first | (with_reducible assumption) | assumption)
                                                      have q980 : x23_6 < (t953.length : Int) := of_decide_eq_true (by first | (with_reducible assumption) | assumption)
                                                      obtain ⟨ad980, e980, hx980_0⟩ := Kd.at_int (Kd.R_reads' HO_11.out).2.2 x23_6 p980 q980
                                                      cases e980
                                                      replace p980 := eq_true p980
                                                      replace q980 := eq_true q980
                                                      obtain ⟨Ao104, co104, eo104⟩ := Kd.R_slice HO_13.out
                                                      subst eo104
                                                      go_wp2_with (first | (go_at_call 60; (with_reducible refine (pylonlaw16_has.calls k6 _ _ t957 x23_6 false _ ?side1 ?side2 A101.out).mono ?_); (case side1 => repeat (first | exact (Kd.R_reads' HO_13.out).2.2 | (with_reducible refine Kd.C_alloc ?_ _) | (with_reducible refine Kd.C_drewN ?_ _) | (with_reducible refine Kd.C_drew ?_))); (case side2 => exact (Kd.R_reads' HO_13.out).2.1); rintro e w' ⟨rfl, ⟨nd, rfl⟩⟩))
                                                      go_ret
                                                      exact ⟨by first | rfl | (simp [errW_none, errW_some] <;> rfl) | (simp [*, errW_none, errW_some] <;> rfl), by repeat (first | (with_reducible first | exact HB.out | apply below_alloc | apply pw_below_drewN | apply below_drew1 | refine below_set ?_ GE941.out) | exact HB.out)⟩
                                                · rw [if_neg c99] at H
                                                  exact absurd H (by simp)
                                              · rw [if_neg c98] at H
                                                have c98b0 : decide (x23_6 < (t953.length : Int)) = false := decide_eq_false c98
                                                clear c98
                                                obtain rfl := Option.some.inj H
                                                go_wp2
                                                go_ret
                                                exact ⟨by first | rfl | (simp [errW_none, errW_some] <;> rfl) | (simp [*, errW_none, errW_some] <;> rfl), by repeat (first | (with_reducible first | exact HB.out | apply below_alloc | apply pw_below_drewN | apply below_drew1 | refine below_set ?_ GE941.out) | exact HB.out)⟩
                                  · rw [if_neg c88] at H
                                    exact absurd H (by simp)
                                · rw [if_neg c87] at H
                                  exact absurd H (by simp)
                              · rw [if_neg c85] at H
                                exact absurd H (by simp)
                            · rw [if_neg c84] at H
                              exact absurd H (by simp)
                    · rw [if_neg c69] at H
                      have c69b0 : (t956 == 0) = false := beq_eq_false_iff_ne.mpr c69
                      have c69b1 : (t956 != 0) = true := bne_iff_ne.mpr c69
                      by_cases c105 : t956 = 1
                      · rw [if_pos c105] at H
                        have c105b0 : (t956 == 1) = true := beq_iff_eq.mpr c105
                        have c105b1 : (t956 != 1) = false := bne_eq_false_iff_eq.mpr c105
                        clear c105
                        obtain rfl := Option.some.inj H
                        obtain ⟨Ao106, co106, eo106⟩ := Kd.N_slice HO_9.out
                        subst eo106
                        go_wp2
                        go_ret
                        exact ⟨by first | rfl | (simp [errW_none, errW_some] <;> rfl) | (simp [*, errW_none, errW_some] <;> rfl), by repeat (first | (with_reducible first | exact HB.out | apply below_alloc | apply pw_below_drewN | apply below_drew1 | refine below_set ?_ GE941.out) | exact HB.out)⟩
                      · rw [if_neg c105] at H
                        have c105b0 : (t956 == 1) = false := beq_eq_false_iff_ne.mpr c105
                        have c105b1 : (t956 != 1) = true := bne_iff_ne.mpr c105
                        obtain rfl := Option.some.inj H
                        obtain ⟨Ao107, co107, eo107⟩ := Kd.N_slice HO_9.out
                        subst eo107
                        go_wp2
                        go_ret
                        exact ⟨by first | rfl | (simp [errW_none, errW_some] <;> rfl) | (simp [*, errW_none, errW_some] <;> rfl), by repeat (first | (with_reducible first | exact HB.out | apply below_alloc | apply pw_below_drewN | apply below_drew1 | refine below_set ?_ GE941.out) | exact HB.out)⟩

end Go.Proofs.Ytdpgdelimffjpaa.P
