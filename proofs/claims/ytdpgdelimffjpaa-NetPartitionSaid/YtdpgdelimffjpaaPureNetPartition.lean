import Derived.Test.YtdpgdelimffjpaaF21
import Derived.Test.YtdpgdelimffjpaaHNetP
namespace Go.Proofs.Ytdpgdelimffjpaa.P
open Go.RowKit Go.Proofs.YtdpgdelimffjpaaW.PrintWords Go.Proofs.YtdpgdelimffjpaaW.PrintLast Go.Proofs.YtdpgdelimffjpaaW.PrintMore
attribute [local go_sem] max2_int min2_int max_two min_two max_three min_three max_four min_four
set_option linter.unusedVariables false
set_option linter.unusedSimpArgs false
theorem NetPartition_true (b : Int) (L : List S37) (l1 : List Int) : ∃ k, pylonlaw14_NetPartition.f k b L l1 = some true := by
  apply Ev.tell
  obtain ⟨r, hr, hx⟩ := long_f b L [l1] (by simp)
  have haw : Ev (fun k => pylonlaw14_NetPartition.j0 k l1 true b L) true := by
    refine Ev.succ (G := fun _ => some true) (fun k => ?_) (Ev.some_ _)
    rw [pylonlaw14_NetPartition.j0, if_pos rfl]; rfl
  refine Ev.bind (F := fun k => pylonlaw14_Long.f k b L [l1]) (G := fun k t => if t = true then (pylonlaw14_NetPartition.j0 k l1 true b L) else ((pylonlaw14_awake.f).bind fun t2 => (if t2 = true then ((net_Outs.f k b L l1).bind fun t3 => (pylonlaw14_NetPartition.j0 k l1 (t3 != 0) b L)) else (pylonlaw14_NetPartition.j0 k l1 true b L)))) hr ?_
  cases r with
  | true => exact haw
  | false =>
    obtain ⟨_, hl⟩ := hx rfl
    have h1 : l1.length ≤ 100 := hl l1 (by simp)
    show Ev (fun k => (net_Outs.f k b L l1).bind fun t3 => (pylonlaw14_NetPartition.j0 k l1 (t3 != 0) b L)) true
    refine Ev.bind (outs_ev' b L l1 (by omega)) ?_
    by_cases hv : outsV b L l1 = 0
    · rw [hv]
      have hb := outs_bus hv
      have hpl := part_len hv
      have hpu := part_uni hv
      have hil := inL_len L l1
      have e2 := union_ok (inL_rises L l1) (outsV_ok hv).2.1 (by omega) (by omega)
      rw [hpu] at e2
      have hrl : ((List.range L.length).map (fun (k : Nat) => (k : Int))).length = L.length := by simp
      refine Ev.succ (G := fun k => pylonlaw14_NetPartition.j1 k ((List.range L.length).map (fun (k : Nat) => (k : Int))) false) (fun k => ?_) ?_
      · have hne : ((wrap64 (((inL L l1).length : Int) + (l1.length : Int))) != (L.length : Int)) = false := by
          rw [bne_eq_false_iff_eq, wrap_small (by omega) (by omega)]; omega
        show pylonlaw14_NetPartition.j0 (k + 1) l1 false b L = _
        rw [pylonlaw14_NetPartition.j0, if_neg (by simp), in_ok hv, Option.bind_some, e2, Option.bind_some, if_pos rfl, if_pos rfl, if_pos (by rw [hrl]), hne]
      have key : ∀ m i, i + m = L.length → Ev (fun k => pylonlaw14_NetPartition.l0 k ((List.range L.length).map (fun (k : Nat) => (k : Int))) (i : Int)) true := by
        intro m
        induction m with
        | zero =>
          intro i hi
          refine Ev.succ (G := fun _ => some true) (fun k => ?_) (Ev.some_ _)
          rw [pylonlaw14_NetPartition.l0, if_neg (by rw [hrl]; omega)]
        | succ m ih =>
          intro i hi
          refine Ev.succ (G := fun k => pylonlaw14_NetPartition.l0 k ((List.range L.length).map (fun (k : Nat) => (k : Int))) ((i + 1 : Nat) : Int)) (fun k => ?_) (ih (i + 1) (by omega))
          have hrd : rd ((List.range L.length).map (fun (k : Nat) => (k : Int))) (i : Int) = (i : Int) := by rw [rd_nat _ i (by rw [hrl]; omega)]; simp
          rw [pylonlaw14_NetPartition.l0, if_pos (by rw [hrl]; omega), if_pos (by omega), if_pos hrd, wrap_small (by omega) (by omega)]; rfl
      refine Ev.succ (fun k => ?_) (key L.length 0 (by omega))
      rw [pylonlaw14_NetPartition.j1, if_neg (by simp)]; rfl
    · have : (outsV b L l1 != 0) = true := bne_iff_ne.2 hv
      rw [this]; exact haw
end Go.Proofs.Ytdpgdelimffjpaa.P
