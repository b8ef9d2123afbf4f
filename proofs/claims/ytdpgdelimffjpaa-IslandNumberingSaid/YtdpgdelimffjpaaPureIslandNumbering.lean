import Derived.Test.YtdpgdelimffjpaaF7
import Derived.Test.YtdpgdelimffjpaaHMem
namespace Go.Proofs.Ytdpgdelimffjpaa.P
open Go.RowKit Go.Proofs.YtdpgdelimffjpaaW.PrintWords Go.Proofs.YtdpgdelimffjpaaW.PrintLast Go.Proofs.YtdpgdelimffjpaaW.PrintMore
attribute [local go_sem] max2_int min2_int max_two min_two max_three min_three max_four min_four
set_option linter.unusedVariables false
set_option linter.unusedSimpArgs false
theorem IslandNumbering_true (b : Int) (L : List S37) (l1 : List Int) : ∃ k, pylonlaw15_IslandNumbering.f k b L l1 = some true := by
  apply Ev.tell
  obtain ⟨r, hr, hx⟩ := long_f b L [l1] (by simp)
  have haw : Ev (fun k => pylonlaw15_IslandNumbering.j0 k l1 true b L) true := by
    refine Ev.succ (G := fun _ => some true) (fun k => ?_) (Ev.some_ _)
    rw [pylonlaw15_IslandNumbering.j0, if_pos rfl]; rfl
  refine Ev.bind (F := fun k => pylonlaw14_Long.f k b L [l1]) (G := fun k t338 => if t338 = true then (pylonlaw15_IslandNumbering.j0 k l1 true b L) else ((pylonlaw15_awake.f).bind fun t339 => (pylonlaw15_IslandNumbering.j0 k l1 (!t339) b L))) hr ?_
  cases r with
  | true => exact haw
  | false =>
    obtain ⟨_, hl⟩ := hx rfl
    show Ev (fun k => pylonlaw15_IslandNumbering.j0 k l1 false b L) true
    refine Ev.succ (G := fun k => ((island_Of.f k b L l1).bind fun bt341 => ((island_Refs.f k b L l1).bind fun bt345 => ((island_Members.f k b L l1).bind fun bt349 => ((island_Count.f k b L l1).bind fun bt353 => (if bt341.2 = bt345.2 then (if bt345.2 = bt349.2 then (pylonlaw15_IslandNumbering.j1 k bt341.1 bt341.2 bt345.1 bt349.1 bt353.1 (bt349.2 != bt353.2) b L) else (pylonlaw15_IslandNumbering.j1 k bt341.1 bt341.2 bt345.1 bt349.1 bt353.1 true b L)) else (pylonlaw15_IslandNumbering.j1 k bt341.1 bt341.2 bt345.1 bt349.1 bt353.1 true b L))))))) (fun k => by rw [pylonlaw15_IslandNumbering.j0, if_neg (by simp)]) ?_
    by_cases hv : outsV b L l1 = 0
    · refine Ev.bind (of_ok hv) (Ev.bind (refs_ok hv) (Ev.bind (members_ok hv) (Ev.bind (count_ok hv) ?_)))
      have hb := outs_bus hv
      obtain ⟨N, rfl⟩ := Int.eq_ofNat_of_zero_le (show 0 ≤ b by omega)
      rw [Int.toNat_natCast]
      have hf := lab_lb (edges L l1)
      generalize lab (edges L l1) = f at hf ⊢
      have hl : (islOf f N N).length = N := by simp [islOf]
      have hrd : ∀ i, i < N → rd (islOf f N N) (i : Int) = ((isN f N i : Nat) : Int) := by
        intro i hi; rw [rd_nat _ i (by rw [hl]; exact hi)]; simp [islOf, isl_isN hf hi]
      have hR := refsOf_len f N
      have hrl := rowsOf_len f N N
      have hsum := sum_rows hf N (Nat.le_refl _)
      have hsle : ∀ i, i ≤ (refsOf f N).length → sumN (fun i => (rowN f N N i).length) i ≤ N := by
        intro i hi
        have : ∀ d, sumN (fun i => (rowN f N N i).length) i ≤ sumN (fun i => (rowN f N N i).length) (i + d) := by
          intro d
          induction d with
          | zero => exact Nat.le_refl _
          | succ d ih => exact Nat.le_trans ih (Nat.le_add_right _ _)
        have := this ((refsOf f N).length - i)
        rw [show i + ((refsOf f N).length - i) = (refsOf f N).length by omega, hsum] at this
        exact this
      refine Ev.eq (G := fun k => pylonlaw15_IslandNumbering.j1 k (islOf f N N) 0 (refsOf f N) (rowsOf f N N) ((refsOf f N).length : Int) false (N : Int) L) (fun k => by simp) ?_
      refine Ev.succ (G := fun k => pylonlaw15_IslandNumbering.j2 k (islOf f N N) (refsOf f N) (rowsOf f N N) ((refsOf f N).length : Int) false (N : Int) L) (fun k => ?_) ?_
      · have hne : (((islOf f N N).length : Int) != (N : Int)) = false := by rw [bne_eq_false_iff_eq, hl]
        rw [pylonlaw15_IslandNumbering.j1, if_neg (by simp), if_pos rfl, if_pos rfl, if_pos (by rw [hrl]), hne]
      refine Ev.succ (G := fun k => pylonlaw15_IslandNumbering.l0 k (islOf f N N) (refsOf f N) (rowsOf f N N) ((refsOf f N).length : Int) ((0 : Nat) : Int) ((0 : Nat) : Int) (N : Int) L) (fun k => ?_) ?_
      · rw [pylonlaw15_IslandNumbering.j2, if_neg (by simp)]; rfl
      have outer : ∀ m i : Nat, i + m = (refsOf f N).length → Ev (fun k => pylonlaw15_IslandNumbering.l0 k (islOf f N N) (refsOf f N) (rowsOf f N N) ((refsOf f N).length : Int) ((sumN (fun i => (rowN f N N i).length) i : Nat) : Int) (i : Int) (N : Int) L) true := by
        intro m
        induction m with
        | zero =>
          intro i hi
          have : i = (refsOf f N).length := by omega
          subst this
          refine Ev.succ (G := fun _ => some true) (fun k => ?_) (Ev.some_ _)
          rw [pylonlaw15_IslandNumbering.l0, if_neg (by omega), hsum, beq_self_eq_true]
        | succ m ih =>
          intro i hi
          have hiR : i < (refsOf f N).length := by omega
          obtain ⟨h0, rest, hrow, href⟩ := row_head hf hiR
          have hrow2 : rowOf f N N i = (h0 : Int) :: rest.map (fun (b : Nat) => (b : Int)) := by unfold rowOf; rw [hrow]; rfl
          have hrlen : (rowOf f N N i).length = (rowN f N N i).length := by simp [rowOf]
          have hrle := rowOf_len_le f N N i
          have hget : ∀ j (hj : j < (rowN f N N i).length), rd (rowOf f N N i) (j : Int) = (((rowN f N N i)[j] : Nat) : Int) := by
            intro j hj; rw [rd_nat _ j (by rw [hrlen]; exact hj)]; simp [rowOf]
          have hs := hsle i (by omega)
          have hs1 := hsle (i + 1) (by omega)
          have inner : ∀ q j : Nat, j + q = (rowN f N N i).length → Ev (fun k => pylonlaw15_IslandNumbering.l1 k (islOf f N N) (refsOf f N) (rowsOf f N N) ((refsOf f N).length : Int) ((sumN (fun i => (rowN f N N i).length) i : Nat) : Int) (i : Int) (j : Int) (N : Int) L) true := by
            intro q
            induction q with
            | zero =>
              intro j hj
              refine Ev.succ (fun k => ?_) (ih (i + 1) (by omega))
              rw [pylonlaw15_IslandNumbering.l1, if_pos (by omega), if_pos (by rw [hrl]; omega), rd_rowsOf hiR, if_neg (by omega), hrlen, wrap_small (by omega) (by omega), wrap_small (by omega) (by omega)]
              rfl
            | succ q ihq =>
              intro j hj
              have hjl : j < (rowN f N N i).length := by omega
              obtain ⟨hbN, hbi⟩ := mem_rowN.1 (List.getElem_mem hjl)
              have hg := hget j hjl
              refine Ev.succ (G := fun k => pylonlaw15_IslandNumbering.l1 k (islOf f N N) (refsOf f N) (rowsOf f N N) ((refsOf f N).length : Int) ((sumN (fun i => (rowN f N N i).length) i : Nat) : Int) (i : Int) ((j + 1 : Nat) : Int) (N : Int) L) (fun k => ?_) (ihq (j + 1) (by omega))
              rw [pylonlaw15_IslandNumbering.l1, if_pos (by omega), if_pos (by rw [hrl]; omega), rd_rowsOf hiR, if_pos (by omega), if_pos (by omega), hg, if_neg (by omega), if_neg (by omega), if_pos (by omega), if_pos (by rw [hl]; omega), hrd _ hbN, if_pos (by omega)]
              by_cases hj0 : j = 0
              · subst hj0
                rw [if_neg (by omega), wrap_small (by omega) (by omega)]; rfl
              · obtain ⟨j', rfl⟩ : ∃ j', j = j' + 1 := ⟨j - 1, by omega⟩
                have hlt := List.pairwise_iff_getElem.1 (rowN_sorted (f := f) (N := N) N i) j' (j' + 1) (by omega) hjl (by omega)
                have hw : wrap64 (((j' + 1 : Nat) : Int) - 1) = (j' : Int) := by rw [wrap_small (by omega) (by omega)]; omega
                rw [if_pos (by omega), hw, if_pos (by omega), if_pos (by omega), hget j' (by omega), if_neg (by omega), wrap_small (by omega) (by omega)]; rfl
          refine Ev.succ (G := fun k => pylonlaw15_IslandNumbering.j4 k (islOf f N N) (refsOf f N) (rowsOf f N N) ((refsOf f N).length : Int) ((sumN (fun i => (rowN f N N i).length) i : Nat) : Int) (i : Int) false (N : Int) L) (fun k => ?_) (Ev.succ (G := fun k => pylonlaw15_IslandNumbering.l1 k (islOf f N N) (refsOf f N) (rowsOf f N N) ((refsOf f N).length : Int) ((sumN (fun i => (rowN f N N i).length) i : Nat) : Int) (i : Int) ((0 : Nat) : Int) (N : Int) L) (fun k => ?_) (inner (rowN f N N i).length 0 (by omega)))
          · have hrd0 : rd (rowOf f N N i) 0 = (h0 : Int) := by rw [hrow2]; rfl
            have hpos : 0 < (rowOf f N N i).length := by rw [hrow2]; simp
            have hri : rd (refsOf f N) (i : Int) = (h0 : Int) := by rw [rd_nat _ i hiR, href]
            rw [pylonlaw15_IslandNumbering.l0, if_pos (by omega), if_pos (by omega), if_pos (by rw [hrl]; omega), rd_rowsOf hiR, if_neg (by omega), if_pos (by omega), if_pos (by omega), hrd0, hri, if_pos rfl]
            by_cases hi0 : i = 0
            · subst hi0; rw [if_neg (by omega)]
            · obtain ⟨i', rfl⟩ : ∃ i', i = i' + 1 := ⟨i - 1, by omega⟩
              have hlt := List.pairwise_iff_getElem.1 (refs_sorted f N) i' (i' + 1) (by omega) hiR (by omega)
              have hw : wrap64 (((i' + 1 : Nat) : Int) - 1) = (i' : Int) := by rw [wrap_small (by omega) (by omega)]; omega
              rw [if_pos (by omega), hw, if_pos (by omega), if_pos (by omega), rd_nat _ i' (by omega)]
              rw [href] at hlt
              rw [decide_eq_false (by omega)]
          · rw [pylonlaw15_IslandNumbering.j4, if_neg (by simp)]; rfl
      exact outer (refsOf f N).length 0 (by omega)
    · refine Ev.bind (of_bad hv) (Ev.bind (refs_bad hv) (Ev.bind (members_bad hv) (Ev.bind (count_bad hv) ?_)))
      refine Ev.eq (G := fun k => pylonlaw15_IslandNumbering.j1 k [] (outsV b L l1) [] [] 0 false b L) (fun k => by simp) (Ev.succ (G := fun _ => some true) (fun k => ?_) (Ev.some_ _))
      rw [pylonlaw15_IslandNumbering.j1, if_neg (by simp), if_neg hv]; rfl
end Go.Proofs.Ytdpgdelimffjpaa.P
