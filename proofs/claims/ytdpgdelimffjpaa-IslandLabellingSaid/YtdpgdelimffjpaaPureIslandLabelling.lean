import Derived.Test.YtdpgdelimffjpaaF5
import Derived.Test.YtdpgdelimffjpaaHEv
import Derived.Test.YtdpgdelimffjpaaHLab2
namespace Go.Proofs.Ytdpgdelimffjpaa.P
open Go.RowKit Go.Proofs.YtdpgdelimffjpaaW.PrintWords Go.Proofs.YtdpgdelimffjpaaW.PrintLast Go.Proofs.YtdpgdelimffjpaaW.PrintMore
attribute [local go_sem] max2_int min2_int max_two min_two max_three min_three max_four min_four
set_option linter.unusedVariables false
set_option linter.unusedSimpArgs false
theorem edges_lt {b : Int} {L : List S37} {out : List Int} (h : outsV b L out = 0) {e : Nat × Nat} (he : e ∈ edges L out) : e.1 < b.toNat ∧ e.2 < b.toNat ∧ e.1 ≠ e.2 := by
  have hb := outs_bus h
  obtain ⟨N, rfl⟩ := Int.eq_ofNat_of_zero_le (show 0 ≤ b by omega)
  obtain ⟨i, hi, rfl⟩ := List.getElem_of_mem he
  have hil : i < ((inn L out).map (fun (k : Nat) => rd_T37 L (k : Int))).length := by
    rw [List.length_map]; unfold edges at hi; rw [List.length_map] at hi; exact hi
  obtain ⟨u, v, _, _, hu, hv, huv, htk⟩ := edge_ok h rfl i hil
  rw [List.take_succ_eq_append_getElem hi] at htk
  have e := List.append_cancel_left htk
  simp only [List.cons.injEq, and_true] at e
  rw [e]
  exact ⟨by simpa using hu, by simpa using hv, huv⟩
theorem islOf_len (f : Nat → Nat) (N n : Nat) : (islOf f N n).length = n := by simp [islOf]
theorem rd_islOf (f : Nat → Nat) (N n x : Nat) (hx : x < n) : rd (islOf f N n) (x : Int) = isl f N x := by
  rw [rd_nat _ x (by rw [islOf_len]; exact hx)]; simp [islOf]
/-- The islands are a consistent labelling. -/
theorem cons_isl {b : Int} {L : List S37} {out : List Int} (h : outsV b L out = 0) : island_Consistent.f b L out (islOf (lab (edges L out)) b.toNat b.toNat) = some (true, 0) := by
  have hb := outs_bus h
  rw [island_Consistent.f, if_pos h, if_neg (by rw [islOf_len]; omega)]
  congr 2
  rw [List.all_eq_true]
  intro e he
  obtain ⟨h1, h2, _⟩ := edges_lt h he
  rw [rd_islOf _ _ _ _ h1, rd_islOf _ _ _ _ h2, beq_iff_eq]
  exact (isl_eq (lab_lb _) h1 h2).2 (lab_edge he)
theorem IslandLabelling_true (b : Int) (L : List S37) (l1 l2 : List Int) : ∃ k, pylonlaw15_IslandLabelling.f k b L l1 l2 = some true := by
  apply Ev.tell
  obtain ⟨r, hr, hx⟩ := long_f b L [l1, l2] (by simp)
  have haw : Ev (fun k => pylonlaw15_IslandLabelling.j0 k l1 l2 true b L) true := by
    refine Ev.succ (G := fun _ => some true) (fun k => ?_) (Ev.some_ _)
    rw [pylonlaw15_IslandLabelling.j0, if_pos rfl]; rfl
  refine Ev.bind (F := fun k => pylonlaw14_Long.f k b L [l1, l2]) (G := fun k t217 => if t217 = true then (pylonlaw15_IslandLabelling.j0 k l1 l2 true b L) else ((pylonlaw15_awake.f).bind fun t218 => (pylonlaw15_IslandLabelling.j0 k l1 l2 (!t218) b L))) hr ?_
  cases r with
  | true => exact haw
  | false =>
    obtain ⟨_, hl⟩ := hx rfl
    have hl2 : l2.length ≤ 100 := hl l2 (by simp)
    show Ev (fun k => pylonlaw15_IslandLabelling.j0 k l1 l2 false b L) true
    refine Ev.succ (G := fun k => (island_Of.f k b L l1).bind fun bt220 => (if bt220.2 = 0 then ((island_Consistent.f b L l1 bt220.1).bind fun bt224 => ((island_Consistent.f b L l1 l2).bind fun bt226 => (if bt224.1 = true then (if bt224.2 = 0 then (pylonlaw15_IslandLabelling.j1 k l2 bt220.1 bt226.1 bt226.2 ((bt220.1.length : Int) != b) b L) else (pylonlaw15_IslandLabelling.j1 k l2 bt220.1 bt226.1 bt226.2 true b L)) else (pylonlaw15_IslandLabelling.j1 k l2 bt220.1 bt226.1 bt226.2 true b L)))) else (some ((bt220.1.length : Int) == 0)))) (fun k => by rw [pylonlaw15_IslandLabelling.j0, if_neg (by simp)]) ?_
    by_cases hv : outsV b L l1 = 0
    · refine Ev.bind (of_ok hv) ?_
      have hb := outs_bus hv
      obtain ⟨f, hf⟩ : ∃ f, f = lab (edges L l1) := ⟨_, rfl⟩
      obtain ⟨X, hX⟩ : ∃ X, X = islOf f b.toNat b.toNat := ⟨_, rfl⟩
      have hXl : X.length = b.toNat := by rw [hX, islOf_len]
      have hc := cons_isl hv
      rw [← hf, ← hX] at hc ⊢
      have hne : ((X.length : Int) != b) = false := by rw [bne_eq_false_iff_eq, hXl]; omega
      refine Ev.eq (G := fun k => (island_Consistent.f b L l1 l2).bind fun bt226 => pylonlaw15_IslandLabelling.j1 k l2 X bt226.1 bt226.2 false b L) (fun k => ?_) ?_
      · simp only [hc, Option.bind_some, if_true, hne]
      by_cases hlong : b < (l2.length : Int)
      · have hc2 : island_Consistent.f b L l1 l2 = some (false, 5) := by rw [island_Consistent.f, if_pos hv, if_pos hlong]
        refine Ev.succ (G := fun k => some true) (fun k => ?_) (Ev.some_ _)
        rw [hc2, Option.bind_some, pylonlaw15_IslandLabelling.j1, if_neg (by simp), if_neg (by decide), if_pos rfl, decide_eq_true hlong]
      · obtain ⟨is, his⟩ : ∃ is, is = (edges L l1).all (fun e => rd l2 (e.1 : Int) == rd l2 (e.2 : Int)) := ⟨_, rfl⟩
        have hc2 : island_Consistent.f b L l1 l2 = some (is, 0) := by rw [island_Consistent.f, if_pos hv, if_neg hlong, his]
        refine Ev.succ (G := fun k => pylonlaw15_IslandLabelling.l0 k l2 X is 0) (fun k => ?_) ?_
        · rw [hc2, Option.bind_some, pylonlaw15_IslandLabelling.j1, if_neg (by simp), if_pos rfl]
        cases is with
        | false =>
          refine Ev.succ (G := fun k => pylonlaw15_IslandLabelling.j3 k l2 X false 0 false) (fun k => ?_) (Ev.succ (G := fun _ => some true) (fun k => ?_) (Ev.some_ _))
          · rw [pylonlaw15_IslandLabelling.l0]; split <;> rfl
          · rw [pylonlaw15_IslandLabelling.j3, if_neg (by simp)]
        | true =>
          have hcst : ∀ x y : Nat, x < l2.length → y < l2.length → rd X (x : Int) = rd X (y : Int) → rd l2 (x : Int) = rd l2 (y : Int) := by
            intro x y hx hy hxy
            rw [hX, rd_islOf _ _ _ _ (by omega), rd_islOf _ _ _ _ (by omega), isl_eq (by rw [hf]; exact lab_lb _) (by omega) (by omega), hf] at hxy
            refine lab_const (fun (z : Nat) => rd l2 (z : Int)) (fun e he => ?_) hxy
            have := List.all_eq_true.1 his.symm e he
            simpa using this
          have outer : ∀ m i : Nat, i + m = l2.length → Ev (fun k => pylonlaw15_IslandLabelling.l0 k l2 X true (i : Int)) true := by
            intro m
            induction m with
            | zero =>
              intro i hi
              refine Ev.succ (G := fun k => pylonlaw15_IslandLabelling.j3 k l2 X true (i : Int) false) (fun k => ?_) (Ev.succ (G := fun _ => some true) (fun k => ?_) (Ev.some_ _))
              · rw [pylonlaw15_IslandLabelling.l0, if_neg (by omega)]
              · rw [pylonlaw15_IslandLabelling.j3, if_neg (by simp)]
            | succ m ih =>
              intro i hi
              have inner : ∀ q j : Nat, j + q = l2.length → Ev (fun k => pylonlaw15_IslandLabelling.l1 k l2 X true (i : Int) (j : Int)) true := by
                intro q
                induction q with
                | zero =>
                  intro j hj
                  refine Ev.succ (G := fun k => pylonlaw15_IslandLabelling.l0 k l2 X true ((i + 1 : Nat) : Int)) (fun k => ?_) (ih (i + 1) (by omega))
                  rw [pylonlaw15_IslandLabelling.l1, if_neg (by omega), wrap_small (by omega) (by omega)]; rfl
                | succ q ihq =>
                  intro j hj
                  refine Ev.succ (G := fun k => pylonlaw15_IslandLabelling.l1 k l2 X true (i : Int) ((j + 1 : Nat) : Int)) (fun k => ?_) (ihq (j + 1) (by omega))
                  rw [pylonlaw15_IslandLabelling.l1, if_pos (by omega), if_pos (by omega), if_pos (by omega), if_pos (by omega), if_pos (by omega), wrap_small (by omega) (by omega)]
                  by_cases hxy : rd X (i : Int) = rd X (j : Int)
                  · rw [if_pos hxy, if_pos (by omega), if_pos (hcst i j (by omega) (by omega) hxy)]; rfl
                  · rw [if_neg hxy]; rfl
              refine Ev.succ (G := fun k => pylonlaw15_IslandLabelling.j3 k l2 X true (i : Int) true) (fun k => ?_) (Ev.succ (G := fun k => pylonlaw15_IslandLabelling.l1 k l2 X true (i : Int) 0) (fun k => ?_) (inner l2.length 0 (by omega)))
              · rw [pylonlaw15_IslandLabelling.l0, if_pos (by omega)]
              · rw [pylonlaw15_IslandLabelling.j3, if_pos rfl]
          exact outer l2.length 0 (by omega)
    · refine Ev.bind (of_bad hv) ?_
      refine Ev.eq (G := fun _ => some true) (fun k => ?_) (Ev.some_ _)
      simp only [if_neg hv]
      rfl
end Go.Proofs.Ytdpgdelimffjpaa.P
