import Derived.Test.YtdpgdelimffjpaaF15
import Derived.Test.YtdpgdelimffjpaaHTreeP
namespace Go.Proofs.Ytdpgdelimffjpaa.P
open Go.RowKit Go.Proofs.YtdpgdelimffjpaaW.PrintWords Go.Proofs.YtdpgdelimffjpaaW.PrintLast Go.Proofs.YtdpgdelimffjpaaW.PrintMore
attribute [local go_sem] max2_int min2_int max_two min_two max_three min_three max_four min_four
set_option linter.unusedVariables false
set_option linter.unusedSimpArgs false
theorem tr_before {en : Nat → Nat × Nat} {pre post : List Nat} {t : Nat} (hs : (pre ++ t :: post).Pairwise (· < ·)) : (tr en (pre ++ t :: post)).filter (fun j => decide (j < t)) = tr en pre := by
  obtain ⟨more, hm, hmem⟩ := tr_pre (en := en) pre (t :: post)
  rw [List.pairwise_append] at hs
  have h1 : (tr en pre).filter (fun j => decide (j < t)) = tr en pre := by
    rw [List.filter_eq_self]
    intro j hj
    exact decide_eq_true (hs.2.2 j (tr_sub pre j hj) t (List.mem_cons_self ..))
  have h2 : more.filter (fun j => decide (j < t)) = [] := by
    rw [List.filter_eq_nil_iff]
    intro j hj hc
    have hc' := of_decide_eq_true hc
    rcases List.mem_cons.1 (hmem j hj) with e | h
    · omega
    · have := (List.pairwise_cons.1 hs.2.1).1 j h; omega
  rw [hm, List.filter_append, h1, h2, List.append_nil]
theorem TreeGreedy_true (b : Int) (L : List S37) (l1 : List Int) : ∃ k, pylonlaw16_TreeGreedy.f k b L l1 = some true := by
  apply Ev.tell
  obtain ⟨r, hr, hx⟩ := long_f b L [l1] (by simp)
  have haw : Ev (fun k => pylonlaw16_TreeGreedy.j0 k l1 true b L) true := by
    refine Ev.succ (G := fun _ => some true) (fun k => ?_) (Ev.some_ _)
    rw [pylonlaw16_TreeGreedy.j0, if_pos rfl]; rfl
  refine Ev.bind (F := fun k => pylonlaw14_Long.f k b L [l1]) (G := fun k t => if t = true then (pylonlaw16_TreeGreedy.j0 k l1 true b L) else ((pylonlaw16_awake.f).bind fun t2 => (if t2 = true then ((net_Outs.f k b L l1).bind fun t3 => (pylonlaw16_TreeGreedy.j0 k l1 (t3 != 0) b L)) else (pylonlaw16_TreeGreedy.j0 k l1 true b L)))) hr ?_
  cases r with
  | true => exact haw
  | false =>
    obtain ⟨_, hl⟩ := hx rfl
    have h1 : l1.length ≤ 100 := hl l1 (by simp)
    show Ev (fun k => (net_Outs.f k b L l1).bind fun t3 => (pylonlaw16_TreeGreedy.j0 k l1 (t3 != 0) b L)) true
    refine Ev.bind (outs_ev' b L l1 (by omega)) ?_
    by_cases hv : outsV b L l1 = 0
    · rw [hv]
      have hb := outs_bus hv
      have hc := (outsV_ok hv).1
      obtain ⟨N, rfl⟩ := Int.eq_ofNat_of_zero_le (show 0 ≤ b by omega)
      have hil := inn_len L l1
      have hll := inL_len L l1
      have htl := trL_len L l1
      have hcl := castL_len (trL L l1)
      refine Ev.succ (G := fun k => (tree_Tree.f k (N : Int) L l1).bind fun bt899 => ((net_In.f (N : Int) L l1).bind fun bt903 => (if bt899.2 = 0 then (pylonlaw16_TreeGreedy.j1 k bt899.1 bt903.1 (bt903.2 != 0) (N : Int) L) else (pylonlaw16_TreeGreedy.j1 k bt899.1 bt903.1 true (N : Int) L)))) (fun k => by show pylonlaw16_TreeGreedy.j0 (k + 1) l1 false (N : Int) L = _; rw [pylonlaw16_TreeGreedy.j0, if_neg (by simp)]) ?_
      refine Ev.bind (tree_ok hv) ?_
      have outer : ∀ m i : Nat, i + m = (inn L l1).length → Ev (fun k => pylonlaw16_TreeGreedy.l0 k (castL (trL L l1)) (inL L l1) (i : Int) (N : Int) L) true := by
        intro m
        induction m with
        | zero =>
          intro i hi
          refine Ev.succ (G := fun _ => some true) (fun k => ?_) (Ev.some_ _)
          rw [pylonlaw16_TreeGreedy.l0, if_neg (by omega)]
        | succ m ih =>
          intro i hi
          have hii : i < (inn L l1).length := by omega
          obtain ⟨t, ht⟩ : ∃ t, t = (inn L l1)[i] := ⟨_, rfl⟩
          have htm : t ∈ inn L l1 := by rw [ht]; exact List.getElem_mem hii
          have htL : t < L.length := (mem_inn.1 htm).1
          obtain ⟨u, v, hu, hv2, huN, hvN, _, hen⟩ := line_ok hc htL
          have hrd : rd (inL L l1) (i : Int) = (t : Int) := by rw [rd_nat _ i (by omega), ht]; simp [inL]
          have hsplit : inn L l1 = (inn L l1).take i ++ t :: (inn L l1).drop (i + 1) := by
            rw [ht, ← List.drop_eq_getElem_cons hii, List.take_append_drop]
          have hsorted := inn_sorted L l1
          have hnd := inn_nodup L l1
          rw [hsplit] at hsorted hnd
          have hbefore : (trL L l1).filter (fun j => decide (j < t)) = tr (enL L) ((inn L l1).take i) := by
            unfold trL
            have := tr_before (en := enL L) hsorted
            rw [← hsplit] at this
            exact this
          have hmem : t ∈ trL L l1 ↔ ¬ cn (enL L) (tr (enL L) ((inn L l1).take i)) (enL L t).1 (enL L t).2 := by
            have := tr_mem (en := enL L) hnd
            rw [← hsplit] at this
            exact this
          obtain ⟨A, hA⟩ : ∃ A, A = tr (enL L) ((inn L l1).take i) := ⟨_, rfl⟩
          rw [← hA] at hbefore hmem
          have hAl : ∀ k ∈ A, k < L.length := fun k hk => (mem_inn.1 (List.mem_of_mem_take (tr_sub _ k (by rw [← hA]; exact hk)))).1
          have hAlen : A.length ≤ (trL L l1).length := by rw [← hbefore]; exact List.length_filter_le _ _
          have hcA := castL_len A
          -- the lines ahead
          have hfin : Ev (fun k => pylonlaw16_TreeGreedy.l1 k (castL (trL L l1)) (inL L l1) (i : Int) (castL A) ((trL L l1).length : Int) (N : Int) L) true := by
            refine Ev.succ (G := fun k => (pylonlaw16_rest.f k (N : Int) L (castL A)).bind fun t918 => ((island_Connected.f (N : Int) L t918 (u : Int) (v : Int)).bind fun bt921 => (if bt921.2 = 0 then ((pylonlaw16_has.f k (castL (trL L l1)) (t : Int)).bind fun t924 => (if (bt921.1 == t924) = true then (some false) else (pylonlaw16_TreeGreedy.l0 k (castL (trL L l1)) (inL L l1) ((i + 1 : Nat) : Int) (N : Int) L))) else (some false)))) (fun k => ?_) ?_
            · rw [pylonlaw16_TreeGreedy.l1, if_neg (by omega), if_pos (by omega), if_pos (by omega), hrd, if_pos (by omega), if_pos (by omega), hu, hv2, wrap_small (by omega) (by omega)]; rfl
            · refine Ev.bind (rest_ev (N : Int) L (castL A) (by omega) (by omega)) ?_
              have hcf := conn_f' (co_outs hc (castL A)) (show u < N by omega) (show v < N by omega)
              have hcn : conn (edges L (inL L (castL A))) u v ↔ cn (enL L) A (enL L t).1 (enL L t).2 := by rw [hen]; exact co_conn hAl
              refine Ev.eq (G := fun k => (pylonlaw16_has.f k (castL (trL L l1)) (t : Int)).bind fun t924 => (if (decide (conn (edges L (inL L (castL A))) u v) == t924) = true then (some false) else (pylonlaw16_TreeGreedy.l0 k (castL (trL L l1)) (inL L l1) ((i + 1 : Nat) : Int) (N : Int) L))) (fun k => by rw [hcf, Option.bind_some, if_pos rfl]) ?_
              refine Ev.bind (has_ev (castL (trL L l1)) (t : Int) (by omega)) ?_
              refine Ev.eq (fun k => if_neg ?_) (ih (i + 1) (by omega))
              rw [beq_iff_eq, decide_eq_decide, hcn, mem_castL, hmem]
              by_cases hx : cn (enL L) A (enL L t).1 (enL L t).2
              · simp [hx]
              · simp [hx]
          have inner : ∀ q j : Nat, j + q = (trL L l1).length → Ev (fun k => pylonlaw16_TreeGreedy.l1 k (castL (trL L l1)) (inL L l1) (i : Int) (castL (((trL L l1).take j).filter (fun j => decide (j < t)))) (j : Int) (N : Int) L) true := by
            intro q
            induction q with
            | zero =>
              intro j hj
              have : j = (trL L l1).length := by omega
              subst this
              rw [List.take_length, hbefore]
              exact hfin
            | succ q ihq =>
              intro j hj
              have hjl : j < (trL L l1).length := by omega
              obtain ⟨s, hs⟩ : ∃ s, s = (trL L l1)[j] := ⟨_, rfl⟩
              have hrs : rd (castL (trL L l1)) (j : Int) = (s : Int) := by rw [rd_nat _ j (by omega), hs]; simp [castL]
              have h2 := ihq (j + 1) (by omega)
              rw [List.take_succ_eq_append_getElem hjl, ← hs, List.filter_append] at h2
              have hxl : (castL (((trL L l1).take j).filter (fun j => decide (j < t)))).length ≤ (trL L l1).length := by
                rw [castL_len]
                refine Nat.le_trans (List.length_filter_le _ _) ?_
                rw [List.length_take]; omega
              refine Ev.succ (fun k => ?_) h2
              rw [pylonlaw16_TreeGreedy.l1, if_pos (by omega), if_pos (by omega), if_pos (by omega), if_pos (by omega), hrs, hrd, wrap_small (by omega) (by omega)]
              by_cases hst : s < t
              · have e : [s].filter (fun j => decide (j < t)) = [s] := by simp [hst]
                rw [if_pos (by omega), if_pos (by omega), e]
                have e2 : castL (((trL L l1).take j).filter (fun j => decide (j < t)) ++ [s]) = castL (((trL L l1).take j).filter (fun j => decide (j < t))) ++ [(s : Int)] := by simp [castL]
                rw [e2]; rfl
              · have e : [s].filter (fun j => decide (j < t)) = [] := by simp [hst]
                rw [if_neg (by omega), e, List.append_nil]; rfl
          refine Ev.succ (G := fun k => pylonlaw16_TreeGreedy.j3 k (castL (trL L l1)) (inL L l1) (i : Int) false (N : Int) L) (fun k => ?_) (Ev.succ (fun k => ?_) (inner (trL L l1).length 0 (by omega)))
          · rw [pylonlaw16_TreeGreedy.l0, if_pos (by omega), if_pos (by omega), hrd, if_neg (by omega), decide_eq_false (by omega)]
          · rw [pylonlaw16_TreeGreedy.j3, if_neg (by simp)]; rfl
      refine Ev.eq (G := fun k => pylonlaw16_TreeGreedy.j1 k (castL (trL L l1)) (inL L l1) false (N : Int) L) (fun k => ?_) (Ev.succ (fun k => ?_) (outer (inn L l1).length 0 (by omega)))
      · rw [in_ok hv]; rfl
      · rw [pylonlaw16_TreeGreedy.j1, if_neg (by simp)]; rfl
    · have : (outsV b L l1 != 0) = true := bne_iff_ne.2 hv
      rw [this]; exact haw
end Go.Proofs.Ytdpgdelimffjpaa.P
