import Derived.Test.YtdpgdelimffjpaaF17
import Derived.Test.YtdpgdelimffjpaaHTreeP
namespace Go.Proofs.Ytdpgdelimffjpaa.P
open Go.RowKit Go.Proofs.YtdpgdelimffjpaaW.PrintWords Go.Proofs.YtdpgdelimffjpaaW.PrintLast Go.Proofs.YtdpgdelimffjpaaW.PrintMore
attribute [local go_sem] max2_int min2_int max_two min_two max_three min_three max_four min_four
set_option linter.unusedVariables false
set_option linter.unusedSimpArgs false
theorem TreeCycles_true (b : Int) (L : List S37) (l1 : List Int) : ∃ k, pylonlaw16_TreeCycles.f k b L l1 = some true := by
  apply Ev.tell
  obtain ⟨r, hr, hx⟩ := long_f b L [l1] (by simp)
  have haw : Ev (fun k => pylonlaw16_TreeCycles.j0 k l1 true b L) true := by
    refine Ev.succ (G := fun _ => some true) (fun k => ?_) (Ev.some_ _)
    rw [pylonlaw16_TreeCycles.j0, if_pos rfl]; rfl
  refine Ev.bind (F := fun k => pylonlaw14_Long.f k b L [l1]) (G := fun k t => if t = true then (pylonlaw16_TreeCycles.j0 k l1 true b L) else ((pylonlaw16_awake.f).bind fun t2 => (if t2 = true then ((net_Outs.f k b L l1).bind fun t3 => (pylonlaw16_TreeCycles.j0 k l1 (t3 != 0) b L)) else (pylonlaw16_TreeCycles.j0 k l1 true b L)))) hr ?_
  cases r with
  | true => exact haw
  | false =>
    obtain ⟨_, hl⟩ := hx rfl
    have h1 : l1.length ≤ 100 := hl l1 (by simp)
    show Ev (fun k => (net_Outs.f k b L l1).bind fun t3 => (pylonlaw16_TreeCycles.j0 k l1 (t3 != 0) b L)) true
    refine Ev.bind (outs_ev' b L l1 (by omega)) ?_
    by_cases hv : outsV b L l1 = 0
    · rw [hv]
      have hb := outs_bus hv
      have hc := (outsV_ok hv).1
      have hil := inn_len L l1
      have hll := inL_len L l1
      have htl := trL_len L l1
      have hcl := castL_len (trL L l1)
      have hol : (offL L l1).length ≤ (inn L l1).length := List.length_filter_le _ _
      have hco := castL_len (offL L l1)
      have hcy : (cycL L l1).length = (offL L l1).length := by simp [cycL]
      have hrc : ∀ i (hi : i < (offL L l1).length), rd_L1 (cycL L l1) (i : Int) = cyc1 L l1 ((offL L l1)[i]) := by
        intro i hi; simp [rd_L1, cycL, List.getD_eq_getElem?_getD, hi]
      have hro : ∀ i (hi : i < (offL L l1).length), rd (castL (offL L l1)) (i : Int) = (((offL L l1)[i] : Nat) : Int) := by
        intro i hi; rw [rd_nat _ i (by omega)]; simp [castL]
      have hom : ∀ i (hi : i < (offL L l1).length), (offL L l1)[i] < L.length ∧ (offL L l1)[i] ∉ trL L l1 := by
        intro i hi
        have := mem_offL.1 (List.getElem_mem hi)
        exact ⟨(mem_inn.1 this.1).1, this.2⟩
      have hos : (offL L l1).Pairwise (· < ·) := List.Pairwise.filter _ (inn_sorted L l1)
      refine Ev.succ (G := fun k => (tree_Cycles.f k b L l1).bind fun bt990 => ((tree_Tree.f k b L l1).bind fun bt994 => ((net_In.f b L l1).bind fun bt998 => (if bt990.2 = 0 then (if bt994.2 = 0 then (pylonlaw16_TreeCycles.j1 k bt990.1 bt994.1 bt998.1 (bt998.2 != 0) b L) else (pylonlaw16_TreeCycles.j1 k bt990.1 bt994.1 bt998.1 true b L)) else (pylonlaw16_TreeCycles.j1 k bt990.1 bt994.1 bt998.1 true b L))))) (fun k => by show pylonlaw16_TreeCycles.j0 (k + 1) l1 false b L = _; rw [pylonlaw16_TreeCycles.j0, if_neg (by simp)]) ?_
      refine Ev.bind (cycles_ok hv) (Ev.bind (tree_ok hv) ?_)
      have outer : ∀ m i : Nat, i + m = (offL L l1).length → Ev (fun k => pylonlaw16_TreeCycles.l1 k (cycL L l1) (castL (offL L l1)) (i : Int) b L) true := by
        intro m
        induction m with
        | zero =>
          intro i hi
          refine Ev.succ (G := fun _ => some true) (fun k => ?_) (Ev.some_ _)
          rw [pylonlaw16_TreeCycles.l1, if_neg (by omega)]
        | succ m ih =>
          intro i hi
          have hii : i < (offL L l1).length := by omega
          obtain ⟨hci, hti⟩ := hom i hii
          have inner : ∀ q j : Nat, j + q = (offL L l1).length → Ev (fun k => pylonlaw16_TreeCycles.l2 k (cycL L l1) (castL (offL L l1)) (i : Int) (j : Int) b L) true := by
            intro q
            induction q with
            | zero =>
              intro j hj
              refine Ev.succ (fun k => ?_) (ih (i + 1) (by omega))
              rw [pylonlaw16_TreeCycles.l2, if_neg (by omega), wrap_small (by omega) (by omega)]; rfl
            | succ q ihq =>
              intro j hj
              have hjj : j < (offL L l1).length := by omega
              obtain ⟨hcj, htj⟩ := hom j hjj
              have hlen := cyc1_len L l1 ((offL L l1)[i])
              refine Ev.succ (fun k => ?_) (ihq (j + 1) (by omega))
              rw [pylonlaw16_TreeCycles.l2, if_pos (by omega), if_pos (by omega), if_pos (by omega), hrc i hii, hlen, if_pos rfl, if_pos (by omega), hro j hjj, if_neg (by omega), if_neg (by omega), rd_cyc1 hcj hci, wrap_small (by omega) (by omega)]
              by_cases hij : i = j
              · subst hij
                rw [if_pos rfl, if_pos (by omega), if_pos (by omega), if_pos rfl, if_pos rfl]; rfl
              · have hne : (offL L l1)[j] ≠ (offL L l1)[i] := by
                  rcases Nat.lt_or_gt_of_ne hij with h | h
                  · have := List.pairwise_iff_getElem.1 hos i j hii hjj h; omega
                  · have := List.pairwise_iff_getElem.1 hos j i hjj hii h; omega
                have hW : W (enL L) (trL L l1) (enL L ((offL L l1)[i])).2 (enL L ((offL L l1)[i])).1 ((offL L l1)[j]) = 0 := by unfold W; rw [if_neg htj]
                rw [if_neg (by omega), if_pos (by omega), if_pos (by omega), if_neg hne, hW, if_pos rfl]; rfl
          refine Ev.succ (fun k => ?_) (inner (offL L l1).length 0 (by omega))
          rw [pylonlaw16_TreeCycles.l1, if_pos (by omega)]; rfl
      have first : ∀ m i : Nat, i + m = (inn L l1).length → Ev (fun k => pylonlaw16_TreeCycles.l0 k (cycL L l1) (castL (trL L l1)) (inL L l1) (castL (((inn L l1).take i).filter (fun c => !(trL L l1).contains c))) (i : Int) b L) true := by
        intro m
        induction m with
        | zero =>
          intro i hi
          refine Ev.succ (fun k => ?_) (outer (offL L l1).length 0 (by omega))
          rw [List.take_of_length_le (show (inn L l1).length ≤ i by omega), pylonlaw16_TreeCycles.l0, if_neg (by omega)]
          show (if ((castL (offL L l1)).length : Int) = ((cycL L l1).length : Int) then _ else _) = _
          rw [if_pos (by omega)]; rfl
        | succ m ih =>
          intro i hi
          have hii : i < (inn L l1).length := by omega
          obtain ⟨t, ht⟩ : ∃ t, t = (inn L l1)[i] := ⟨_, rfl⟩
          have hrd : rd (inL L l1) (i : Int) = (t : Int) := by rw [rd_nat _ i (by omega), ht]; simp [inL]
          have h2 := ih (i + 1) (by omega)
          rw [List.take_succ_eq_append_getElem hii, ← ht, List.filter_append] at h2
          obtain ⟨X, hX⟩ : ∃ X, X = ((inn L l1).take i).filter (fun c => !(trL L l1).contains c) := ⟨_, rfl⟩
          have hXl : X.length ≤ i := by
            rw [hX]
            refine Nat.le_trans (List.length_filter_le _ _) ?_
            rw [List.length_take]; omega
          have hcX := castL_len X
          rw [← hX] at h2 ⊢
          refine Ev.succ (G := fun k => (pylonlaw16_has.f k (castL (trL L l1)) (t : Int)).bind fun t1003 => (if t1003 = true then (pylonlaw16_TreeCycles.l0 k (cycL L l1) (castL (trL L l1)) (inL L l1) (castL X) ((i + 1 : Nat) : Int) b L) else (if (castL X).length < 17592186044416 then (pylonlaw16_TreeCycles.l0 k (cycL L l1) (castL (trL L l1)) (inL L l1) (castL X ++ [(t : Int)]) ((i + 1 : Nat) : Int) b L) else (none)))) (fun k => ?_) ?_
          · rw [pylonlaw16_TreeCycles.l0, if_pos (by omega), if_pos (by omega), hrd, wrap_small (by omega) (by omega)]; rfl
          · refine Ev.bind (has_ev (castL (trL L l1)) (t : Int) (by omega)) ?_
            by_cases hx : t ∈ trL L l1
            · have e1 : [t].filter (fun c => !(trL L l1).contains c) = [] := by simp [hx]
              rw [e1, List.append_nil] at h2
              refine Ev.eq (fun k => ?_) h2
              rw [decide_eq_true (mem_castL.2 hx), if_pos rfl]
            · have e1 : [t].filter (fun c => !(trL L l1).contains c) = [t] := by simp [hx]
              rw [e1] at h2
              refine Ev.eq (fun k => ?_) h2
              rw [decide_eq_false (fun h => hx (mem_castL.1 h)), if_neg (by simp), if_pos (by omega)]
              simp [castL]
      refine Ev.eq (G := fun k => pylonlaw16_TreeCycles.j1 k (cycL L l1) (castL (trL L l1)) (inL L l1) false b L) (fun k => ?_) (Ev.succ (fun k => ?_) (first (inn L l1).length 0 (by omega)))
      · rw [in_ok hv]; rfl
      · rw [pylonlaw16_TreeCycles.j1, if_neg (by simp)]; rfl
    · have : (outsV b L l1 != 0) = true := bne_iff_ne.2 hv
      rw [this]; exact haw
end Go.Proofs.Ytdpgdelimffjpaa.P
