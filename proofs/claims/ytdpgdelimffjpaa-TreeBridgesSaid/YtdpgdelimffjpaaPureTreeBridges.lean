import Derived.Test.YtdpgdelimffjpaaF12
import Derived.Test.YtdpgdelimffjpaaHTreeP
namespace Go.Proofs.Ytdpgdelimffjpaa.P
open Go.RowKit Go.Proofs.YtdpgdelimffjpaaW.PrintWords Go.Proofs.YtdpgdelimffjpaaW.PrintLast Go.Proofs.YtdpgdelimffjpaaW.PrintMore
attribute [local go_sem] max2_int min2_int max_two min_two max_three min_three max_four min_four
set_option linter.unusedVariables false
set_option linter.unusedSimpArgs false
theorem count_okB {b : Int} {L : List S37} {out : List Int} (h : outsV b L out = 0) : Ev (fun k => island_Count.f k b L out) (((refsOf (lab (edges L out)) b.toNat).length : Int), 0) :=
  Ev.bind (refs_ok h) (Ev.some_ _)
/-- A line in service is on a cycle if and only if its ends stay connected without it. -/
theorem uses_conn {b : Int} {L : List S37} {out : List Int} (h : outsV b L out = 0) {j : Nat} (hj : j ∈ inn L out) : ((cycL L out).any (usesW (j : Int)) = true ↔ conn (edges L (uni out [(j : Int)])) (enL L j).1 (enL L j).2) ∧ (j ∉ trL L out → (cycL L out).any (usesW (j : Int)) = true) := by
  have hjl := (mem_inn.1 hj).1
  have hm := (more_ok h hjl).2.2
  have hcg : conn (edges L (uni out [(j : Int)])) (enL L j).1 (enL L j).2 ↔ cn (enL L) (less (inn L out) j) (enL L j).1 (enL L j).2 :=
    cn_congr (en := enL L) (T := inn L (uni out [(j : Int)])) fun d => by rw [hm, mem_less]
  have hoff : j ∉ trL L out → (cycL L out).any (usesW (j : Int)) = true := by
    intro hn
    rw [List.any_eq_true]
    refine ⟨_, List.mem_map_of_mem (mem_offL.2 ⟨hj, hn⟩), ?_⟩
    unfold usesW
    rw [rd_cyc1 hjl hjl, if_pos rfl]; rfl
  refine ⟨?_, hoff⟩
  rw [hcg]
  by_cases hT : j ∈ trL L out
  · exact uses_iff hT
  · constructor
    · intro _
      have h1 := cn_line (en := enL L) hj
      have h2 := (tr_cn (en := enL L) (inn L out) _ _).2 h1
      refine cn_mono (fun k hk => ?_) h2
      rw [mem_less]
      exact ⟨tr_sub _ k hk, fun e => hT (e ▸ hk)⟩
    · intro _; exact hoff hT
theorem mem_brL {L : List S37} {out : List Int} {j : Nat} : j ∈ brL L out ↔ j ∈ trL L out ∧ (cycL L out).any (usesW (j : Int)) = false := by
  unfold brL; rw [List.mem_filter]; simp
theorem TreeBridges_true (b : Int) (L : List S37) (l1 : List Int) : ∃ k, pylonlaw16_TreeBridges.f k b L l1 = some true := by
  apply Ev.tell
  obtain ⟨r, hr, hx⟩ := long_f b L [l1] (by simp)
  have haw : Ev (fun k => pylonlaw16_TreeBridges.j0 k l1 true b L) true := by
    refine Ev.succ (G := fun _ => some true) (fun k => ?_) (Ev.some_ _)
    rw [pylonlaw16_TreeBridges.j0, if_pos rfl]; rfl
  refine Ev.bind (F := fun k => pylonlaw14_Long.f k b L [l1]) (G := fun k t => if t = true then (pylonlaw16_TreeBridges.j0 k l1 true b L) else ((pylonlaw16_awake.f).bind fun t2 => (if t2 = true then ((net_Outs.f k b L l1).bind fun t3 => (pylonlaw16_TreeBridges.j0 k l1 (t3 != 0) b L)) else (pylonlaw16_TreeBridges.j0 k l1 true b L)))) hr ?_
  cases r with
  | true => exact haw
  | false =>
    obtain ⟨_, hl⟩ := hx rfl
    have h1 : l1.length ≤ 100 := hl l1 (by simp)
    show Ev (fun k => (net_Outs.f k b L l1).bind fun t3 => (pylonlaw16_TreeBridges.j0 k l1 (t3 != 0) b L)) true
    refine Ev.bind (outs_ev' b L l1 (by omega)) ?_
    by_cases hv : outsV b L l1 = 0
    · rw [hv]
      have hb := outs_bus hv
      have hc := (outsV_ok hv).1
      obtain ⟨N, rfl⟩ := Int.eq_ofNat_of_zero_le (show 0 ≤ b by omega)
      have hil := inn_len L l1
      have hll := inL_len L l1
      have htl := trL_len L l1
      have hco := count_okB hv
      rw [Int.toNat_natCast, refs_cnt] at hco
      have hbr := bridges_ok hv
      have htr := tree_ok hv
      have hcy := cycles_ok hv
      have hTl := castL_len (trL L l1)
      have hQl := castL_len (brL L l1)
      have hQt : (brL L l1).length ≤ (trL L l1).length := List.length_filter_le _ _
      have hCl : (cycL L l1).length ≤ L.length := by
        unfold cycL offL; rw [List.length_map]
        exact Nat.le_trans (List.length_filter_le _ _) hil
      have hQs : (brL L l1).Pairwise (· < ·) := List.Pairwise.filter _ (trL_sorted L l1)
      have hQi : ∀ k ∈ brL L l1, k ∈ inn L l1 := fun k hk => tr_sub _ k (mem_brL.1 hk).1
      obtain ⟨p, hp⟩ : ∃ p, p = cnt (lab (edges L l1)) N := ⟨_, rfl⟩
      have hpN : p ≤ N := by rw [hp, ← refs_cnt]; exact refsOf_len _ N
      have hmain : ∀ j, j ∈ inn L l1 → ∃ M q, net_Union.f l1 [(j : Int)] = some (M, 0) ∧ Ev (fun k => island_Count.f k (N : Int) L M) ((q : Int), 0) ∧ q = (p : Nat) + (if (cycL L l1).any (usesW (j : Int)) = true then 0 else 1) := by
        intro j hj
        obtain ⟨hmv, hmu, _⟩ := more_ok hv (mem_inn.1 hj).1
        have hc2 := count_okB hmv
        rw [Int.toNat_natCast, refs_cnt] at hc2
        refine ⟨_, _, hmu, hc2, ?_⟩
        have h2 := more_cnt hv hj N rfl
        rw [← hp] at h2
        have h3 := (uses_conn hv hj).1
        by_cases hu : (cycL L l1).any (usesW (j : Int)) = true
        · rw [if_pos (h3.1 hu)] at h2; rw [if_pos hu]; omega
        · rw [if_neg (fun h => hu (h3.2 h))] at h2; rw [if_neg hu]; omega
      rw [← hp] at hco
      have huc := fun j hj => (uses_conn hv (j := j) hj).2
      have hcl : ∀ w ∈ cycL L l1, w.length = L.length := by
        intro w hw
        obtain ⟨c, _, rfl⟩ := List.mem_map.1 hw
        exact cyc1_len L l1 c
      have hmB : ∀ j, j ∈ brL L l1 ↔ j ∈ trL L l1 ∧ (cycL L l1).any (usesW (j : Int)) = false := fun j => mem_brL
      clear hp
      generalize cycL L l1 = Y at *
      generalize trL L l1 = T at *
      generalize brL L l1 = Q at *
      -- the last loop: the bridges are lines in service, in order
      have last : ∀ m i : Nat, i + m = Q.length → Ev (fun k => pylonlaw16_TreeBridges.l2 k (castL Q) (inL L l1) (i : Int)) true := by
        intro m
        induction m with
        | zero =>
          intro i hi
          refine Ev.succ (G := fun _ => some true) (fun k => ?_) (Ev.some_ _)
          rw [pylonlaw16_TreeBridges.l2, if_neg (by omega)]
        | succ m ih =>
          intro i hi
          have hii : i < Q.length := by omega
          have hri : ∀ j (hj : j < Q.length), rd (castL Q) (j : Int) = ((Q[j] : Nat) : Int) := by
            intro j hj; rw [rd_nat _ j (by omega)]; simp [castL]
          have hin : ((Q[i] : Nat) : Int) ∈ inL L l1 := by
            have := mem_inn.1 (hQi _ (List.getElem_mem hii))
            exact mem_inL.2 ⟨by omega, by omega, this.2⟩
          have hr := hri i hii
          have hnext := ih (i + 1) (by omega)
          refine Ev.succ (G := fun k => (pylonlaw16_has.f k (inL L l1) ((Q[i] : Nat) : Int)).bind fun t753 => (if t753 = true then (if (i : Int) > 0 then (if 0 ≤ (wrap64 ((i : Int) - 1)) then (if (wrap64 ((i : Int) - 1)) < ((castL Q).length : Int) then (if ((Q[i] : Nat) : Int) ≤ (rd (castL Q) (wrap64 ((i : Int) - 1))) then (some false) else (pylonlaw16_TreeBridges.l2 k (castL Q) (inL L l1) (wrap64 ((i : Int) + 1)))) else (none)) else (none)) else (pylonlaw16_TreeBridges.l2 k (castL Q) (inL L l1) (wrap64 ((i : Int) + 1)))) else (some false))) (fun k => by rw [pylonlaw16_TreeBridges.l2, if_pos (by omega), if_pos (by omega), hr]) ?_
          refine Ev.bind (has_ev _ _ (by omega)) (Ev.eq (fun k => ?_) hnext)
          rw [decide_eq_true hin, if_pos rfl, wrap_small (x := (i : Int) + 1) (by omega) (by omega)]
          by_cases hi0 : i = 0
          · subst hi0; rw [if_neg (by omega)]; rfl
          · obtain ⟨i', rfl⟩ : ∃ i', i = i' + 1 := ⟨i - 1, by omega⟩
            have hlt := List.pairwise_iff_getElem.1 hQs i' (i' + 1) (by omega) hii (by omega)
            have hw : wrap64 (((i' + 1 : Nat) : Int) - 1) = (i' : Int) := by rw [wrap_small (by omega) (by omega)]; omega
            rw [if_pos (by omega), hw, if_pos (by omega), if_pos (by omega), hri i' (by omega), if_neg (by omega)]; rfl
      -- the loop over the lines in service
      have outer : ∀ m i : Nat, i + m = (inn L l1).length → Ev (fun k => pylonlaw16_TreeBridges.l0 k l1 (castL Q) (castL T) Y (inL L l1) (p : Int) (i : Int) (N : Int) L) true := by
        intro m
        induction m with
        | zero =>
          intro i hi
          refine Ev.succ (fun k => ?_) (last Q.length 0 (by omega))
          rw [pylonlaw16_TreeBridges.l0, if_neg (by omega)]; rfl
        | succ m ih =>
          intro i hi
          have hii : i < (inn L l1).length := by omega
          obtain ⟨j, hj⟩ : ∃ j, j = (inn L l1)[i] := ⟨_, rfl⟩
          have hjm : j ∈ inn L l1 := by rw [hj]; exact List.getElem_mem hii
          have hjl := (mem_inn.1 hjm).1
          have hrd : rd (inL L l1) (i : Int) = (j : Int) := by rw [rd_nat _ i (by omega), hj]; simp [inL]
          obtain ⟨M, q, hun, hcn, hq⟩ := hmain j hjm
          have hnext := ih (i + 1) (by omega)
          have hut := huc j hjm
          have hB := hmB j
          obtain ⟨U, hU⟩ : ∃ U, U = Y.any (usesW (j : Int)) := ⟨_, rfl⟩
          rw [← hU] at hq hut hB
          have inner : ∀ d c : Nat, c + d = Y.length → Ev (fun k => pylonlaw16_TreeBridges.l1 k l1 (castL Q) (castL T) Y (inL L l1) (p : Int) (i : Int) ((Y.take c).any (usesW (j : Int))) (c : Int) (N : Int) L) true := by
            intro d
            induction d with
            | zero =>
              intro c hcd
              have e : (Y.take c).any (usesW (j : Int)) = U := by rw [List.take_of_length_le (by omega), hU]
              rw [e]
              refine Ev.succ (G := fun k => (net_Union.f l1 (([(j : Int)] : List Int))).bind fun bt738 => ((island_Count.f k (N : Int) L bt738.1).bind fun bt742 => (if bt738.2 = 0 then (if bt742.2 = 0 then ((pylonlaw16_has.f k (castL Q) (j : Int)).bind fun t745 => (if (t745 != (bt742.1 == (wrap64 ((p : Int) + 1)))) = true then (some false) else ((pylonlaw16_has.f k (castL Q) (j : Int)).bind fun t747 => (if (t747 == U) = true then (some false) else ((pylonlaw16_has.f k (castL Q) (j : Int)).bind fun t749 => (if t749 = true then ((pylonlaw16_has.f k (castL T) (j : Int)).bind fun t751 => (if t751 = true then (pylonlaw16_TreeBridges.l0 k l1 (castL Q) (castL T) Y (inL L l1) (p : Int) ((i + 1 : Nat) : Int) (N : Int) L) else (some false))) else (pylonlaw16_TreeBridges.l0 k l1 (castL Q) (castL T) Y (inL L l1) (p : Int) ((i + 1 : Nat) : Int) (N : Int) L))))))) else (some false)) else (some false)))) (fun k => ?_) ?_
              · rw [pylonlaw16_TreeBridges.l1, if_neg (by omega), if_pos (by omega), if_pos (by omega), hrd, wrap_small (x := (i : Int) + 1) (by omega) (by omega)]; rfl
              · refine Ev.eq (fun k => by rw [hun, Option.bind_some]) (Ev.bind hcn ?_)
                have hh := has_ev (castL Q) (j : Int) (by omega)
                have hh2 := has_ev (castL T) (j : Int) (by omega)
                refine Ev.eq (fun k => by rw [if_pos rfl, if_pos rfl]) (Ev.bind hh ?_)
                have hw : wrap64 ((p : Int) + 1) = (p : Int) + 1 := wrap_small (by omega) (by omega)
                rw [hw]
                cases hUv : U with
                | true =>
                  rw [hUv, if_pos rfl] at hq
                  have hnb : ¬ ((j : Int) ∈ castL Q) := fun h => by
                    have := (hB.1 (mem_castL.1 h)).2; rw [hUv] at this; exact Bool.noConfusion this
                  have e1 : ((q : Int) == (p : Int) + 1) = false := by rw [beq_eq_false_iff_ne]; omega
                  rw [decide_eq_false hnb] at hh ⊢
                  rw [e1]
                  refine Ev.eq (fun k => if_neg (by simp)) (Ev.bind hh (Ev.eq (fun k => if_neg (by simp)) (Ev.bind hh (Ev.eq (fun k => if_neg (by simp)) hnext))))
                | false =>
                  rw [hUv, if_neg (by simp)] at hq
                  have hjT : j ∈ T := by
                    by_cases h : j ∈ T
                    · exact h
                    · have := hut h; rw [hUv] at this; exact Bool.noConfusion this
                  have hnb : (j : Int) ∈ castL Q := mem_castL.2 (hB.2 ⟨hjT, hUv⟩)
                  have e1 : ((q : Int) == (p : Int) + 1) = true := by rw [beq_iff_eq]; omega
                  rw [decide_eq_true hnb] at hh ⊢
                  rw [decide_eq_true (mem_castL.2 hjT)] at hh2
                  rw [e1]
                  refine Ev.eq (fun k => if_neg (by simp)) (Ev.bind hh (Ev.eq (fun k => if_neg (by simp)) (Ev.bind hh (Ev.eq (fun k => if_pos rfl) (Ev.bind hh2 (Ev.eq (fun k => if_pos rfl) hnext))))))
            | succ d ihd =>
              intro c hcd
              have hcc : c < Y.length := by omega
              have hrow : rd_L1 Y (c : Int) = Y[c] := by simp [rd_L1, List.getD_eq_getElem?_getD, hcc]
              have hrl : Y[c].length = L.length := hcl _ (List.getElem_mem hcc)
              have h2 := ihd (c + 1) (by omega)
              rw [List.take_succ_eq_append_getElem hcc, List.any_append] at h2
              have e0 : [Y[c]].any (usesW (j : Int)) = (rd Y[c] (j : Int) != 0) := by simp [usesW]
              rw [e0] at h2
              refine Ev.succ (fun k => ?_) h2
              rw [pylonlaw16_TreeBridges.l1, if_pos (by omega), if_pos (by omega), hrow, if_pos (by omega), if_pos (by omega), if_pos (by omega), hrd, if_neg (by omega), if_neg (by omega), wrap_small (x := (c : Int) + 1) (by omega) (by omega)]
              cases hA : (Y.take c).any (usesW (j : Int)) with
              | true => rw [if_pos rfl, Bool.true_or]; rfl
              | false => rw [if_neg (by simp), if_pos (by omega), if_pos (by omega), Bool.false_or]; rfl
          have h0 := inner Y.length 0 (by omega)
          refine Ev.succ (fun k => ?_) h0
          rw [pylonlaw16_TreeBridges.l0, if_pos (by omega)]; rfl
      refine Ev.succ (G := fun k => (tree_Bridges.f k (N : Int) L l1).bind fun bt710 => ((tree_Tree.f k (N : Int) L l1).bind fun bt714 => ((tree_Cycles.f k (N : Int) L l1).bind fun bt718 => ((net_In.f (N : Int) L l1).bind fun bt722 => ((island_Count.f k (N : Int) L l1).bind fun bt726 => (if bt710.2 = 0 then (if bt714.2 = 0 then (if bt718.2 = 0 then (if bt722.2 = 0 then (pylonlaw16_TreeBridges.j1 k l1 bt710.1 bt714.1 bt718.1 bt722.1 bt726.1 (bt726.2 != 0) (N : Int) L) else (pylonlaw16_TreeBridges.j1 k l1 bt710.1 bt714.1 bt718.1 bt722.1 bt726.1 true (N : Int) L)) else (pylonlaw16_TreeBridges.j1 k l1 bt710.1 bt714.1 bt718.1 bt722.1 bt726.1 true (N : Int) L)) else (pylonlaw16_TreeBridges.j1 k l1 bt710.1 bt714.1 bt718.1 bt722.1 bt726.1 true (N : Int) L)) else (pylonlaw16_TreeBridges.j1 k l1 bt710.1 bt714.1 bt718.1 bt722.1 bt726.1 true (N : Int) L))))))) (fun k => by show pylonlaw16_TreeBridges.j0 (k + 1) l1 false (N : Int) L = _; rw [pylonlaw16_TreeBridges.j0, if_neg (by simp)]) ?_
      refine Ev.bind hbr (Ev.bind htr (Ev.bind hcy ?_))
      refine Ev.eq (fun k => by rw [in_ok hv, Option.bind_some]) (Ev.bind hco ?_)
      refine Ev.eq (fun k => by rw [if_pos rfl, if_pos rfl, if_pos rfl, if_pos rfl]) ?_
      refine Ev.succ (fun k => ?_) (outer (inn L l1).length 0 (by omega))
      show pylonlaw16_TreeBridges.j1 (k + 1) l1 (castL Q) (castL T) Y (inL L l1) (p : Int) false (N : Int) L = _
      rw [pylonlaw16_TreeBridges.j1, if_neg (by simp)]; rfl
    · have : (outsV b L l1 != 0) = true := bne_iff_ne.2 hv
      rw [this]; exact haw
end Go.Proofs.Ytdpgdelimffjpaa.P
