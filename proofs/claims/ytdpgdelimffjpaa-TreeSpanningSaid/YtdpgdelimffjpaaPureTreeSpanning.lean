import Derived.Test.YtdpgdelimffjpaaF18
import Derived.Test.YtdpgdelimffjpaaHTreeP
namespace Go.Proofs.Ytdpgdelimffjpaa.P
open Go.RowKit Go.Proofs.YtdpgdelimffjpaaW.PrintWords Go.Proofs.YtdpgdelimffjpaaW.PrintLast Go.Proofs.YtdpgdelimffjpaaW.PrintMore
attribute [local go_sem] max2_int min2_int max_two min_two max_three min_three max_four min_four
set_option linter.unusedVariables false
set_option linter.unusedSimpArgs false
theorem count_ok' {b : Int} {L : List S37} {out : List Int} (h : outsV b L out = 0) : Ev (fun k => island_Count.f k b L out) (((refsOf (lab (edges L out)) b.toNat).length : Int), 0) :=
  Ev.bind (refs_ok h) (Ev.some_ _)
theorem nat_ext : ∀ {a b : List Nat}, a.Pairwise (· < ·) → b.Pairwise (· < ·) → (∀ x, x ∈ a ↔ x ∈ b) → a = b
  | [], [], _, _, _ => rfl
  | [], y :: b, _, _, h => absurd ((h y).2 (List.mem_cons_self ..)) List.not_mem_nil
  | x :: a, [], _, _, h => absurd ((h x).1 (List.mem_cons_self ..)) List.not_mem_nil
  | x :: a, y :: b, ha, hb, h => by
    have ha' := List.pairwise_cons.1 ha
    have hb' := List.pairwise_cons.1 hb
    have hxy : x = y := by
      rcases List.mem_cons.1 ((h x).1 (List.mem_cons_self ..)) with e | h1
      · exact e
      · rcases List.mem_cons.1 ((h y).2 (List.mem_cons_self ..)) with e | h2
        · exact e.symm
        · have := hb'.1 x h1; have := ha'.1 y h2; omega
    subst hxy
    rw [nat_ext ha'.2 hb'.2 fun z => ?_]
    constructor
    · intro hz
      rcases List.mem_cons.1 ((h z).1 (List.mem_cons_of_mem _ hz)) with e | h1
      · have := ha'.1 z hz; omega
      · exact h1
    · intro hz
      rcases List.mem_cons.1 ((h z).2 (List.mem_cons_of_mem _ hz)) with e | h1
      · have := hb'.1 z hz; omega
      · exact h1
theorem TreeSpanning_true (b : Int) (L : List S37) (l1 : List Int) : ∃ k, pylonlaw16_TreeSpanning.f k b L l1 = some true := by
  apply Ev.tell
  obtain ⟨r, hr, hx⟩ := long_f b L [l1] (by simp)
  have haw : Ev (fun k => pylonlaw16_TreeSpanning.j0 k l1 true b L) true := by
    refine Ev.succ (G := fun _ => some true) (fun k => ?_) (Ev.some_ _)
    rw [pylonlaw16_TreeSpanning.j0, if_pos rfl]; rfl
  refine Ev.bind (F := fun k => pylonlaw14_Long.f k b L [l1]) (G := fun k t => if t = true then (pylonlaw16_TreeSpanning.j0 k l1 true b L) else ((pylonlaw16_awake.f).bind fun t2 => (if t2 = true then ((net_Outs.f k b L l1).bind fun t3 => (pylonlaw16_TreeSpanning.j0 k l1 (t3 != 0) b L)) else (pylonlaw16_TreeSpanning.j0 k l1 true b L)))) hr ?_
  cases r with
  | true => exact haw
  | false =>
    obtain ⟨_, hl⟩ := hx rfl
    have h1 : l1.length ≤ 100 := hl l1 (by simp)
    show Ev (fun k => (net_Outs.f k b L l1).bind fun t3 => (pylonlaw16_TreeSpanning.j0 k l1 (t3 != 0) b L)) true
    refine Ev.bind (outs_ev' b L l1 (by omega)) ?_
    by_cases hv : outsV b L l1 = 0
    · rw [hv]
      have hb := outs_bus hv
      have hc := (outsV_ok hv).1
      obtain ⟨N, rfl⟩ := Int.eq_ofNat_of_zero_le (show 0 ≤ b by omega)
      have hil := inn_len L l1
      have hll := inL_len L l1
      have htl := trL_len L l1
      have hcl := castL_len (trL L l1)
      obtain ⟨T, hT⟩ : ∃ T, T = trL L l1 := ⟨_, rfl⟩
      have hTl : ∀ k ∈ T, k < L.length := by rw [hT]; exact trL_lt L l1
      have hTs : T.Pairwise (· < ·) := by rw [hT]; exact trL_sorted L l1
      have hTf : Fo (enL L) T := by rw [hT]; exact trL_fo L l1
      have hTi : ∀ k ∈ T, k ∈ inn L l1 := by rw [hT]; exact tr_sub _
      have htree := tree_ok hv
      rw [← hT] at htree htl hcl
      obtain ⟨M, hM⟩ : ∃ M, M = inL L (castL T) := ⟨_, rfl⟩
      have hMv : outsV (N : Int) L M = 0 := by rw [hM]; exact co_outs hc _
      have hMi : inn L M = T := nat_ext (inn_sorted L M) hTs (fun k => by rw [hM]; exact co_inn hTl k)
      have hlab : lab (edges L M) = lab (edges L l1) := lab_ext fun x y => by
        rw [hM]
        refine (co_conn hTl).trans ?_
        rw [hT]
        exact tr_cn _ x y
      have hMt : trL L M = T := by unfold trL; rw [hMi]; exact tr_self T hTf
      have hMo : offL L M = [] := by
        unfold offL; rw [hMi, hMt]
        rw [List.filter_eq_nil_iff]
        intro k hk; simp [hk]
      have hMb : brL L M = T := by
        unfold brL; rw [hMt]
        have : cycL L M = [] := by unfold cycL; rw [hMo]; rfl
        rw [this]
        rw [List.filter_eq_self]
        intro k _; rfl
      have hof := of_ok hv
      have hof2 := of_ok hMv
      have hco := count_ok' hv
      have hbr := bridges_ok hMv
      rw [hMb] at hbr
      rw [hlab] at hof2
      rw [Int.toNat_natCast] at hof hof2 hco
      rw [refs_cnt] at hco
      have hcount : T.length + cnt (lab (edges L l1)) N = N := by
        rw [hT]
        refine tr_count (en := enL L) N (inn L l1) (fun k hk => ?_)
        obtain ⟨u, v, _, _, hu, hv2, _, he⟩ := line_ok hc (mem_inn.1 hk).1
        rw [he]; exact ⟨by show u < N; omega, by show v < N; omega⟩
      obtain ⟨X, hX⟩ : ∃ X, X = islOf (lab (edges L l1)) N N := ⟨_, rfl⟩
      have hXl : X.length = N := by rw [hX]; simp [islOf]
      rw [← hX] at hof hof2
      have hrest := rest_ev (N : Int) L (castL T) (by omega) (by omega)
      rw [← hM] at hrest
      refine Ev.succ (G := fun k => ((tree_Tree.f k (N : Int) L l1).bind fun bt1026 => (if bt1026.2 = 0 then ((island_Of.f k (N : Int) L l1).bind fun bt1030 => ((pylonlaw16_rest.f k (N : Int) L bt1026.1).bind fun t1034 => ((island_Of.f k (N : Int) L t1034).bind fun bt1037 => ((island_Count.f k (N : Int) L l1).bind fun bt1041 => ((pylonlaw16_rest.f k (N : Int) L bt1026.1).bind fun t1043 => ((tree_Bridges.f k (N : Int) L t1043).bind fun bt1046 => (if bt1030.2 = 0 then (if bt1037.2 = 0 then (if bt1041.2 = 0 then (if bt1046.2 = 0 then (if (bt1026.1.length : Int) = (wrap64 ((N : Int) - bt1041.1)) then ((pylonref14_Ints.f k bt1030.1 bt1037.1).bind fun t1050 => (if t1050 = true then ((pylonref14_Ints.f k bt1046.1 bt1026.1).bind fun t1051 => (pylonlaw16_TreeSpanning.j1 k l1 bt1026.1 (!t1051) (N : Int) L)) else (pylonlaw16_TreeSpanning.j1 k l1 bt1026.1 true (N : Int) L))) else (pylonlaw16_TreeSpanning.j1 k l1 bt1026.1 true (N : Int) L)) else (pylonlaw16_TreeSpanning.j1 k l1 bt1026.1 true (N : Int) L)) else (pylonlaw16_TreeSpanning.j1 k l1 bt1026.1 true (N : Int) L)) else (pylonlaw16_TreeSpanning.j1 k l1 bt1026.1 true (N : Int) L)) else (pylonlaw16_TreeSpanning.j1 k l1 bt1026.1 true (N : Int) L)))))))) else (some false)))) (fun k => by show pylonlaw16_TreeSpanning.j0 (k + 1) l1 false (N : Int) L = _; rw [pylonlaw16_TreeSpanning.j0, if_neg (by simp)]) ?_
      refine Ev.bind htree ?_
      refine Ev.eq (fun k => if_pos rfl) ?_
      refine Ev.bind hof (Ev.bind hrest (Ev.bind hof2 (Ev.bind hco (Ev.bind hrest (Ev.bind hbr ?_)))))
      have last : ∀ m i : Nat, i + m = T.length → Ev (fun k => pylonlaw16_TreeSpanning.l0 k l1 (castL T) (i : Int) (N : Int) L) true := by
        intro m
        induction m with
        | zero =>
          intro i hi
          refine Ev.succ (G := fun _ => some true) (fun k => ?_) (Ev.some_ _)
          rw [pylonlaw16_TreeSpanning.l0, if_neg (by omega)]
        | succ m ih =>
          intro i hi
          have hii : i < T.length := by omega
          have hri : ∀ j (hj : j < T.length), rd (castL T) (j : Int) = ((T[j] : Nat) : Int) := by
            intro j hj; rw [rd_nat _ j (by omega)]; simp [castL]
          have hti := hTi _ (List.getElem_mem hii)
          have htL := hTl _ (List.getElem_mem hii)
          have hno : ((T[i] : Nat) : Int) ∉ l1 := (mem_inn.1 hti).2
          have hr := hri i hii
          have hnext := ih (i + 1) (by omega)
          refine Ev.succ (G := fun k => (pylonlaw16_has.f k l1 ((T[i] : Nat) : Int)).bind fun t1053 => (if t1053 = true then (some false) else (if ((T[i] : Nat) : Int) < 0 then (some false) else (if ((T[i] : Nat) : Int) ≥ (L.length : Int) then (some false) else (if (i : Int) > 0 then (if 0 ≤ (wrap64 ((i : Int) - 1)) then (if (wrap64 ((i : Int) - 1)) < ((castL T).length : Int) then (if ((T[i] : Nat) : Int) ≤ (rd (castL T) (wrap64 ((i : Int) - 1))) then (some false) else (pylonlaw16_TreeSpanning.l0 k l1 (castL T) (wrap64 ((i : Int) + 1)) (N : Int) L)) else (none)) else (none)) else (pylonlaw16_TreeSpanning.l0 k l1 (castL T) (wrap64 ((i : Int) + 1)) (N : Int) L)))))) (fun k => by rw [pylonlaw16_TreeSpanning.l0, if_pos (by omega), if_pos (by omega), hr]) ?_
          refine Ev.bind (has_ev l1 _ (by omega)) (Ev.eq (fun k => ?_) hnext)
          rw [decide_eq_false hno, if_neg (by simp), if_neg (by omega), if_neg (by omega), wrap_small (x := (i : Int) + 1) (by omega) (by omega)]
          by_cases hi0 : i = 0
          · subst hi0; rw [if_neg (by omega)]; rfl
          · obtain ⟨i', rfl⟩ : ∃ i', i = i' + 1 := ⟨i - 1, by omega⟩
            have hlt := List.pairwise_iff_getElem.1 hTs i' (i' + 1) (by omega) hii (by omega)
            have hw : wrap64 (((i' + 1 : Nat) : Int) - 1) = (i' : Int) := by rw [wrap_small (by omega) (by omega)]; omega
            rw [if_pos (by omega), hw, if_pos (by omega), if_pos (by omega), hri i' (by omega), if_neg (by omega)]; rfl
      refine Ev.eq (G := fun k => (pylonref14_Ints.f k X X).bind fun t1050 => (if t1050 = true then ((pylonref14_Ints.f k (castL T) (castL T)).bind fun t1051 => (pylonlaw16_TreeSpanning.j1 k l1 (castL T) (!t1051) (N : Int) L)) else (pylonlaw16_TreeSpanning.j1 k l1 (castL T) true (N : Int) L))) (fun k => ?_) ?_
      · show (if (0 : Int) = 0 then _ else _) = _
        rw [if_pos rfl, if_pos rfl, if_pos rfl, if_pos rfl, if_pos]
        show ((castL T).length : Int) = _
        rw [wrap_small (by omega) (by omega)]; omega
      refine Ev.bind (ints_ev X X (by omega)) ?_
      rw [decide_eq_true rfl]
      refine Ev.eq (fun k => if_pos rfl) (Ev.bind (ints_ev (castL T) (castL T) (by omega)) ?_)
      rw [decide_eq_true rfl]
      refine Ev.succ (fun k => ?_) (last T.length 0 (by omega))
      show pylonlaw16_TreeSpanning.j1 (k + 1) l1 (castL T) false (N : Int) L = _
      rw [pylonlaw16_TreeSpanning.j1, if_neg (by simp)]; rfl
    · have : (outsV b L l1 != 0) = true := bne_iff_ne.2 hv
      rw [this]; exact haw
end Go.Proofs.Ytdpgdelimffjpaa.P
