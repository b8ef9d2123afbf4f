import Derived.Test.YtdpgdelimffjpaaF3d
import Derived.Test.YtdpgdelimffjpaaHEv
import Derived.Test.YtdpgdelimffjpaaHLab2
namespace Go.Proofs.Ytdpgdelimffjpaa.P
open Go.RowKit Go.Proofs.YtdpgdelimffjpaaW.PrintWords Go.Proofs.YtdpgdelimffjpaaW.PrintLast Go.Proofs.YtdpgdelimffjpaaW.PrintMore
attribute [local go_sem] max2_int min2_int max_two min_two max_three min_three max_four min_four
set_option linter.unusedVariables false
set_option linter.unusedSimpArgs false
theorem conn_f {N : Nat} {L : List S37} {out : List Int} (h : outsV (N : Int) L out = 0) {x y : Nat} (hx : x < N) (hy : y < N) : island_Connected.f (N : Int) L out (x : Int) (y : Int) = some (decide (lab (edges L out) x = lab (edges L out) y), 0) := by
  have hl : (labsOf (lab (edges L out)) N).length = N := labsOf_len _ _
  rw [island_Connected.f, stands_ok h, Option.bind_some, if_pos rfl, Int.toNat_natCast, if_neg (by omega), if_neg (by rw [hl]; omega), if_neg (by omega), if_neg (by rw [hl]; omega), if_pos (by omega), if_pos (by rw [hl]; omega), if_pos (by omega), if_pos (by rw [hl]; omega), rd_labsOf _ _ _ hx, rd_labsOf _ _ _ hy]
  have e : (((lab (edges L out) x : Nat) : Int) == ((lab (edges L out) y : Nat) : Int)) = decide (lab (edges L out) x = lab (edges L out) y) := by
    rw [Bool.eq_iff_iff, beq_iff_eq, decide_eq_true_eq]; omega
  rw [e]
theorem outs_ev (b : Int) (L : List S37) (out : List Int) (h : out.length ≤ 1000000) : Ev (fun k => net_Outs.f k b L out) (outsV b L out) := ⟨out.length + 1, fun k hk => outs_f b L out (by omega) k (by omega)⟩
theorem IslandConnected_true (b : Int) (L : List S37) (l1 : List Int) : ∃ k, pylonlaw15_IslandConnected.f k b L l1 = some true := by
  apply Ev.tell
  obtain ⟨r, hr, hx⟩ := long_f b L [l1] (by simp)
  have haw : Ev (fun k => pylonlaw15_IslandConnected.j0 k l1 true b L) true := by
    refine Ev.succ (G := fun _ => some true) (fun k => ?_) (Ev.some_ _)
    rw [pylonlaw15_IslandConnected.j0, if_pos rfl]; rfl
  refine Ev.bind (F := fun k => pylonlaw14_Long.f k b L [l1]) (G := fun k t157 => if t157 = true then (pylonlaw15_IslandConnected.j0 k l1 true b L) else ((pylonlaw15_awake.f).bind fun t158 => (pylonlaw15_IslandConnected.j0 k l1 (!t158) b L))) hr ?_
  cases r with
  | true => exact haw
  | false =>
    obtain ⟨_, hl⟩ := hx rfl
    have hl1 : l1.length ≤ 100 := hl l1 (by simp)
    show Ev (fun k => pylonlaw15_IslandConnected.j0 k l1 false b L) true
    refine Ev.succ (G := fun k => (island_Of.f k b L l1).bind fun bt160 => (if bt160.2 = 0 then ((net_Strip.f b L l1).bind fun bt165 => (if bt165.2.2.2 = 0 then (pylonlaw15_IslandConnected.j1 k l1 bt160.1 ((bt160.1.length : Int) != b) b L bt165.1 bt165.2.1) else (pylonlaw15_IslandConnected.j1 k l1 bt160.1 true b L bt165.1 bt165.2.1))) else ((net_Outs.f k b L l1).bind fun t164 => (some (t164 == bt160.2))))) (fun k => by rw [pylonlaw15_IslandConnected.j0, if_neg (by simp)]) ?_
    by_cases hv : outsV b L l1 = 0
    · refine Ev.bind (of_ok hv) ?_
      have hb := outs_bus hv
      obtain ⟨N, rfl⟩ := Int.eq_ofNat_of_zero_le (show 0 ≤ b by omega)
      rw [Int.toNat_natCast]
      have hcf := fun {x y : Nat} (hx : x < N) (hy : y < N) => conn_f hv hx hy
      obtain ⟨X, hX⟩ : ∃ X, X = islOf (lab (edges L l1)) N N := ⟨_, rfl⟩
      have hXl : X.length = N := by rw [hX]; simp [islOf]
      have hXr : ∀ {x y : Nat}, x < N → y < N → ((rd X (x : Int)) == (rd X (y : Int))) = decide (lab (edges L l1) x = lab (edges L l1) y) := by
        intro x y hx hy
        rw [hX, rd_nat _ x (by simpa [islOf] using hx), rd_nat _ y (by simpa [islOf] using hy), Bool.eq_iff_iff, beq_iff_eq, decide_eq_true_eq]
        have := isl_eq (lab_lb (edges L l1)) hx hy
        simpa [islOf] using this
      obtain ⟨SL, hSL⟩ : ∃ SL, SL = (inn L l1).map (fun (k : Nat) => rd_T37 L (k : Int)) := ⟨_, rfl⟩
      have hSLl : SL.length ≤ 1000 := by
        rw [hSL, List.length_map]; unfold inn
        have := List.length_filter_le (fun (k : Nat) => !l1.contains (k : Int)) (List.range L.length)
        rw [List.length_range] at this; omega
      rw [← hX]
      refine Ev.eq (G := fun k => pylonlaw15_IslandConnected.j1 k l1 X false (N : Int) L (N : Int) SL) (fun k => ?_) ?_
      · have hs : net_Strip.f (N : Int) L l1 = some ((N : Int), SL, (inn L l1).map (fun (k : Nat) => (k : Int)), 0) := by rw [net_Strip.f, if_pos hv, hSL]
        have hne : ((X.length : Int) != (N : Int)) = false := by rw [bne_eq_false_iff_eq, hXl]
        simp only [hs, Option.bind_some, if_true, hne]
      have outer : ∀ m a : Nat, a + m = N → Ev (fun k => pylonlaw15_IslandConnected.l1 k l1 X (a : Int) (N : Int) L) true := by
        intro m
        induction m with
        | zero =>
          intro a ha
          refine Ev.succ (G := fun _ => some true) (fun k => ?_) (Ev.some_ _)
          rw [pylonlaw15_IslandConnected.l1, if_neg (by omega)]
        | succ m ih =>
          intro a ha
          have mid : ∀ q y : Nat, y + q = N → Ev (fun k => pylonlaw15_IslandConnected.l2 k l1 X (a : Int) (y : Int) (N : Int) L) true := by
            intro q
            induction q with
            | zero =>
              intro y hy
              refine Ev.succ (G := fun k => pylonlaw15_IslandConnected.l1 k l1 X ((a + 1 : Nat) : Int) (N : Int) L) (fun k => ?_) (ih (a + 1) (by omega))
              rw [pylonlaw15_IslandConnected.l2, if_neg (by omega), wrap_small (by omega) (by omega)]; rfl
            | succ q ihq =>
              intro y hy
              have haN : a < N := by omega
              have hyN : y < N := by omega
              have hend : ∀ (x : Bool) (c : Int), Ev (fun k => pylonlaw15_IslandConnected.j7 k l1 X (a : Int) (y : Int) x c false (N : Int) L) true := by
                intro x c
                refine Ev.succ (G := fun k => pylonlaw15_IslandConnected.l2 k l1 X (a : Int) ((y + 1 : Nat) : Int) (N : Int) L) (fun k => ?_) (ihq (y + 1) (by omega))
                rw [pylonlaw15_IslandConnected.j7, if_neg (by simp), wrap_small (by omega) (by omega)]; rfl
              have inner : ∀ p c : Nat, c + p = N → Ev (fun k => pylonlaw15_IslandConnected.l3 k l1 X (a : Int) (y : Int) (decide (lab (edges L l1) a = lab (edges L l1) y)) (c : Int) (N : Int) L) true := by
                intro p
                induction p with
                | zero =>
                  intro c hc
                  refine Ev.succ (fun k => ?_) (hend (decide (lab (edges L l1) a = lab (edges L l1) y)) (c : Int))
                  rw [pylonlaw15_IslandConnected.l3, if_neg (by omega)]
                | succ p ihp =>
                  intro c hc
                  have hcN : c < N := by omega
                  by_cases hxy : lab (edges L l1) a = lab (edges L l1) y
                  · refine Ev.succ (G := fun k => pylonlaw15_IslandConnected.j7 k l1 X (a : Int) (y : Int) (decide (lab (edges L l1) a = lab (edges L l1) y)) (c : Int) true (N : Int) L) (fun k => ?_) (Ev.succ (fun k => ?_) (ihp (c + 1) (by omega)))
                    · rw [pylonlaw15_IslandConnected.l3, if_pos (by omega), decide_eq_true hxy]
                    · rw [pylonlaw15_IslandConnected.j7, if_pos rfl, hcf hyN hcN, Option.bind_some, hcf haN hcN, Option.bind_some, if_neg (by simp [hxy]), wrap_small (by omega) (by omega)]; rfl
                  · refine Ev.succ (fun k => ?_) (hend (decide (lab (edges L l1) a = lab (edges L l1) y)) (c : Int))
                    rw [pylonlaw15_IslandConnected.l3, if_pos (by omega), decide_eq_false hxy]
              refine Ev.succ (G := fun k => pylonlaw15_IslandConnected.j5 k l1 X (a : Int) (y : Int) (decide (lab (edges L l1) a = lab (edges L l1) y)) false (N : Int) L) (fun k => ?_) (Ev.succ (G := fun k => pylonlaw15_IslandConnected.l3 k l1 X (a : Int) (y : Int) (decide (lab (edges L l1) a = lab (edges L l1) y)) ((0 : Nat) : Int) (N : Int) L) (fun k => ?_) (inner N 0 (by omega)))
              · rw [pylonlaw15_IslandConnected.l2, if_pos (by omega), hcf haN hyN, Option.bind_some, hcf hyN haN, Option.bind_some, if_pos rfl, if_pos rfl]
                have e1 : (decide (lab (edges L l1) a = lab (edges L l1) y) != decide (lab (edges L l1) y = lab (edges L l1) a)) = false := by
                  rw [bne_eq_false_iff_eq, decide_eq_decide]; exact eq_comm
                have e2 : (decide (lab (edges L l1) a = lab (edges L l1) y) != ((rd X (a : Int)) == (rd X (y : Int)))) = false := by rw [bne_eq_false_iff_eq, hXr haN hyN]
                simp only [e1, e2, Bool.false_eq_true, if_false]
                rw [if_pos (by omega), if_pos (by omega), if_pos (by omega), if_pos (by omega)]
                by_cases hay : a = y
                · subst hay
                  rw [if_pos rfl, decide_eq_true rfl]; rfl
                · rw [if_neg (by omega)]
              · rw [pylonlaw15_IslandConnected.j5, if_neg (by simp)]; rfl
          refine Ev.succ (G := fun k => pylonlaw15_IslandConnected.l2 k l1 X (a : Int) ((0 : Nat) : Int) (N : Int) L) (fun k => ?_) (mid N 0 (by omega))
          rw [pylonlaw15_IslandConnected.l1, if_pos (by omega)]; rfl
      have first : ∀ m i : Nat, i + m = SL.length → Ev (fun k => pylonlaw15_IslandConnected.l0 k l1 X (i : Int) (N : Int) L (N : Int) SL) true := by
        intro m
        induction m with
        | zero =>
          intro i hi
          refine Ev.succ (G := fun k => pylonlaw15_IslandConnected.l1 k l1 X ((0 : Nat) : Int) (N : Int) L) (fun k => ?_) (outer N 0 (by omega))
          rw [pylonlaw15_IslandConnected.l0, if_neg (by omega)]; rfl
        | succ m ih =>
          intro i hi
          obtain ⟨u, v, hu, hv', hun, hvn, _, htk⟩ := edge_ok hv hSL i (by omega)
          have hmem : (u, v) ∈ edges L l1 := List.mem_of_mem_take (by rw [htk]; simp : (u, v) ∈ (edges L l1).take (i + 1))
          have huv : lab (edges L l1) u = lab (edges L l1) v := lab_edge hmem
          refine Ev.succ (G := fun k => pylonlaw15_IslandConnected.l0 k l1 X ((i + 1 : Nat) : Int) (N : Int) L (N : Int) SL) (fun k => ?_) (ih (i + 1) (by omega))
          rw [pylonlaw15_IslandConnected.l0, if_pos (by omega), if_pos (by omega), hu, hv', hcf hun hvn, Option.bind_some, if_pos (decide_eq_true huv), if_pos rfl, wrap_small (by omega) (by omega)]; rfl
      refine Ev.succ (G := fun k => pylonlaw15_IslandConnected.l0 k l1 X ((0 : Nat) : Int) (N : Int) L (N : Int) SL) (fun k => ?_) (first SL.length 0 (by omega))
      rw [pylonlaw15_IslandConnected.j1, if_neg (by simp)]; rfl
    · refine Ev.bind (of_bad hv) ?_
      refine Ev.eq (G := fun k => (net_Outs.f k b L l1).bind fun t => some (t == outsV b L l1)) (fun k => by simp only [if_neg hv]) ?_
      refine Ev.bind (outs_ev b L l1 (by omega)) ?_
      rw [beq_self_eq_true]
      exact Ev.some_ _
end Go.Proofs.Ytdpgdelimffjpaa.P
