import Derived.Test.YtdpgdelimffjpaaF27
import Derived.Test.YtdpgdelimffjpaaHNetP
import Derived.Test.YtdpgdelimffjpaaHEqual
import Derived.Test.YtdpgdelimffjpaaHOut
namespace Go.Proofs.Ytdpgdelimffjpaa.P
open Go.RowKit Go.Proofs.YtdpgdelimffjpaaW.PrintWords Go.Proofs.YtdpgdelimffjpaaW.PrintLast Go.Proofs.YtdpgdelimffjpaaW.PrintMore
attribute [local go_sem] max2_int min2_int max_two min_two max_three min_three max_four min_four
set_option linter.unusedVariables false
set_option linter.unusedSimpArgs false
theorem swap_swap (l : S37) : swapL (swapL l) = l := rfl
theorem ok_swap {b : Int} {l : S37} (h : okLine b l = true) : okLine b (swapL l) = true := by
  unfold okLine swapL at *
  simp only [Bool.and_eq_true, decide_eq_true_eq, bne_iff_ne] at *
  omega
theorem at_swap (bus : Int) (l : S37) : atBus bus (swapL l) = atBus bus l := by
  unfold atBus swapL; exact Bool.or_comm _ _
theorem chk_set {b : Int} {L : List S37} (h : chk b L = 0) {i : Nat} (hi : i < L.length) : chk b (L.set i (swapL (rd_T37 L (i : Int)))) = 0 := by
  have h2 := chk_ok h
  unfold chk
  rw [if_neg (by omega), if_neg (by rw [List.length_set]; omega), if_pos]
  rw [List.all_eq_true]
  intro l hl
  rcases List.mem_or_eq_of_mem_set hl with h3 | h3
  · exact h2.2.2.2 l h3
  · rw [h3]; exact ok_swap (h2.2.2.2 _ (by rw [rd_T37_nat hi]; exact List.getElem_mem _))
theorem rd_set_T37 {L : List S37} {i k : Nat} {x : S37} (hi : i < L.length) : rd_T37 (L.set i x) (k : Int) = if k = i then x else rd_T37 L (k : Int) := by
  unfold rd_T37
  simp only [Int.toNat_natCast, List.getD_eq_getElem?_getD]
  by_cases h : k = i
  · subst h; simp [hi]
  · rw [if_neg h, List.getElem?_set_ne (fun e => h e.symm)]
theorem NetReverse_true (b : Int) (L : List S37) (l1 : List Int) (i bus : Int) : ∃ k, pylonlaw14_NetReverse.f k b L l1 i bus = some true := by
  apply Ev.tell
  obtain ⟨r, hr, hx⟩ := long_f b L [l1] (by simp)
  have haw : Ev (fun k => pylonlaw14_NetReverse.j0 k l1 i bus true b L) true := by
    refine Ev.succ (G := fun _ => some true) (fun k => ?_) (Ev.some_ _)
    rw [pylonlaw14_NetReverse.j0, if_pos rfl]; rfl
  refine Ev.bind (F := fun k => pylonlaw14_Long.f k b L [l1]) (G := fun k t => if t = true then (pylonlaw14_NetReverse.j0 k l1 i bus true b L) else ((pylonlaw14_awake.f).bind fun t2 => (pylonlaw14_NetReverse.j0 k l1 i bus (!t2) b L))) hr ?_
  cases r with
  | true => exact haw
  | false =>
    obtain ⟨_, hl⟩ := hx rfl
    have h1 : l1.length ≤ 100 := hl l1 (by simp)
    show Ev (fun k => pylonlaw14_NetReverse.j0 k l1 i bus false b L) true
    have hck : net_Check.f b L = some (chk b L) := rfl
    by_cases hc : chk b L = 0
    · by_cases hneg : i < 0
      · have hr1 : net_Reverse.f b L i = some (0, [], 1) := by rw [net_Reverse.f, if_pos hc, if_pos hneg]
        refine Ev.succ (G := fun k => pylonlaw14_NetReverse.j1 k l1 i bus 1 false b L 0 []) (fun k => ?_) (Ev.succ (G := fun _ => some true) (fun k => ?_) (Ev.some_ _))
        · rw [pylonlaw14_NetReverse.j0, if_neg (by simp), hr1, Option.bind_some]; rfl
        · rw [pylonlaw14_NetReverse.j1, if_neg (by simp), if_neg (by decide), hck, Option.bind_some, hc, if_neg (by decide), if_pos rfl, if_pos hneg]
      · by_cases hbig : (L.length : Int) ≤ i
        · have hr1 : net_Reverse.f b L i = some (0, [], 1) := by rw [net_Reverse.f, if_pos hc, if_neg hneg, if_pos hbig]
          refine Ev.succ (G := fun k => pylonlaw14_NetReverse.j1 k l1 i bus 1 false b L 0 []) (fun k => ?_) (Ev.succ (G := fun _ => some true) (fun k => ?_) (Ev.some_ _))
          · rw [pylonlaw14_NetReverse.j0, if_neg (by simp), hr1, Option.bind_some]; rfl
          · rw [pylonlaw14_NetReverse.j1, if_neg (by simp), if_neg (by decide), hck, Option.bind_some, hc, if_neg (by decide), if_pos rfl, if_neg hneg, decide_eq_true (show i ≥ (L.length : Int) from hbig)]
        · obtain ⟨t, ht, rfl⟩ := mem_range_of (show 0 ≤ i by omega) (show i < (L.length : Int) by omega)
          obtain ⟨M, hM⟩ : ∃ M, M = L.set t (swapL (rd_T37 L (t : Int))) := ⟨_, rfl⟩
          have hMl : M.length = L.length := by rw [hM, List.length_set]
          have hMc : chk b M = 0 := by rw [hM]; exact chk_set hc ht
          have hr1 : net_Reverse.f b L (t : Int) = some (b, M, 0) := by rw [net_Reverse.f, if_pos hc, if_neg hneg, if_neg hbig, Int.toNat_natCast, hM]
          have hback : M.set t (swapL (rd_T37 M (t : Int))) = L := by
            rw [hM, rd_set_T37 ht, if_pos rfl, swap_swap, List.set_set]
            apply List.ext_getElem
            · rw [List.length_set]
            · intro j h2 h3
              rw [List.getElem_set]
              by_cases h : t = j
              · subst h; rw [if_pos rfl, rd_T37_nat ht]
              · rw [if_neg h]
          have hr2 : net_Reverse.f b M (t : Int) = some (b, L, 0) := by rw [net_Reverse.f, if_pos hMc, if_neg hneg, if_neg (by rw [hMl]; exact hbig), Int.toNat_natCast, hback]
          have hne : ¬ M = L := by
            intro e
            obtain ⟨u, v, hu, hv, _, _, huv, _⟩ := line_ok hc ht
            have h2 : rd_T37 M (t : Int) = swapL (rd_T37 L (t : Int)) := by rw [hM, rd_set_T37 ht, if_pos rfl]
            rw [e] at h2
            have h3 := congrArg S37.f0 h2
            have h4 : (swapL (rd_T37 L (t : Int))).f0 = (rd_T37 L (t : Int)).f1 := rfl
            rw [h4, hu, hv] at h3
            omega
          have hov : outsV b M l1 = outsV b L l1 := by unfold outsV; rw [hc, hMc, hMl]
          have hinn : inn M l1 = inn L l1 := by unfold inn; rw [hMl]
          have hat : net_At.f b M l1 bus = net_At.f b L l1 bus := by
            unfold net_At.f
            rw [hov, hinn]
            have : (fun (k : Nat) => atBus bus (rd_T37 M (k : Int))) = (fun (k : Nat) => atBus bus (rd_T37 L (k : Int))) := by
              funext k
              rw [hM, rd_set_T37 ht]
              by_cases h : k = t
              · rw [if_pos h, h, at_swap]
              · rw [if_neg h]
            rw [this]
          obtain ⟨la, ea, hla, hlal⟩ : ∃ la ea, net_At.f b L l1 bus = some (la, ea) ∧ la.length ≤ 1000 := by
            unfold net_At.f
            split
            · split
              · exact ⟨_, _, rfl, by simp⟩
              · refine ⟨_, _, rfl, ?_⟩
                rw [List.length_map]
                have h2 := List.length_filter_le (fun (k : Nat) => atBus bus (rd_T37 L (k : Int))) (inn L l1)
                have h3 := inn_len L l1
                have h4 := chk_ok hc
                omega
            · exact ⟨_, _, rfl, by simp⟩
          have hlb := chk_ok hc
          obtain ⟨r1, e1, x1⟩ := equal_ev b b L L (by omega)
          obtain rfl : r1 = true := x1.2 ⟨rfl, rfl⟩
          obtain ⟨r2, e2, x2⟩ := equal_ev b b M L (by omega)
          obtain rfl : r2 = false := by
            cases r2 with
            | false => rfl
            | true => exact absurd (x2.1 rfl).2 hne
          refine Ev.succ (G := fun k => pylonlaw14_NetReverse.j1 k l1 (t : Int) bus 0 false b L b M) (fun k => ?_) ?_
          · have hnl : ((M.length : Int) != (L.length : Int)) = false := by rw [bne_eq_false_iff_eq, hMl]
            rw [pylonlaw14_NetReverse.j0, if_neg (by simp), hr1, Option.bind_some, if_pos rfl, hnl]
          refine Ev.succ (G := fun k => (net_Equal.f k b L b L).bind fun t1581 => (if t1581 = true then ((net_Equal.f k b M b L).bind fun t1582 => (if t1582 = true then (some false) else (if ea = ea then ((pylonref14_Ints.f k la la).bind fun t1583 => (some t1583)) else (some false)))) else (some false))) (fun k => ?_) ?_
          · rw [pylonlaw14_NetReverse.j1, if_neg (by simp), if_pos rfl, hr2, Option.bind_some, hat, hla, Option.bind_some, Option.bind_some, hck, Option.bind_some, if_pos hc, show net_Check.f b M = some (chk b M) from rfl, Option.bind_some, if_pos hMc]; rfl
          refine Ev.bind e1 (Ev.eq (fun k => if_pos rfl) (Ev.bind e2 (Ev.eq (fun k => by rw [if_neg (by simp), if_pos rfl]) ?_)))
          refine Ev.bind (ints_ev la la (by omega)) ?_
          rw [decide_eq_true rfl]
          exact Ev.some_ _
    · have hr1 : net_Reverse.f b L i = some (0, [], chk b L) := by rw [net_Reverse.f, if_neg hc]
      refine Ev.succ (G := fun k => pylonlaw14_NetReverse.j1 k l1 i bus (chk b L) false b L 0 []) (fun k => ?_) (Ev.succ (G := fun _ => some true) (fun k => ?_) (Ev.some_ _))
      · rw [pylonlaw14_NetReverse.j0, if_neg (by simp), hr1, Option.bind_some]
        show (if chk b L = 0 then _ else _) = _
        rw [if_neg hc]
      · rw [pylonlaw14_NetReverse.j1, if_neg (by simp), if_neg hc, hck, Option.bind_some, if_pos rfl]
end Go.Proofs.Ytdpgdelimffjpaa.P
