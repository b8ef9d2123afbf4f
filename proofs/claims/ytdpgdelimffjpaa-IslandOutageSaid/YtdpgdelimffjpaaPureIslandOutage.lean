import Derived.Test.YtdpgdelimffjpaaF9
import Derived.Test.YtdpgdelimffjpaaHMem
import Derived.Test.YtdpgdelimffjpaaHOut
namespace Go.Proofs.Ytdpgdelimffjpaa.P
open Go.RowKit Go.Proofs.YtdpgdelimffjpaaW.PrintWords Go.Proofs.YtdpgdelimffjpaaW.PrintLast Go.Proofs.YtdpgdelimffjpaaW.PrintMore
attribute [local go_sem] max2_int min2_int max_two min_two max_three min_three max_four min_four
set_option linter.unusedVariables false
set_option linter.unusedSimpArgs false
theorem IslandOutage_true (b : Int) (L : List S37) (l1 : List Int) (a : Int) : ∃ k, pylonlaw15_IslandOutage.f k b L l1 a = some true := by
  apply Ev.tell
  obtain ⟨r, hr, hx⟩ := long_f b L [l1] (by simp)
  have haw : Ev (fun k => pylonlaw15_IslandOutage.j0 k l1 a true b L) true := by
    refine Ev.succ (G := fun _ => some true) (fun k => ?_) (Ev.some_ _)
    rw [pylonlaw15_IslandOutage.j0, if_pos rfl]; rfl
  refine Ev.bind (F := fun k => pylonlaw14_Long.f k b L [l1]) (G := fun k t396 => if t396 = true then (pylonlaw15_IslandOutage.j0 k l1 a true b L) else ((pylonlaw15_awake.f).bind fun t397 => (if t397 = true then ((net_Outs.f k b L l1).bind fun t398 => (if t398 = 0 then (if a < 0 then (pylonlaw15_IslandOutage.j0 k l1 a true b L) else (pylonlaw15_IslandOutage.j0 k l1 a (decide (a ≥ (L.length : Int))) b L)) else (pylonlaw15_IslandOutage.j0 k l1 a true b L))) else (pylonlaw15_IslandOutage.j0 k l1 a true b L)))) hr ?_
  cases r with
  | true => exact haw
  | false =>
    obtain ⟨_, hl⟩ := hx rfl
    have h1 : l1.length ≤ 100 := hl l1 (by simp)
    show Ev (fun k => (net_Outs.f k b L l1).bind fun t398 => (if t398 = 0 then (if a < 0 then (pylonlaw15_IslandOutage.j0 k l1 a true b L) else (pylonlaw15_IslandOutage.j0 k l1 a (decide (a ≥ (L.length : Int))) b L)) else (pylonlaw15_IslandOutage.j0 k l1 a true b L))) true
    refine Ev.bind (outs_ev' b L l1 (by omega)) ?_
    by_cases hv : outsV b L l1 = 0
    · rw [hv]
      by_cases hneg : a < 0
      · exact Ev.eq (fun k => by rw [if_pos rfl, if_pos hneg]) haw
      · by_cases hbig : a ≥ (L.length : Int)
        · exact Ev.eq (fun k => by rw [if_pos rfl, if_neg hneg, decide_eq_true hbig]) haw
        · refine Ev.eq (G := fun k => pylonlaw15_IslandOutage.j0 k l1 a false b L) (fun k => by rw [if_pos rfl, if_neg hneg, decide_eq_false hbig]) ?_
          obtain ⟨t, ht, rfl⟩ := mem_range_of (show 0 ≤ a by omega) (show a < (L.length : Int) by omega)
          have hb := outs_bus hv
          obtain ⟨N, rfl⟩ := Int.eq_ofNat_of_zero_le (show 0 ≤ b by omega)
          obtain ⟨hmv, hmu, hmi⟩ := more_ok hv ht
          obtain ⟨u, v, hu, hv', huN, hvN, huv, hen⟩ := line_ok (outsV_ok hv).1 ht
          obtain ⟨M, hM⟩ : ∃ M, M = uni l1 [(t : Int)] := ⟨_, rfl⟩
          have hcn := fun (hk : t ∈ inn L l1) => more_cnt hv hk N rfl
          rw [← hM] at hmv hmu hmi hcn
          have hof := of_ok hv
          have hof2 := of_ok hmv
          have hco := count_ok hv
          have hco2 := count_ok hmv
          rw [Int.toNat_natCast] at hof hof2 hco hco2
          rw [refs_cnt] at hco hco2
          have hfin : ∀ x y, lab (edges L M) x = lab (edges L M) y → lab (edges L l1) x = lab (edges L l1) y := fun x y h => conn_mono (E := edges L M) (E' := edges L l1) (fun e he => by
            obtain ⟨k, hk, rfl⟩ := List.mem_map.1 he
            exact List.mem_map_of_mem ((hmi k).1 hk).1) h
          have hin : t ∈ inn L l1 → lab (edges L l1) u = lab (edges L l1) v := fun hk => by
            have := lab_edge (E := edges L l1) (e := enL L t) (List.mem_map_of_mem (f := enL L) hk)
            rw [hen] at this; exact this
          have hout : t ∉ inn L l1 → lab (edges L M) = lab (edges L l1) := fun hk => lab_congr fun e => by
            rw [edges_en, edges_en, List.mem_map, List.mem_map]
            constructor
            · rintro ⟨k, hk2, rfl⟩; exact ⟨k, ((hmi k).1 hk2).1, rfl⟩
            · rintro ⟨k, hk2, rfl⟩; exact ⟨k, (hmi k).2 ⟨hk2, fun e => hk (e ▸ hk2)⟩, rfl⟩
          have hf := lab_lb (edges L l1)
          have hg := lab_lb (edges L M)
          have hq : cnt (lab (edges L M)) N = cnt (lab (edges L l1)) N + (if lab (edges L l1) u = lab (edges L l1) v ∧ lab (edges L M) u ≠ lab (edges L M) v then 1 else 0) := by
            by_cases hk : t ∈ inn L l1
            · have h2 := hcn hk
              rw [hen] at h2
              by_cases hc : conn (edges L M) u v
              · rw [if_pos hc] at h2
                rw [if_neg (fun h => h.2 hc)]; omega
              · rw [if_neg hc] at h2
                rw [if_pos ⟨hin hk, hc⟩]; omega
            · rw [hout hk, if_neg (fun h => h.2 h.1)]; rfl
          generalize lab (edges L l1) = f at *
          generalize lab (edges L M) = g at *
          have hlf : (islOf f N N).length = N := by simp [islOf]
          have hlg : (islOf g N N).length = N := by simp [islOf]
          have hrf : ∀ {x y : Nat}, x < N → y < N → (rd (islOf f N N) (x : Int) = rd (islOf f N N) (y : Int) ↔ f x = f y) := by
            intro x y hx hy
            rw [rd_nat _ x (by rw [hlf]; exact hx), rd_nat _ y (by rw [hlf]; exact hy)]
            have := isl_eq hf hx hy
            simpa [islOf] using this
          have hrg : ∀ {x y : Nat}, x < N → y < N → (rd (islOf g N N) (x : Int) = rd (islOf g N N) (y : Int) ↔ g x = g y) := by
            intro x y hx hy
            rw [rd_nat _ x (by rw [hlg]; exact hx), rd_nat _ y (by rw [hlg]; exact hy)]
            have := isl_eq hg hx hy
            simpa [islOf] using this
          have hpN : cnt f N ≤ N := by rw [← refs_cnt]; exact refsOf_len f N
          obtain ⟨p, hp⟩ : ∃ p, p = cnt f N := ⟨_, rfl⟩
          obtain ⟨q, hqq⟩ : ∃ q, q = cnt g N := ⟨_, rfl⟩
          rw [← hp, ← hqq] at hq
          rw [← hp] at hco hpN
          rw [← hqq] at hco2
          have hqp : p ≤ q ∧ q ≤ p + 1 := by rw [hq]; split <;> omega
          have hu' : u < N := by omega
          have hv'' : v < N := by omega
          have outer : ∀ m x : Nat, x + m = N → Ev (fun k => pylonlaw15_IslandOutage.l0 k (t : Int) (islOf f N N) (islOf g N N) (p : Int) (q : Int) (x : Int) (N : Int) L) true := by
            intro m
            induction m with
            | zero =>
              intro x hx
              refine Ev.succ (G := fun _ => some true) (fun k => ?_) (Ev.some_ _)
              rw [pylonlaw15_IslandOutage.l0, if_neg (by omega), if_pos (by omega), if_pos (by omega), hu, hv', if_pos (by omega), if_pos (by rw [hlf]; omega), if_pos (by omega), if_pos (by rw [hlf]; omega), wrap_small (by omega) (by omega)]
              by_cases hfe : f u = f v
              · rw [if_pos ((hrf hu' hv'').2 hfe), if_pos (by rw [hlg]; omega), if_pos (by rw [hlg]; omega)]
                by_cases hge : g u = g v
                · rw [if_neg (fun h => h.2 hge)] at hq
                  have e1 : ((q : Int) == (p : Int) + 1) = false := by rw [beq_eq_false_iff_ne]; omega
                  have e2 : (rd (islOf g N N) (u : Int) != rd (islOf g N N) (v : Int)) = false := by rw [bne_eq_false_iff_eq]; exact (hrg hu' hv'').2 hge
                  rw [e1, e2]; rfl
                · rw [if_pos ⟨hfe, hge⟩] at hq
                  have e1 : ((q : Int) == (p : Int) + 1) = true := by rw [beq_iff_eq]; omega
                  have e2 : (rd (islOf g N N) (u : Int) != rd (islOf g N N) (v : Int)) = true := by rw [bne_iff_ne]; exact fun h => hge ((hrg hu' hv'').1 h)
                  rw [e1, e2]; rfl
              · rw [if_neg (fun h => hfe ((hrf hu' hv'').1 h))]
                rw [if_neg (fun h => hfe h.1)] at hq
                have e1 : ((q : Int) == (p : Int) + 1) = false := by rw [beq_eq_false_iff_ne]; omega
                rw [e1]; rfl
            | succ m ih =>
              intro x hx
              have inner : ∀ d y : Nat, y + d = N → Ev (fun k => pylonlaw15_IslandOutage.l1 k (t : Int) (islOf f N N) (islOf g N N) (p : Int) (q : Int) (x : Int) (y : Int) (N : Int) L) true := by
                intro d
                induction d with
                | zero =>
                  intro y hy
                  refine Ev.succ (fun k => ?_) (ih (x + 1) (by omega))
                  rw [pylonlaw15_IslandOutage.l1, if_neg (by omega), wrap_small (by omega) (by omega)]; rfl
                | succ d ihd =>
                  intro y hy
                  refine Ev.succ (fun k => ?_) (ihd (y + 1) (by omega))
                  rw [pylonlaw15_IslandOutage.l1, if_pos (by omega), if_pos (by omega), if_pos (by rw [hlg]; omega), if_pos (by omega), if_pos (by rw [hlg]; omega), wrap_small (by omega) (by omega)]
                  by_cases hge : g x = g y
                  · rw [if_pos ((hrg (by omega) (by omega)).2 hge), if_pos (by rw [hlf]; omega), if_pos (by rw [hlf]; omega), if_pos ((hrf (by omega) (by omega)).2 (hfin x y hge))]; rfl
                  · rw [if_neg (fun h => hge ((hrg (by omega) (by omega)).1 h))]; rfl
              refine Ev.succ (fun k => ?_) (inner N 0 (by omega))
              rw [pylonlaw15_IslandOutage.l0, if_pos (by omega)]; rfl
          refine Ev.succ (G := fun k => (island_Of.f k (N : Int) L l1).bind fun bt407 => ((island_Of.f k (N : Int) L M).bind fun bt411 => ((island_Count.f k (N : Int) L l1).bind fun bt415 => ((island_Count.f k (N : Int) L M).bind fun bt417 => (if bt407.2 = 0 then (if bt411.2 = 0 then (if bt415.2 = 0 then (if bt417.2 = 0 then (if bt417.1 < bt415.1 then (pylonlaw15_IslandOutage.j1 k (t : Int) bt407.1 bt411.1 bt415.1 bt417.1 true (N : Int) L) else (if bt417.1 > (wrap64 (bt415.1 + 1)) then (pylonlaw15_IslandOutage.j1 k (t : Int) bt407.1 bt411.1 bt415.1 bt417.1 true (N : Int) L) else (if (bt407.1.length : Int) = (N : Int) then (pylonlaw15_IslandOutage.j1 k (t : Int) bt407.1 bt411.1 bt415.1 bt417.1 ((bt411.1.length : Int) != (N : Int)) (N : Int) L) else (pylonlaw15_IslandOutage.j1 k (t : Int) bt407.1 bt411.1 bt415.1 bt417.1 true (N : Int) L)))) else (pylonlaw15_IslandOutage.j1 k (t : Int) bt407.1 bt411.1 bt415.1 bt417.1 true (N : Int) L)) else (pylonlaw15_IslandOutage.j1 k (t : Int) bt407.1 bt411.1 bt415.1 bt417.1 true (N : Int) L)) else (pylonlaw15_IslandOutage.j1 k (t : Int) bt407.1 bt411.1 bt415.1 bt417.1 true (N : Int) L)) else (pylonlaw15_IslandOutage.j1 k (t : Int) bt407.1 bt411.1 bt415.1 bt417.1 true (N : Int) L)))))) (fun k => by rw [pylonlaw15_IslandOutage.j0, if_neg (by simp), hmu, Option.bind_some]; rfl) ?_
          refine Ev.bind hof (Ev.bind hof2 (Ev.bind hco (Ev.bind hco2 ?_)))
          refine Ev.eq (G := fun k => pylonlaw15_IslandOutage.j1 k (t : Int) (islOf f N N) (islOf g N N) (p : Int) (q : Int) false (N : Int) L) (fun k => ?_) (Ev.succ (fun k => ?_) (outer N 0 (by omega)))
          · have hne : (((islOf g N N).length : Int) != (N : Int)) = false := by rw [bne_eq_false_iff_eq, hlg]
            show (if (0 : Int) = 0 then _ else _) = _
            rw [if_pos rfl, if_pos rfl, if_pos rfl, if_pos rfl, wrap_small (by omega) (by omega), if_neg (by omega), if_neg (by omega), if_pos (by rw [hlf]), hne]
          · rw [pylonlaw15_IslandOutage.j1, if_neg (by simp)]; rfl
    · exact Ev.eq (fun k => by rw [if_neg hv]) haw
end Go.Proofs.Ytdpgdelimffjpaa.P
