import Derived.Test.YtdpgdelimffjpaaF25
import Derived.Test.YtdpgdelimffjpaaHNetP
import Derived.Test.YtdpgdelimffjpaaHEqual
import Derived.Test.YtdpgdelimffjpaaHOut
namespace Go.Proofs.Ytdpgdelimffjpaa.P
open Go.RowKit Go.Proofs.YtdpgdelimffjpaaW.PrintWords Go.Proofs.YtdpgdelimffjpaaW.PrintLast Go.Proofs.YtdpgdelimffjpaaW.PrintMore
attribute [local go_sem] max2_int min2_int max_two min_two max_three min_three max_four min_four
set_option linter.unusedVariables false
set_option linter.unusedSimpArgs false
def stL (L : List S37) (out : List Int) : List S37 := (inn L out).map (fun (k : Nat) => rd_T37 L (k : Int))
theorem stL_len (L : List S37) (out : List Int) : (stL L out).length = (inn L out).length := by simp [stL]
theorem strip_ok {b : Int} {L : List S37} {out : List Int} (h : outsV b L out = 0) : net_Strip.f b L out = some (b, stL L out, inL L out, 0) := by
  rw [net_Strip.f, if_pos h]; rfl
theorem strip_bad {b : Int} {L : List S37} {out : List Int} (h : outsV b L out ≠ 0) : net_Strip.f b L out = some (0, [], [], outsV b L out) := by
  rw [net_Strip.f, if_neg h]
theorem chk_stL {b : Int} {L : List S37} (h : chk b L = 0) (out : List Int) : chk b (stL L out) = 0 := by
  have h2 := chk_ok h
  have hl := inn_len L out
  unfold chk
  rw [if_neg (by omega), if_neg (by rw [stL_len]; omega), if_pos]
  rw [List.all_eq_true]
  intro l hl2
  obtain ⟨k, hk, rfl⟩ := List.mem_map.1 hl2
  have hkl := (mem_inn.1 hk).1
  exact h2.2.2.2 _ (by rw [rd_T37_nat hkl]; exact List.getElem_mem _)
theorem outs_nil {b : Int} {L : List S37} (h : chk b L = 0) : outsV b L [] = 0 := by
  rw [outsV, if_pos h]; rfl
theorem inn_nil (L : List S37) : inn L [] = List.range L.length := by
  unfold inn; rw [List.filter_eq_self]; intro k _; rfl
theorem stL_nil (L : List S37) : stL L [] = L := by
  unfold stL; rw [inn_nil]
  apply List.ext_getElem
  · simp
  · intro i h1 h2
    rw [List.getElem_map, List.getElem_range]
    exact rd_T37_nat h2
theorem nat_extS : ∀ {a b : List Nat}, a.Pairwise (· < ·) → b.Pairwise (· < ·) → (∀ x, x ∈ a ↔ x ∈ b) → a = b
  | [], [], _, _, _ => rfl
  | [], y :: b, _, _, h => absurd ((h y).2 (List.mem_cons_self ..)) List.not_mem_nil
  | x :: a, [], _, _, h => absurd ((h x).1 (List.mem_cons_self ..)) List.not_mem_nil
  | x :: a, y :: b, ha, hb, h => by
    have ha' := List.pairwise_cons.1 ha
    have hb' := List.pairwise_cons.1 hb
    have hxy : x = y := by
      rcases List.mem_cons.1 ((h x).1 (List.mem_cons_self ..)) with e | h1
      · exact e
      · rcases List.mem_cons.1 ((h y).2 (List.mem_cons_self ..)) with e | h2
        · exact e.symm
        · have := hb'.1 x h1; have := ha'.1 y h2; omega
    subst hxy
    rw [nat_extS ha'.2 hb'.2 fun z => ?_]
    constructor
    · intro hz
      rcases List.mem_cons.1 ((h z).1 (List.mem_cons_of_mem _ hz)) with e | h1
      · have := ha'.1 z hz; omega
      · exact h1
    · intro hz
      rcases List.mem_cons.1 ((h z).2 (List.mem_cons_of_mem _ hz)) with e | h1
      · have := hb'.1 z hz; omega
      · exact h1
theorem rd_inL {L : List S37} {out : List Int} {i : Nat} (h : i < (inn L out).length) : rd (inL L out) (i : Int) = (((inn L out)[i] : Nat) : Int) := by
  rw [rd_nat _ i (by rw [inL_len]; exact h)]; simp [inL]
/-- The numbers in the network of the lines that a second list takes out of the stripped one. -/
def bothL (L : List S37) (out more : List Int) : List Int := more.map (fun x => rd (inL L out) x)
theorem both_mem {b : Int} {L : List S37} {out more : List Int} (hm : outsV b (stL L out) more = 0) {k : Nat} : (k : Int) ∈ bothL L out more ↔ ∃ j : Nat, ∃ h : j < (inn L out).length, (j : Int) ∈ more ∧ k = (inn L out)[j] := by
  obtain ⟨_, h1, h2⟩ := outsV_ok hm
  have h1' := rises_iff.1 h1
  unfold bothL
  rw [List.mem_map]
  constructor
  · rintro ⟨x, hx, e⟩
    have hx1 := h1'.1 x hx
    have hx2 := h2 x hx
    rw [stL_len] at hx2
    obtain ⟨j, hj, rfl⟩ := mem_range_of (show 0 ≤ x by omega) hx2
    rw [rd_inL hj] at e
    exact ⟨j, hj, hx, by omega⟩
  · rintro ⟨j, hj, hm2, rfl⟩
    exact ⟨(j : Int), hm2, rd_inL hj⟩
theorem both_rises {b : Int} {L : List S37} {out more : List Int} (hm : outsV b (stL L out) more = 0) : risesFrom (-1) (bothL L out more) = true := by
  obtain ⟨_, h1, h2⟩ := outsV_ok hm
  have h1' := rises_iff.1 h1
  have hof : ∀ x ∈ more, ∃ j : Nat, ∃ h : j < (inn L out).length, x = (j : Int) := by
    intro x hx
    have hx1 := h1'.1 x hx
    have hx2 := h2 x hx
    rw [stL_len] at hx2
    obtain ⟨j, hj, rfl⟩ := mem_range_of (show 0 ≤ x by omega) hx2
    exact ⟨j, hj, rfl⟩
  rw [rises_iff]
  constructor
  · intro y hy
    obtain ⟨x, hx, rfl⟩ := List.mem_map.1 hy
    obtain ⟨j, hj, rfl⟩ := hof x hx
    rw [rd_inL hj]; omega
  · unfold bothL
    rw [List.pairwise_map]
    refine List.Pairwise.imp_of_mem ?_ h1'.2
    intro x y hx hy hxy
    obtain ⟨i, hi, rfl⟩ := hof x hx
    obtain ⟨j, hj, rfl⟩ := hof y hy
    rw [rd_inL hi, rd_inL hj]
    have := List.pairwise_iff_getElem.1 (inn_sorted L out) i j hi hj (by omega)
    omega
theorem two_steps {b : Int} {L : List S37} {out more : List Int} (h : outsV b L out = 0) (hm : outsV b (stL L out) more = 0) : outsV b L (uni out (bothL L out more)) = 0 ∧ net_Union.f out (bothL L out more) = some (uni out (bothL L out more), 0) ∧ inn L (uni out (bothL L out more)) = (inn (stL L out) more).map (fun j => (inn L out).getD j 0) := by
  obtain ⟨h0, h1, h2⟩ := outsV_ok h
  have hr := both_rises hm
  have hl1 := outsV_len h
  have hl2 := outsV_len hm
  have hb := outs_bus h
  have hsl := stL_len L out
  have hil := inn_len L out
  have hbl : (bothL L out more).length = more.length := by simp [bothL]
  have hlt : ∀ x ∈ bothL L out more, x < (L.length : Int) := by
    intro x hx
    obtain ⟨y, hy, e⟩ := List.mem_map.1 hx
    have hx1 := (rises_iff.1 hr).1 x hx
    obtain ⟨k, rfl⟩ := Int.eq_ofNat_of_zero_le (show 0 ≤ x by omega)
    obtain ⟨j, hj, _, rfl⟩ := (both_mem hm).1 hx
    have := (mem_inn.1 (List.getElem_mem hj)).1
    omega
  refine ⟨?_, union_ok h1 hr (by omega) (by omega), ?_⟩
  · rw [outsV, if_pos h0, if_pos]
    rw [Bool.and_eq_true, decide_eq_true_eq]
    refine ⟨uni_rises h1 hr, fun x hx => ?_⟩
    rcases mem_uni.1 hx with hx | hx
    · exact h2 x hx
    · exact hlt x hx
  · have hin : ∀ j ∈ inn (stL L out) more, ∃ hj : j < (inn L out).length, (inn L out).getD j 0 = (inn L out)[j] ∧ (j : Int) ∉ more := by
      intro j hj
      obtain ⟨h3, h4⟩ := mem_inn.1 hj
      rw [stL_len] at h3
      refine ⟨h3, ?_, h4⟩
      rw [List.getD_eq_getElem?_getD, List.getElem?_eq_getElem h3]; rfl
    refine nat_extS (inn_sorted _ _) ?_ fun k => ?_
    · rw [List.pairwise_map]
      refine List.Pairwise.imp_of_mem ?_ (inn_sorted (stL L out) more)
      intro x y hx hy hxy
      obtain ⟨hx1, ex, _⟩ := hin x hx
      obtain ⟨hy1, ey, _⟩ := hin y hy
      rw [ex, ey]
      exact List.pairwise_iff_getElem.1 (inn_sorted L out) x y hx1 hy1 hxy
    · rw [mem_inn, mem_uni, List.mem_map, not_or]
      constructor
      · rintro ⟨h3, h4, h5⟩
        obtain ⟨j, hj, e⟩ := List.getElem_of_mem (mem_inn.2 ⟨h3, h4⟩)
        have hjm : (j : Int) ∉ more := fun h6 => h5 ((both_mem hm).2 ⟨j, hj, h6, e.symm⟩)
        refine ⟨j, mem_inn.2 ⟨by rw [stL_len]; exact hj, hjm⟩, ?_⟩
        rw [List.getD_eq_getElem?_getD, List.getElem?_eq_getElem hj]; exact e
      · rintro ⟨j, hj, e⟩
        obtain ⟨hj1, ex, hjm⟩ := hin j hj
        rw [ex] at e
        have hk := mem_inn.1 (List.getElem_mem hj1)
        rw [e] at hk
        refine ⟨hk.1, hk.2, fun h5 => ?_⟩
        obtain ⟨i, hi, him, ei⟩ := (both_mem hm).1 h5
        have hij : i = j := by
          rcases Nat.lt_trichotomy i j with hlt2 | heq | hlt2
          · have := List.pairwise_iff_getElem.1 (inn_sorted L out) i j hi hj1 hlt2; omega
          · exact heq
          · have := List.pairwise_iff_getElem.1 (inn_sorted L out) j i hj1 hi hlt2; omega
        subst hij
        exact hjm him
theorem stL_two {b : Int} {L : List S37} {out more : List Int} (h : outsV b L out = 0) (hm : outsV b (stL L out) more = 0) : stL (stL L out) more = stL L (uni out (bothL L out more)) := by
  have e := (two_steps h hm).2.2
  show (inn (stL L out) more).map _ = (inn L (uni out (bothL L out more))).map _
  rw [e, List.map_map]
  apply List.map_congr_left
  intro j hj
  have h3 := (mem_inn.1 hj).1
  have h4 : j < (inn L out).length := by rw [stL_len] at h3; exact h3
  rw [rd_T37_nat h3]
  show (stL L out)[j] = rd_T37 L (((inn L out).getD j 0 : Nat) : Int)
  rw [List.getD_eq_getElem?_getD, List.getElem?_eq_getElem h4]
  simp [stL]
theorem NetStrip_true (b : Int) (L : List S37) (l1 l2 : List Int) : ∃ k, pylonlaw14_NetStrip.f k b L l1 l2 = some true := by
  apply Ev.tell
  obtain ⟨r, hr, hx⟩ := long_f b L [l1, l2] (by simp)
  have haw : Ev (fun k => pylonlaw14_NetStrip.j0 k l1 l2 true b L) true := by
    refine Ev.succ (G := fun _ => some true) (fun k => ?_) (Ev.some_ _)
    rw [pylonlaw14_NetStrip.j0, if_pos rfl]; rfl
  refine Ev.bind (F := fun k => pylonlaw14_Long.f k b L [l1, l2]) (G := fun k t => if t = true then (pylonlaw14_NetStrip.j0 k l1 l2 true b L) else ((pylonlaw14_awake.f).bind fun t2 => (pylonlaw14_NetStrip.j0 k l1 l2 (!t2) b L))) hr ?_
  cases r with
  | true => exact haw
  | false =>
    obtain ⟨_, hl⟩ := hx rfl
    have h1 : l1.length ≤ 100 := hl l1 (by simp)
    have h2 : l2.length ≤ 100 := hl l2 (by simp)
    show Ev (fun k => pylonlaw14_NetStrip.j0 k l1 l2 false b L) true
    by_cases hv : outsV b L l1 = 0
    · have hb := outs_bus hv
      have hc := (outsV_ok hv).1
      have hil := inn_len L l1
      have hll := inL_len L l1
      have hsl := stL_len L l1
      have hMc := chk_stL hc l1
      have hst := strip_ok hv
      have hst2 := strip_ok (outs_nil hMc)
      rw [stL_nil] at hst2
      have hal : (inL (stL L l1) []).length = (stL L l1).length := by rw [inL_len, inn_nil, List.length_range]
      obtain ⟨q, hq, hq2⟩ := equal_ev b b (stL L l1) (stL L l1) (by omega)
      obtain rfl : q = true := hq2.2 ⟨rfl, rfl⟩
      have hck : net_Check.f b (stL L l1) = some 0 := by rw [net_Check.f, hMc]
      refine Ev.succ (G := fun k => (net_Equal.f k b (stL L l1) b (stL L l1)).bind fun t1446 => (if t1446 = true then (if ((inL (stL L l1) []).length : Int) = ((stL L l1).length : Int) then (pylonlaw14_NetStrip.j1 k l1 l2 (inL L l1) (((inL L l1).length : Int) != ((stL L l1).length : Int)) b L b (stL L l1)) else (pylonlaw14_NetStrip.j1 k l1 l2 (inL L l1) true b L b (stL L l1))) else (pylonlaw14_NetStrip.j1 k l1 l2 (inL L l1) true b L b (stL L l1)))) (fun k => ?_) ?_
      · rw [pylonlaw14_NetStrip.j0, if_neg (by simp), hst, Option.bind_some]
        show (if (0 : Int) = 0 then _ else _) = _
        rw [if_pos rfl, hst2, Option.bind_some, hck, Option.bind_some, if_pos rfl]
        show (if (0 : Int) = 0 then _ else _) = _
        rw [if_pos rfl]
      refine Ev.bind hq (Ev.eq (G := fun k => pylonlaw14_NetStrip.j1 k l1 l2 (inL L l1) false b L b (stL L l1)) (fun k => ?_) ?_)
      · have hne : (((inL L l1).length : Int) != ((stL L l1).length : Int)) = false := by rw [bne_eq_false_iff_eq]; omega
        rw [if_pos rfl, if_pos (by omega), hne]
      by_cases hm : outsV b (stL L l1) l2 = 0
      · obtain ⟨hU, hun, hin⟩ := two_steps hv hm
        have hA := stL_two hv hm
        have hst3 := strip_ok hm
        have hst4 := strip_ok hU
        obtain ⟨U, hUe⟩ : ∃ U, U = uni l1 (bothL L l1 l2) := ⟨_, rfl⟩
        rw [← hUe] at hU hun hin hA hst4
        have hml := outsV_len hm
        obtain ⟨P, hP⟩ : ∃ P, P = inn (stL L l1) l2 := ⟨_, rfl⟩
        rw [← hP] at hin
        have hPl : P.length ≤ (stL L l1).length := by rw [hP]; exact inn_len _ _
        have hpL : (inL (stL L l1) l2).length = P.length := by rw [inL_len, hP]
        have hqL : (inL L U).length = P.length := by rw [inL_len, hin, List.length_map]
        have hAl : (stL L U).length = P.length := by rw [stL_len, hin, List.length_map]
        have lastL : ∀ m i : Nat, i + m = P.length → Ev (fun k => pylonlaw14_NetStrip.l1 k (inL L l1) (inL (stL L l1) l2) (inL L U) (i : Int)) true := by
          intro m
          induction m with
          | zero =>
            intro i hi
            refine Ev.succ (G := fun _ => some true) (fun k => ?_) (Ev.some_ _)
            rw [pylonlaw14_NetStrip.l1, if_neg (by omega)]
          | succ m ih =>
            intro i hi
            have hii : i < P.length := by omega
            have hii2 : i < (inn (stL L l1) l2).length := by rw [← hP]; exact hii
            have e1 : rd (inL (stL L l1) l2) (i : Int) = ((P[i] : Nat) : Int) := by rw [rd_inL hii2]; simp [hP]
            have hpi : P[i] < (inn L l1).length := by
              have h3 : P[i] ∈ inn (stL L l1) l2 := by rw [← hP]; exact List.getElem_mem hii
              have := (mem_inn.1 h3).1; rw [stL_len] at this; exact this
            have hii3 : i < (inn L U).length := by rw [hin, List.length_map]; exact hii
            have e2 : rd (inL L U) (i : Int) = (((inn L l1)[P[i]] : Nat) : Int) := by
              rw [rd_inL hii3]
              congr 1
              simp only [hin, List.getElem_map]
              rw [List.getD_eq_getElem?_getD, List.getElem?_eq_getElem hpi]; rfl
            refine Ev.succ (fun k => ?_) (ih (i + 1) (by omega))
            rw [pylonlaw14_NetStrip.l1, if_pos (by omega), if_pos (by omega), e1, if_neg (by omega), if_neg (by omega), if_pos (by omega), if_pos (by omega), if_pos (by omega), rd_inL hpi, e2, if_pos rfl, wrap_small (by omega) (by omega)]; rfl
        obtain ⟨q3, hq3, hq4⟩ := equal_ev b b (stL (stL L l1) l2) (stL L U) (by rw [stL_len, ← hP]; omega)
        obtain rfl : q3 = true := hq4.2 ⟨rfl, hA⟩
        have loop : ∀ m i : Nat, i + m = l2.length → Ev (fun k => pylonlaw14_NetStrip.l0 k l1 l2 (inL L l1) (inL (stL L l1) l2) ((l2.take i).map (fun x => rd (inL L l1) x)) (i : Int) b L b (stL (stL L l1) l2)) true := by
          intro m
          induction m with
          | zero =>
            intro i hi
            rw [List.take_of_length_le (by omega)]
            refine Ev.succ (G := fun k => ((net_Equal.f k b (stL (stL L l1) l2) b (stL L U)).bind fun t1477 => (if t1477 = true then (pylonlaw14_NetStrip.j3 k (inL L l1) (inL (stL L l1) l2) (inL L U) (((inL (stL L l1) l2).length : Int) != ((inL L U).length : Int))) else (pylonlaw14_NetStrip.j3 k (inL L l1) (inL (stL L l1) l2) (inL L U) true)))) (fun k => ?_) ?_
            · rw [pylonlaw14_NetStrip.l0, if_neg (by omega)]
              show (net_Union.f l1 (bothL L l1 l2)).bind _ = _
              rw [hun, Option.bind_some]
              show (net_Strip.f b L U).bind _ = _
              rw [hst4, Option.bind_some]
              show (if (0 : Int) = 0 then _ else _) = _
              rw [if_pos rfl]
              show (if (0 : Int) = 0 then _ else _) = _
              rw [if_pos rfl]
            · refine Ev.bind hq3 (Ev.eq (fun k => if_pos rfl) (Ev.succ (fun k => ?_) (lastL P.length 0 (by omega))))
              have hne : (((inL (stL L l1) l2).length : Int) != ((inL L U).length : Int)) = false := by rw [bne_eq_false_iff_eq]; omega
              rw [hne, pylonlaw14_NetStrip.j3, if_neg (by simp)]; rfl
          | succ m ih =>
            intro i hi
            have hii : i < l2.length := by omega
            obtain ⟨_, hr1, hr2⟩ := outsV_ok hm
            have hlo := (rises_iff.1 hr1).1 l2[i] (List.getElem_mem hii)
            have hhi := hr2 l2[i] (List.getElem_mem hii)
            have hrd : rd l2 (i : Int) = l2[i] := rd_nat _ i hii
            have h5 := ih (i + 1) (by omega)
            rw [List.take_succ_eq_append_getElem hii, List.map_append] at h5
            refine Ev.succ (fun k => ?_) h5
            rw [pylonlaw14_NetStrip.l0, if_pos (by omega), if_pos (by omega), hrd, if_neg (by omega), if_neg (by omega), if_pos (by omega), if_pos (by omega), if_pos (by rw [List.length_map, List.length_take]; omega), wrap_small (by omega) (by omega)]; rfl
        have h0 := loop l2.length 0 (by omega)
        refine Ev.succ (fun k => ?_) h0
        rw [pylonlaw14_NetStrip.j1, if_neg (by simp), hst3, Option.bind_some]
        show (if (0 : Int) = 0 then _ else _) = _
        rw [if_pos rfl]; rfl
      · have hst3 := strip_bad hm
        refine Ev.succ (G := fun k => (net_Outs.f k b (stL L l1) l2).bind fun t1456 => (some (t1456 == outsV b (stL L l1) l2))) (fun k => ?_) ?_
        · rw [pylonlaw14_NetStrip.j1, if_neg (by simp), hst3, Option.bind_some]
          show (if outsV b (stL L l1) l2 = 0 then _ else _) = _
          rw [if_neg hm]
        · refine Ev.bind (outs_ev' b (stL L l1) l2 (by omega)) (Ev.eq (G := fun _ => some true) (fun k => ?_) (Ev.some_ _))
          rw [beq_self_eq_true]
    · have hst := strip_bad hv
      refine Ev.succ (G := fun _ => some true) (fun k => ?_) (Ev.some_ _)
      rw [pylonlaw14_NetStrip.j0, if_neg (by simp), hst, Option.bind_some]
      show (if outsV b L l1 = 0 then _ else _) = _
      rw [if_neg hv]; rfl
end Go.Proofs.Ytdpgdelimffjpaa.P
