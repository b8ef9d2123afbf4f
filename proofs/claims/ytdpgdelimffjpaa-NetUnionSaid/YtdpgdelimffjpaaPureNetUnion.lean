import Derived.Test.YtdpgdelimffjpaaF23
import Derived.Test.YtdpgdelimffjpaaHNetP
namespace Go.Proofs.Ytdpgdelimffjpaa.P
open Go.RowKit Go.Proofs.YtdpgdelimffjpaaW.PrintWords Go.Proofs.YtdpgdelimffjpaaW.PrintLast Go.Proofs.YtdpgdelimffjpaaW.PrintMore
attribute [local go_sem] max2_int min2_int max_two min_two max_three min_three max_four min_four
set_option linter.unusedVariables false
set_option linter.unusedSimpArgs false
theorem NetUnion_true (l1 l2 l3 : List Int) : ∃ k, pylonlaw14_NetUnion.f k l1 l2 l3 = some true := by
  apply Ev.tell
  obtain ⟨r, hr, hx⟩ := long_f 0 [] [l1, l2, l3] (by simp)
  have haw : Ev (fun k => pylonlaw14_NetUnion.j0 k l1 l2 l3 true) true := by
    refine Ev.succ (G := fun _ => some true) (fun k => ?_) (Ev.some_ _)
    rw [pylonlaw14_NetUnion.j0, if_pos rfl]; rfl
  refine Ev.bind (F := fun k => pylonlaw14_Long.f k 0 [] [l1, l2, l3]) (G := fun k t => if t = true then (pylonlaw14_NetUnion.j0 k l1 l2 l3 true) else ((pylonlaw14_awake.f).bind fun t2 => (pylonlaw14_NetUnion.j0 k l1 l2 l3 (!t2)))) hr ?_
  cases r with
  | true => exact haw
  | false =>
    obtain ⟨_, hl⟩ := hx rfl
    have h1 : l1.length ≤ 100 := hl l1 (by simp)
    have h2 : l2.length ≤ 100 := hl l2 (by simp)
    have h3 : l3.length ≤ 100 := hl l3 (by simp)
    have u12 := uni_len l1 l2
    have u23 := uni_len l2 l3
    show Ev (fun k => pylonlaw14_NetUnion.j0 k l1 l2 l3 false) true
    by_cases hab : risesFrom (-1) l1 = true ∧ risesFrom (-1) l2 = true
    · have e1 := union_ok hab.1 hab.2 (by omega) (by omega)
      have e2 := union_ok hab.2 hab.1 (by omega) (by omega)
      refine Ev.succ (G := fun k => (pylonref14_Ints.f k (uni l1 l2) (uni l2 l1)).bind fun t => pylonlaw14_NetUnion.j1 k l1 l2 l3 (uni l1 l2) 0 (!t)) (fun k => ?_) ?_
      · rw [pylonlaw14_NetUnion.j0, if_neg (by simp), e1, Option.bind_some, e2, Option.bind_some, if_pos rfl]
      refine Ev.bind (ints_ev (uni l1 l2) (uni l2 l1) (by omega)) ?_
      rw [decide_eq_true (uni_comm l1 l2)]
      by_cases hc : risesFrom (-1) l3 = true
      · have e3 := union_ok hab.2 hc (by omega) (by omega)
        have e4 := union_ok (uni_rises hab.1 hab.2) hc (by omega) (by omega)
        have e5 := union_ok hab.1 (uni_rises hab.2 hc) (by omega) (by omega)
        have e6 := union_ok hab.1 hab.1 (by omega) (by omega)
        refine Ev.succ (G := fun k => pylonlaw14_NetUnion.j2 k l1 l3 (uni l1 l2) 0 (uni l2 l3) 0 false) (fun k => ?_) ?_
        · rw [pylonlaw14_NetUnion.j1, if_neg (by simp), e3, Option.bind_some, if_pos rfl]; rfl
        refine Ev.succ (G := fun k => (pylonref14_Ints.f k (uni (uni l1 l2) l3) (uni l1 (uni l2 l3))).bind fun t => if t = true then ((pylonref14_Ints.f k (uni l1 l1) l1).bind fun t2 => some t2) else some false) (fun k => ?_) ?_
        · rw [pylonlaw14_NetUnion.j2, if_neg (by simp), e4, Option.bind_some, e5, Option.bind_some, e6, Option.bind_some, if_pos rfl, if_pos rfl, if_pos rfl]
        have u := uni_len (uni l1 l2) l3
        have u' := uni_len l1 l1
        refine Ev.bind (ints_ev _ _ (by omega)) ?_
        rw [decide_eq_true (uni_assoc l1 l2 l3)]
        refine Ev.eq (fun k => if_pos rfl) (Ev.bind (ints_ev (uni l1 l1) l1 (by omega)) ?_)
        rw [decide_eq_true (uni_self hab.1)]
        exact Ev.some_ _
      · have e3 := union_bad (fun h => hc h.2) (a := l2) (b := l3) (by omega) (by omega)
        refine Ev.succ (G := fun k => pylonlaw14_NetUnion.j2 k l1 l3 (uni l1 l2) 0 [] 1 true) (fun k => ?_) (Ev.succ (G := fun _ => some true) (fun k => ?_) (Ev.some_ _))
        · rw [pylonlaw14_NetUnion.j1, if_neg (by simp), e3, Option.bind_some, if_pos rfl]; rfl
        · rw [pylonlaw14_NetUnion.j2, if_pos rfl, if_pos rfl, if_neg (by decide)]; rfl
    · have e1 := union_bad hab (by omega) (by omega)
      have e2 := union_bad (fun h => hab ⟨h.2, h.1⟩) (a := l2) (b := l1) (by omega) (by omega)
      refine Ev.succ (G := fun k => (pylonref14_Ints.f k [] []).bind fun t => pylonlaw14_NetUnion.j1 k l1 l2 l3 [] 1 (!t)) (fun k => ?_) ?_
      · rw [pylonlaw14_NetUnion.j0, if_neg (by simp), e1, Option.bind_some, e2, Option.bind_some, if_pos rfl]
      refine Ev.bind (ints_ev [] [] (by simp)) ?_
      rw [decide_eq_true rfl]
      by_cases hc : risesFrom (-1) l2 = true ∧ risesFrom (-1) l3 = true
      · have e3 := union_ok hc.1 hc.2 (by omega) (by omega)
        refine Ev.succ (G := fun k => pylonlaw14_NetUnion.j2 k l1 l3 [] 1 (uni l2 l3) 0 true) (fun k => ?_) (Ev.succ (G := fun _ => some true) (fun k => ?_) (Ev.some_ _))
        · rw [pylonlaw14_NetUnion.j1, if_neg (by simp), e3, Option.bind_some, if_neg (by decide)]
        · rw [pylonlaw14_NetUnion.j2, if_pos rfl, if_neg (by decide), if_pos rfl, if_pos rfl]
      · have e3 := union_bad hc (by omega) (by omega)
        refine Ev.succ (G := fun k => pylonlaw14_NetUnion.j2 k l1 l3 [] 1 [] 1 true) (fun k => ?_) (Ev.succ (G := fun _ => some true) (fun k => ?_) (Ev.some_ _))
        · rw [pylonlaw14_NetUnion.j1, if_neg (by simp), e3, Option.bind_some, if_neg (by decide)]
        · rw [pylonlaw14_NetUnion.j2, if_pos rfl, if_neg (by decide), if_pos rfl, if_neg (by decide)]; rfl
end Go.Proofs.Ytdpgdelimffjpaa.P
