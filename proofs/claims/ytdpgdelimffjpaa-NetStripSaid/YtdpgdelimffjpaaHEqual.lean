import Derived.Test.YtdpgdelimffjpaaF78
import Derived.Test.YtdpgdelimffjpaaHEv
namespace Go.Proofs.Ytdpgdelimffjpaa.P
open Go.RowKit Go.Proofs.YtdpgdelimffjpaaW.PrintWords Go.Proofs.YtdpgdelimffjpaaW.PrintLast Go.Proofs.YtdpgdelimffjpaaW.PrintMore
attribute [local go_sem] max2_int min2_int max_two min_two max_three min_three max_four min_four
set_option linter.unusedVariables false
set_option linter.unusedSimpArgs false
theorem rd_T37_nat {L : List S37} {i : Nat} (h : i < L.length) : rd_T37 L (i : Int) = L[i] := by
  simp [rd_T37, List.getD_eq_getElem?_getD, h]
theorem S37_ext {x y : S37} (h0 : x.f0 = y.f0) (h1 : x.f1 = y.f1) (h2 : x.f2 = y.f2) (h3 : x.f3 = y.f3) : x = y := by
  cases x; cases y; simp at *; exact ⟨h0, h1, h2, h3⟩
/-- Equal tells whether two networks are alike. -/
theorem equal_ev (b b' : Int) (L L' : List S37) (hl : L.length ≤ 1000000) : ∃ r, Ev (fun k => net_Equal.f k b L b' L') r ∧ (r = true ↔ b = b' ∧ L = L') := by
  by_cases hb : b = b'
  · by_cases hlen : L.length = L'.length
    · have key : ∀ m i, i + m = L.length → (∀ j, j < i → rd_T37 L (j : Int) = rd_T37 L' (j : Int)) → ∃ r, Ev (fun k => api_Line.l0 k L L' (L.length : Int) (i : Int)) r ∧ (r = true ↔ L = L') := by
        intro m
        induction m with
        | zero =>
          intro i hi hh
          have e : L = L' := by
            refine List.ext_getElem hlen fun j h1 h2 => ?_
            have := hh j (by omega)
            rwa [rd_T37_nat h1, rd_T37_nat h2] at this
          exact ⟨true, Ev.succ (G := fun _ => some true) (fun k => by rw [api_Line.l0, if_neg (by omega)]) (Ev.some_ _), ⟨fun _ => e, fun _ => rfl⟩⟩
        | succ m ih =>
          intro i hi hh
          by_cases he : rd_T37 L (i : Int) = rd_T37 L' (i : Int)
          · obtain ⟨r, hr, hx⟩ := ih (i + 1) (by omega) (fun j hj => by
              by_cases h : j = i
              · subst h; exact he
              · exact hh j (by omega))
            refine ⟨r, Ev.succ (fun k => ?_) hr, hx⟩
            rw [api_Line.l0, if_pos (by omega), if_pos (by omega), if_pos (by omega), if_pos (by omega), he, if_neg (by simp), wrap_small (by omega) (by omega)]; rfl
          · refine ⟨false, Ev.succ (G := fun _ => some false) (fun k => ?_) (Ev.some_ _), by simp only [Bool.false_eq_true, false_iff]; exact fun e => he (by rw [e])⟩
            rw [api_Line.l0, if_pos (by omega), if_pos (by omega), if_pos (by omega), if_pos (by omega), if_pos]
            by_cases h0 : (rd_T37 L (i : Int)).f0 = (rd_T37 L' (i : Int)).f0
            · by_cases h1 : (rd_T37 L (i : Int)).f1 = (rd_T37 L' (i : Int)).f1
              · by_cases h2 : (rd_T37 L (i : Int)).f2 = (rd_T37 L' (i : Int)).f2
                · by_cases h3 : (rd_T37 L (i : Int)).f3 = (rd_T37 L' (i : Int)).f3
                  · exact absurd (S37_ext h0 h1 h2 h3) he
                  · simp [h3]
                · simp [h2]
              · simp [h1]
            · simp [h0]
      obtain ⟨r, hr, hx⟩ := key L.length 0 (by omega) (fun j hj => absurd hj (Nat.not_lt_zero _))
      refine ⟨r, ?_, by rw [hx]; exact ⟨fun h => ⟨hb, h⟩, fun h => h.2⟩⟩
      refine Ev.eq (G := fun k => (api_Line.f k L L').bind fun t => some t) (fun k => by rw [net_Equal.f, if_pos hb]) ?_
      refine Ev.bind (a := r) (Ev.eq (fun k => by rw [api_Line.f, if_pos (by omega)]; rfl) hr) (Ev.some_ _)
    · refine ⟨false, Ev.eq (G := fun k => (api_Line.f k L L').bind fun t => some t) (fun k => by rw [net_Equal.f, if_pos hb]) (Ev.bind (a := false) (Ev.eq (G := fun _ => some false) (fun k => by rw [api_Line.f, if_neg (by omega)]) (Ev.some_ _)) (Ev.some_ _)), by simp only [Bool.false_eq_true, false_iff]; exact fun e => hlen (by rw [e.2])⟩
  · exact ⟨false, Ev.eq (G := fun _ => some false) (fun k => by rw [net_Equal.f, if_neg hb]) (Ev.some_ _), by simp only [Bool.false_eq_true, false_iff]; exact fun e => hb e.1⟩
end Go.Proofs.Ytdpgdelimffjpaa.P
