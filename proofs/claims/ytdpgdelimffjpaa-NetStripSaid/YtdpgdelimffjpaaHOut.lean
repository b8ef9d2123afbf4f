import Derived.Test.YtdpgdelimffjpaaHNetP
import Derived.Test.YtdpgdelimffjpaaHTree
namespace Go.Proofs.Ytdpgdelimffjpaa.P
open Go.RowKit Go.Proofs.YtdpgdelimffjpaaW.PrintWords Go.Proofs.YtdpgdelimffjpaaW.PrintLast Go.Proofs.YtdpgdelimffjpaaW.PrintMore
attribute [local go_sem] max2_int min2_int max_two min_two max_three min_three max_four min_four
set_option linter.unusedVariables false
set_option linter.unusedSimpArgs false
theorem line_ok {b : Int} {L : List S37} (h : chk b L = 0) {k : Nat} (hk : k < L.length) : ∃ u v : Nat, (rd_T37 L (k : Int)).f0 = (u : Int) ∧ (rd_T37 L (k : Int)).f1 = (v : Int) ∧ (u : Int) < b ∧ (v : Int) < b ∧ u ≠ v ∧ enL L k = (u, v) := by
  have hl := (chk_ok h).2.2.2 L[k] (List.getElem_mem hk)
  have hr : rd_T37 L (k : Int) = L[k] := by simp [rd_T37, List.getD_eq_getElem?_getD, hk]
  unfold okLine at hl
  simp only [Bool.and_eq_true, decide_eq_true_eq, bne_iff_ne] at hl
  refine ⟨L[k].f0.toNat, L[k].f1.toNat, ?_, ?_, ?_, ?_, ?_, ?_⟩
  · rw [hr]; omega
  · rw [hr]; omega
  · omega
  · omega
  · omega
  · unfold enL; rw [hr]
theorem edges_en (L : List S37) (out : List Int) : edges L out = (inn L out).map (enL L) := rfl
theorem refs_cnt (f : Nat → Nat) (N : Nat) : (refsOf f N).length = cnt f N := by simp [refsOf, cnt]
theorem mem_range_of {x : Int} {m : Nat} (h0 : 0 ≤ x) (h1 : x < (m : Int)) : ∃ k : Nat, k < m ∧ x = (k : Int) := ⟨x.toNat, by omega, by omega⟩
/-- One more line out: the list is right, its lines in service are the others. -/
theorem more_ok {b : Int} {L : List S37} {out : List Int} (h : outsV b L out = 0) {k : Nat} (hk : k < L.length) : outsV b L (uni out [(k : Int)]) = 0 ∧ net_Union.f out [(k : Int)] = some (uni out [(k : Int)], 0) ∧ ∀ j, j ∈ inn L (uni out [(k : Int)]) ↔ j ∈ inn L out ∧ j ≠ k := by
  obtain ⟨h0, h1, h2⟩ := outsV_ok h
  have hr : risesFrom (-1) [(k : Int)] = true := by simp [risesFrom]; omega
  have hlen := outsV_len h
  have hb := outs_bus h
  refine ⟨?_, union_ok h1 hr (by omega) (by simp), fun j => ?_⟩
  · rw [outsV, if_pos h0, if_pos]
    rw [Bool.and_eq_true, decide_eq_true_eq]
    refine ⟨uni_rises h1 hr, fun x hx => ?_⟩
    rcases mem_uni.1 hx with hx | hx
    · exact h2 x hx
    · have : x = (k : Int) := by simpa using hx
      omega
  · rw [mem_inn, mem_inn, mem_uni]
    simp only [List.mem_singleton]
    constructor
    · rintro ⟨h3, h4⟩
      exact ⟨⟨h3, fun h5 => h4 (Or.inl h5)⟩, fun h5 => h4 (Or.inr (by omega))⟩
    · rintro ⟨⟨h3, h4⟩, h5⟩
      exact ⟨h3, fun h6 => h6.elim h4 (fun h7 => h5 (by omega))⟩
/-- How many islands one more line out gives. -/
theorem more_cnt {b : Int} {L : List S37} {out : List Int} (h : outsV b L out = 0) {k : Nat} (hk : k ∈ inn L out) (N : Nat) (hN : b = (N : Int)) : cnt (lab (edges L out)) N + (if conn (edges L (uni out [(k : Int)])) (enL L k).1 (enL L k).2 then 0 else 1) = cnt (lab (edges L (uni out [(k : Int)]))) N := by
  have hkl := (mem_inn.1 hk).1
  obtain ⟨u, v, _, _, hu, hv, _, he⟩ := line_ok (outsV_ok h).1 hkl
  have hm := (more_ok h hkl).2.2
  have e : lab (edges L out) = lab (edges L (uni out [(k : Int)]) ++ [enL L k]) := by
    refine lab_ext fun x y => ?_
    have h2 : (inn L (uni out [(k : Int)]) ++ [k]).map (enL L) = edges L (uni out [(k : Int)]) ++ [enL L k] := by rw [List.map_append]; rfl
    rw [← h2]
    refine cn_congr (en := enL L) (T := inn L out) fun d => ?_
    rw [List.mem_append, List.mem_singleton, hm]
    constructor
    · intro hd
      by_cases hdk : d = k
      · exact Or.inr hdk
      · exact Or.inl ⟨hd, hdk⟩
    · rintro (h3 | h3)
      · exact h3.1
      · rw [h3]; exact hk
  have := cnt_snoc (edges L (uni out [(k : Int)])) (enL L k) N (by rw [he]; show u < N; omega) (by rw [he]; show v < N; omega)
  rw [e]; exact this
end Go.Proofs.Ytdpgdelimffjpaa.P
