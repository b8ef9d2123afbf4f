import Derived.Test.YtdpgdelimffjpaaF49
import Derived.Test.YtdpgdelimffjpaaF59
import Derived.Test.YtdpgdelimffjpaaFA
import Derived.Test.YtdpgdelimffjpaaHEv
namespace Go.Proofs.Ytdpgdelimffjpaa.P
open Go.RowKit Go.Proofs.YtdpgdelimffjpaaW.PrintWords Go.Proofs.YtdpgdelimffjpaaW.PrintLast Go.Proofs.YtdpgdelimffjpaaW.PrintMore
attribute [local go_sem] max2_int min2_int max_two min_two max_three min_three max_four min_four
set_option linter.unusedVariables false
set_option linter.unusedSimpArgs false
/-- Ints tells whether two lists are alike. -/
theorem ints_ev (a b : List Int) (ha : a.length ≤ 1000000) : Ev (fun k => pylonref14_Ints.f k a b) (decide (a = b)) := by
  by_cases hl : a.length = b.length
  · have key : ∀ m i, i + m = a.length → (∀ j, j < i → rd a (j : Int) = rd b (j : Int)) → Ev (fun k => pylonref14_Ints.l0 k a b (i : Int)) (decide (a = b)) := by
      intro m
      induction m with
      | zero =>
        intro i hi hh
        have e : a = b := by
          apply List.ext_getElem hl
          intro j h1 h2
          have := hh j (by omega)
          rwa [rd_nat _ j h1, rd_nat _ j h2] at this
        refine Ev.succ (G := fun _ => some (decide (a = b))) (fun k => ?_) (Ev.some_ _)
        rw [pylonref14_Ints.l0, if_neg (by omega), decide_eq_true e]
      | succ m ih =>
        intro i hi hh
        by_cases he : rd a (i : Int) = rd b (i : Int)
        · refine Ev.succ (G := fun k => pylonref14_Ints.l0 k a b ((i + 1 : Nat) : Int)) (fun k => ?_) (ih (i + 1) (by omega) (fun j hj => ?_))
          · rw [pylonref14_Ints.l0, if_pos (by omega), if_pos (by omega), if_pos (by omega), if_pos he, wrap_small (by omega) (by omega)]; rfl
          · by_cases h : j = i
            · subst h; exact he
            · exact hh j (by omega)
        · have hne : ¬ a = b := fun e => he (by rw [e])
          refine Ev.succ (G := fun _ => some (decide (a = b))) (fun k => ?_) (Ev.some_ _)
          rw [pylonref14_Ints.l0, if_pos (by omega), if_pos (by omega), if_pos (by omega), if_neg he, decide_eq_false hne]
    refine Ev.eq (fun k => ?_) (key a.length 0 (by omega) (fun j hj => absurd hj (Nat.not_lt_zero _)))
    rw [pylonref14_Ints.f, if_pos (by omega)]; rfl
  · have hne : ¬ a = b := fun e => hl (by rw [e])
    refine Ev.eq (G := fun _ => some (decide (a = b))) (fun k => ?_) (Ev.some_ _)
    rw [pylonref14_Ints.f, if_neg (by omega), decide_eq_false hne]
theorem union_ok {a b : List Int} (ha : risesFrom (-1) a = true) (hb : risesFrom (-1) b = true) (h1 : a.length ≤ 1000000) (h2 : b.length ≤ 1000000) : net_Union.f a b = some (uni a b, 0) := by
  rw [net_Union.f, if_pos ⟨h1, h2⟩, if_pos ha, if_pos hb]
theorem union_bad {a b : List Int} (h : ¬ (risesFrom (-1) a = true ∧ risesFrom (-1) b = true)) (h1 : a.length ≤ 1000000) (h2 : b.length ≤ 1000000) : net_Union.f a b = some ([], 1) := by
  rw [net_Union.f, if_pos ⟨h1, h2⟩]
  by_cases ha : risesFrom (-1) a = true
  · rw [if_pos ha, if_neg (fun hb => h ⟨ha, hb⟩)]
  · rw [if_neg ha]
/-- The lines in service, as numbers. -/
def inL (L : List S37) (out : List Int) : List Int := (inn L out).map (fun (k : Nat) => (k : Int))
theorem in_ok {b : Int} {L : List S37} {out : List Int} (h : outsV b L out = 0) : net_In.f b L out = some (inL L out, 0) := by
  rw [net_In.f, net_Strip.f, if_pos h]; rfl
theorem in_bad {b : Int} {L : List S37} {out : List Int} (h : outsV b L out ≠ 0) : net_In.f b L out = some ([], outsV b L out) := by
  rw [net_In.f, net_Strip.f, if_neg h]; rfl
theorem mem_inn {L : List S37} {out : List Int} {k : Nat} : k ∈ inn L out ↔ k < L.length ∧ (k : Int) ∉ out := by
  unfold inn; rw [List.mem_filter, List.mem_range]; simp
theorem inn_sorted (L : List S37) (out : List Int) : (inn L out).Pairwise (· < ·) := List.Pairwise.filter _ List.pairwise_lt_range
theorem cast_sorted {l : List Nat} (h : l.Pairwise (· < ·)) : (l.map (fun (k : Nat) => (k : Int))).Pairwise (· < ·) := by
  rw [List.pairwise_map]; exact h.imp (fun h => by omega)
theorem cast_rises {l : List Nat} (h : l.Pairwise (· < ·)) : risesFrom (-1) (l.map (fun (k : Nat) => (k : Int))) = true := by
  rw [rises_iff]
  refine ⟨fun x hx => ?_, cast_sorted h⟩
  obtain ⟨k, _, rfl⟩ := List.mem_map.1 hx
  omega
theorem inL_rises (L : List S37) (out : List Int) : risesFrom (-1) (inL L out) = true := cast_rises (inn_sorted L out)
theorem mem_inL {L : List S37} {out : List Int} {x : Int} : x ∈ inL L out ↔ 0 ≤ x ∧ x < (L.length : Int) ∧ x ∉ out := by
  unfold inL
  rw [List.mem_map]
  constructor
  · rintro ⟨k, hk, rfl⟩
    have := mem_inn.1 hk
    exact ⟨by omega, by omega, this.2⟩
  · rintro ⟨h1, h2, h3⟩
    refine ⟨x.toNat, mem_inn.2 ⟨by omega, ?_⟩, by omega⟩
    rwa [show ((x.toNat : Nat) : Int) = x by omega]
theorem inL_len (L : List S37) (out : List Int) : (inL L out).length = (inn L out).length := by simp [inL]
theorem inn_len (L : List S37) (out : List Int) : (inn L out).length ≤ L.length := by
  unfold inn
  have := List.length_filter_le (fun (k : Nat) => !out.contains (k : Int)) (List.range L.length)
  rwa [List.length_range] at this
/-- A rising list below m is the list of its members among 0 .. m-1. -/
theorem rises_filter {l : List Int} {m : Nat} (h : risesFrom (-1) l = true) (hm : ∀ x ∈ l, x < (m : Int)) : l = ((List.range m).filter (fun (k : Nat) => l.contains (k : Int))).map (fun (k : Nat) => (k : Int)) := by
  have h' := rises_iff.1 h
  refine inc_ext h'.2 (cast_sorted (List.Pairwise.filter _ List.pairwise_lt_range)) fun x => ?_
  rw [List.mem_map]
  constructor
  · intro hx
    have h1 := h'.1 x hx
    have h2 := hm x hx
    refine ⟨x.toNat, List.mem_filter.2 ⟨List.mem_range.2 (by omega), ?_⟩, by omega⟩
    rw [show ((x.toNat : Nat) : Int) = x by omega]; simpa using hx
  · rintro ⟨k, hk, rfl⟩
    simpa using (List.mem_filter.1 hk).2
theorem part_len {b : Int} {L : List S37} {out : List Int} (h : outsV b L out = 0) : (inn L out).length + out.length = L.length := by
  obtain ⟨_, h1, h2⟩ := outsV_ok h
  have e := rises_filter h1 h2
  have e2 : out.length = ((List.range L.length).filter (fun (k : Nat) => out.contains (k : Int))).length := by
    conv => lhs; rw [e]
    rw [List.length_map]
  have e3 := List.length_eq_countP_add_countP (fun (k : Nat) => out.contains (k : Int)) (l := List.range L.length)
  rw [List.length_range, List.countP_eq_length_filter, List.countP_eq_length_filter] at e3
  rw [e2]
  unfold inn
  have e4 : (fun (k : Nat) => !out.contains (k : Int)) = (fun (a : Nat) => decide ¬(out.contains (a : Int) = true)) := by
    funext k; by_cases h : (out.contains (k : Int)) = true <;> simp [h]
  rw [e4]; omega
theorem part_uni {b : Int} {L : List S37} {out : List Int} (h : outsV b L out = 0) : uni (inL L out) out = (List.range L.length).map (fun (k : Nat) => (k : Int)) := by
  obtain ⟨_, h1, h2⟩ := outsV_ok h
  have h1' := rises_iff.1 h1
  refine inc_ext (uni_inc _ _) (cast_sorted List.pairwise_lt_range) fun x => ?_
  rw [mem_uni, mem_inL, List.mem_map]
  constructor
  · rintro (⟨h3, h4, _⟩ | h3)
    · exact ⟨x.toNat, List.mem_range.2 (by omega), by omega⟩
    · have := h1'.1 x h3; have := h2 x h3
      exact ⟨x.toNat, List.mem_range.2 (by omega), by omega⟩
  · rintro ⟨k, hk, rfl⟩
    have hk' := List.mem_range.1 hk
    by_cases hx : (k : Int) ∈ out
    · exact Or.inr hx
    · exact Or.inl ⟨by omega, by omega, hx⟩
theorem outs_ev' (b : Int) (L : List S37) (out : List Int) (h : out.length ≤ 1000000) : Ev (fun k => net_Outs.f k b L out) (outsV b L out) := ⟨out.length + 1, fun k hk => outs_f b L out (by omega) k (by omega)⟩
end Go.Proofs.Ytdpgdelimffjpaa.P
