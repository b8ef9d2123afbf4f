import Derived.Test.YtdpgdelimffjpaaFBase
import Derived.Test.YtdpgdelimffjpaaF31
import Derived.Test.YtdpgdelimffjpaaFA
import Derived.Test.YtdpgdelimffjpaaHTr
namespace Go.Proofs.Ytdpgdelimffjpaa.P
open Go.RowKit Go.Proofs.YtdpgdelimffjpaaW.PrintWords Go.Proofs.YtdpgdelimffjpaaW.PrintLast Go.Proofs.YtdpgdelimffjpaaW.PrintMore
attribute [local go_sem] max2_int min2_int max_two min_two max_three min_three max_four min_four
set_option linter.unusedVariables false
set_option linter.unusedSimpArgs false
section
def risesFrom (last : Int) : List Int → Bool
  | [] => true
  | x :: xs => decide (last < x) && risesFrom x xs
theorem rd_nat (l : List Int) (i : Nat) (h : i < l.length) : rd l (i : Int) = l[i] := by simp [rd, h]
theorem wrap_small {x : Int} (h0 : -9223372036854775808 ≤ x) (h1 : x ≤ 9223372036854775807) : wrap64 x = x := by unfold wrap64; omega
theorem rises_l0 (l : List Int) (hb : l.length ≤ 9223372036854775807) : ∀ (d k : Nat) (last : Int) (i : Nat), i + d = l.length → d < k → net_rises.l0 k last l (l.length : Int) (i : Int) = some (risesFrom last (l.drop i)) := by
  intro d
  induction d with
  | zero =>
    intro k last i hi hk
    obtain ⟨k, rfl⟩ : ∃ m, k = m + 1 := ⟨k - 1, by omega⟩
    simp only [net_rises.l0]
    rw [if_neg (by omega), List.drop_eq_nil_of_le (by omega)]
    rfl
  | succ d ih =>
    intro k last i hi hk
    obtain ⟨k, rfl⟩ : ∃ m, k = m + 1 := ⟨k - 1, by omega⟩
    have hlt : i < l.length := by omega
    simp only [net_rises.l0]
    rw [if_pos (by omega), if_pos (by omega), if_pos (by omega), List.drop_eq_getElem_cons hlt, rd_nat l i hlt, wrap_small (by omega) (by omega)]
    by_cases hc : l[i] ≤ last
    · rw [if_pos hc]; simp [risesFrom, Int.not_lt.2 hc]
    · rw [if_neg hc]
      have := ih k l[i] (i + 1) (by omega) (by omega)
      rw [show ((i : Int) + 1) = ((i + 1 : Nat) : Int) by omega, this]
      simp [risesFrom, Int.not_le.1 hc]
theorem rises_f (l : List Int) (hb : l.length ≤ 9223372036854775807) (k : Nat) (hk : l.length < k) : net_rises.f k l = some (risesFrom (-1) l) := by
  have := rises_l0 l hb l.length k (-1) 0 (by omega) hk
  simpa [net_rises.f] using this
/-- What is invalid about a network and a list of lines out of service. -/
def outsV (b : Int) (L : List S37) (out : List Int) : Int := if chk b L = 0 then (if risesFrom (-1) out && decide (∀ x ∈ out, x < (L.length : Int)) then 0 else 1) else chk b L
theorem risesFrom_last {last : Int} : ∀ {l : List Int}, risesFrom last l = true → (∀ x ∈ l, last < x)
  | [], _ => by simp
  | y :: ys, h => by
    simp only [risesFrom, Bool.and_eq_true, decide_eq_true_eq] at h
    intro x hx
    rcases List.mem_cons.1 hx with rfl | hx
    · exact h.1
    · have := risesFrom_last h.2 x hx; omega
theorem risesFrom_max {last : Int} : ∀ {l : List Int} (h : l ≠ []), risesFrom last l = true → ∀ x ∈ l, x ≤ l.getLast h
  | [y], _, _ => by simp
  | y :: z :: ys, _, h => by
    simp only [risesFrom, Bool.and_eq_true, decide_eq_true_eq] at h
    intro x hx
    have h2 : risesFrom y (z :: ys) = true := by simp [risesFrom, h.2.1, h.2.2]
    rw [List.getLast_cons (by simp)]
    rcases List.mem_cons.1 hx with rfl | hx
    · have := risesFrom_last h2 _ (List.getLast_mem (by simp : (z :: ys) ≠ [])); omega
    · exact risesFrom_max (by simp) h2 x hx
theorem outs_f (b : Int) (L : List S37) (out : List Int) (hb : out.length ≤ 9223372036854775807) (k : Nat) (hk : out.length < k) : net_Outs.f k b L out = some (outsV b L out) := by
  unfold net_Outs.f outsV net_Check.f
  simp only [Option.bind_some]
  by_cases hc : chk b L = 0
  · rw [if_pos hc, if_pos hc, rises_f out hb k hk]
    simp only [Option.bind_some]
    by_cases hr : risesFrom (-1) out = true
    · rw [if_pos hr]
      by_cases hl : out = []
      · subst hl; simp [risesFrom]
      · have hpos : 0 < out.length := List.length_pos_iff.2 hl
        rw [if_pos (by omega), wrap_small (by omega) (by omega), if_pos (by omega), if_pos (by omega)]
        have e : rd out ((out.length : Int) - 1) = out.getLast hl := by
          rw [show ((out.length : Int) - 1) = ((out.length - 1 : Nat) : Int) by omega, rd_nat out _ (by omega), List.getLast_eq_getElem]
        rw [e]
        by_cases hg : out.getLast hl ≥ (L.length : Int)
        · rw [if_pos hg, if_neg]
          simp only [hr, Bool.true_and, decide_eq_true_eq]
          intro h; have := h _ (List.getLast_mem hl); omega
        · rw [if_neg hg, if_pos]
          simp only [hr, Bool.true_and, decide_eq_true_eq]
          intro x hx; have := risesFrom_max hl hr x hx; omega
    · rw [if_neg hr, if_neg]; simp [hr]
  · rw [if_neg hc, if_neg hc]
theorem wrapu_small {x : Int} (h0 : 0 ≤ x) (h1 : x ≤ 9223372036854775807) : IntKind.u64.wrap x = x := by rw [IntKind.wrap_u64]; omega
theorem risesFrom_get {last : Int} : ∀ {l : List Int}, risesFrom last l = true → ∀ i j (hi : i < j) (hj : j < l.length), l[i] < l[j]
  | [], _, i, j, hi, hj => by simp at hj
  | y :: ys, h, i, j, hi, hj => by
    simp only [risesFrom, Bool.and_eq_true, decide_eq_true_eq] at h
    cases j with
    | zero => omega
    | succ j =>
      cases i with
      | zero => simp; exact risesFrom_last h.2 _ (List.getElem_mem _)
      | succ i => simp; exact risesFrom_get h.2 i j (by omega) (by simpa using hj)
theorem cmp_f (a b : Int) : cmp_Less_int.f a b = some (decide (a < b)) := by
  unfold cmp_Less_int.f cmp_isNaN_int.f
  simp
theorem bs_l0 (l : List Int) (t : Int) (hb : l.length ≤ 1000000) (hs : ∀ i j (hi : i < j) (hj : j < l.length), l[i] < l[j]) : ∀ (d k i j : Nat), j - i ≤ d → d < k → i ≤ j → j ≤ l.length →
    (∀ a (h : a < l.length), a < i → l[a] < t) → (∀ a (h : a < l.length), j ≤ a → t ≤ l[a]) → ∃ r, slices_BinarySearch_int_int.l0 k l t (l.length : Int) (i : Int) (j : Int) = some (r, l.contains t) := by
  intro d
  induction d with
  | zero =>
    intro k i j hd hk hij hj h1 h2
    obtain ⟨k, rfl⟩ : ∃ m, k = m + 1 := ⟨k - 1, by omega⟩
    obtain rfl : i = j := by omega
    simp only [slices_BinarySearch_int_int.l0]
    rw [if_neg (by omega)]
    by_cases hlt : i < l.length
    · rw [if_pos (by omega), if_pos (by omega), if_pos (by omega), rd_nat l i hlt]
      by_cases he : l[i] = t
      · rw [if_pos he]
        have : l.contains t = true := by rw [List.contains_iff_mem, ← he]; exact List.getElem_mem hlt
        exact ⟨_, by rw [this]⟩
      · rw [if_neg he]
        unfold slices_isNaN_int.f
        have hn : l.contains t = false := by
          rw [Bool.eq_false_iff]; intro hc
          rw [List.contains_iff_mem] at hc
          obtain ⟨a, ha, e⟩ := List.getElem_of_mem hc
          rcases Nat.lt_trichotomy a i with h | h | h
          · have := h1 a ha h; omega
          · subst h; exact he e
          · have := hs i a h ha; have := h2 i hlt (Nat.le_refl _); omega
        exact ⟨(i : Int), by simp only [bne_self_eq_false, Option.bind_some]; rw [if_neg (by simp), hn]⟩
    · rw [if_neg (by omega)]
      have hn : l.contains t = false := by
        rw [Bool.eq_false_iff]; intro hc
        rw [List.contains_iff_mem] at hc
        obtain ⟨a, ha, e⟩ := List.getElem_of_mem hc
        have := h1 a ha (by omega); omega
      exact ⟨i, by rw [hn]⟩
  | succ d ih =>
    intro k i j hd hk hij hj h1 h2
    by_cases hlt : i < j
    · obtain ⟨k, rfl⟩ : ∃ m, k = m + 1 := ⟨k - 1, by omega⟩
      simp only [slices_BinarySearch_int_int.l0]
      obtain ⟨h, hh⟩ : ∃ h : Nat, h = (i + j) / 2 := ⟨_, rfl⟩
      have hm : wrap64 ((IntKind.u64.wrap (wrap64 ((i : Int) + (j : Int)))) / 2) = ((h : Nat) : Int) := by
        have w1 : wrap64 ((i : Int) + (j : Int)) = ((i + j : Nat) : Int) := by rw [wrap_small (by omega) (by omega)]; omega
        have w2 : IntKind.u64.wrap ((i + j : Nat) : Int) = ((i + j : Nat) : Int) := wrapu_small (by omega) (by omega)
        rw [w1, w2, wrap_small (by omega) (by omega)]; omega
      have hhl : h < l.length := by omega
      rw [if_pos (by omega), hm, if_pos (by omega), if_pos (by omega), rd_nat l h hhl, cmp_f]
      simp only [Option.bind_some]
      by_cases hc : l[h] < t
      · rw [if_pos (by simp [hc]), wrap_small (by omega) (by omega), show ((h : Int) + 1) = ((h + 1 : Nat) : Int) by omega]
        refine ih k (h + 1) j (by omega) (by omega) (by omega) hj ?_ h2
        intro a ha hah
        rcases Nat.lt_or_ge a h with h' | h'
        · have := hs a h h' hhl; omega
        · obtain rfl : a = h := by omega
          exact hc
      · rw [if_neg (by simp; omega)]
        refine ih k i h (by omega) (by omega) (by omega) (by omega) h1 ?_
        intro a ha hah
        rcases Nat.lt_or_ge h a with h' | h'
        · have := hs h a h' ha; omega
        · obtain rfl : a = h := by omega
          omega
    · obtain rfl : i = j := by omega
      exact ih k i i (by omega) (by omega) (Nat.le_refl _) hj h1 h2
theorem bs_f (l : List Int) (t : Int) (hb : l.length ≤ 1000000) (hs : risesFrom (-1) l = true) : ∃ kk r, slices_BinarySearch_int_int.f kk l t = some (r, l.contains t) := by
  obtain ⟨r, h⟩ := bs_l0 l t hb (risesFrom_get hs) l.length (l.length + 1) 0 l.length (by omega) (by omega) (by omega) (Nat.le_refl _) (fun a h ha => by omega) (fun a h ha => by omega)
  exact ⟨_, r, h⟩
/-- The lines in service. -/
def inn (L : List S37) (out : List Int) : List Nat := (List.range L.length).filter (fun k => !out.contains (k : Int))
theorem outsV_ok {b : Int} {L : List S37} {out : List Int} (h : outsV b L out = 0) : chk b L = 0 ∧ risesFrom (-1) out = true ∧ ∀ x ∈ out, x < (L.length : Int) := by
  unfold outsV at h
  by_cases hc : chk b L = 0
  · rw [if_pos hc] at h
    by_cases h2 : (risesFrom (-1) out && decide (∀ x ∈ out, x < (L.length : Int))) = true
    · simp only [Bool.and_eq_true, decide_eq_true_eq] at h2; exact ⟨hc, h2.1, h2.2⟩
    · rw [if_neg h2] at h; omega
  · rw [if_neg hc] at h; exact absurd h hc
theorem chk_ok {b : Int} {L : List S37} (h : chk b L = 0) : 1 ≤ b ∧ b ≤ 6 ∧ L.length ≤ 10 ∧ ∀ l ∈ L, okLine b l = true := by
  unfold chk at h
  by_cases h1 : b < 1 ∨ 6 < b
  · rw [if_pos h1] at h; omega
  · rw [if_neg h1] at h
    by_cases h2 : 10 < L.length
    · rw [if_pos h2] at h; omega
    · rw [if_neg h2] at h
      by_cases h3 : L.all (okLine b) = true
      · exact ⟨by omega, by omega, by omega, List.all_eq_true.1 h3⟩
      · rw [if_neg h3] at h; omega
theorem rises_len {l : List Int} {m : Int} : ∀ {last : Int}, risesFrom last l = true → (∀ x ∈ l, x < m) → last < m → (l.length : Int) ≤ m - 1 - last := by
  induction l with
  | nil => intro last _ _ h; simp; omega
  | cons x xs ih =>
    intro last h hm hl
    simp only [risesFrom, Bool.and_eq_true, decide_eq_true_eq] at h
    have := ih h.2 (fun y hy => hm y (List.mem_cons_of_mem _ hy)) (hm x (by simp))
    simp; omega
theorem outsV_len {b : Int} {L : List S37} {out : List Int} (h : outsV b L out = 0) : out.length ≤ L.length := by
  obtain ⟨_, h1, h2⟩ := outsV_ok h
  have := rises_len h1 h2 (by omega)
  omega
end
section
theorem insF_inn (L : List S37) (out : List Int) : insF (fun k => out.contains (k : Int)) L L.length = (inn L out).map (fun (k : Nat) => (k, rd_T37 L (k : Int))) := rfl
theorem boxes3 {w w4 : World} {c0 c1 c2 : Array Value} {t0 t1 t2 : TypeId} (h : Below (((w.alloc (.cells c0 t0)).alloc (.cells c1 t1)).alloc (.cells c2 t2)).heap.size (((w.alloc (.cells c0 t0)).alloc (.cells c1 t1)).alloc (.cells c2 t2)) w4) :
    w4.heap[w.heap.size]? = some (.cells c0 t0 (0, 0)) ∧ w4.heap[w.heap.size + 1]? = some (.cells c1 t1 (0, 0)) ∧ w4.heap[w.heap.size + 1 + 1]? = some (.cells c2 t2 (0, 0)) ∧ w.heap.size + 3 ≤ w4.heap.size ∧ Below w.heap.size w w4 := by
  have b0 := heap_alloc_new w (.cells c0 t0)
  have z0 : (w.alloc (.cells c0 t0)).heap.size = w.heap.size + 1 := by simp
  generalize hA : w.alloc (.cells c0 t0) = wA at *
  have hbA : Below w.heap.size w wA := by rw [← hA]; exact (Below.refl _ _).alloc (Nat.le_refl _) _
  have b1 := heap_alloc_new wA (.cells c1 t1)
  have b01 := blk_alloc b0 (.cells c1 t1)
  have hbB : Below w.heap.size w (wA.alloc (.cells c1 t1)) := hbA.alloc (by omega) _
  have z1 : (wA.alloc (.cells c1 t1)).heap.size = w.heap.size + 1 + 1 := by simp [z0]
  rw [z0] at b1
  generalize hB : wA.alloc (.cells c1 t1) = wB at *
  have b2 := heap_alloc_new wB (.cells c2 t2)
  have b02 := blk_alloc b01 (.cells c2 t2)
  have b12 := blk_alloc b1 (.cells c2 t2)
  have z2 : (wB.alloc (.cells c2 t2)).heap.size = w.heap.size + 1 + 1 + 1 := by simp [z1]
  have hbC : Below w.heap.size w (wB.alloc (.cells c2 t2)) := hbB.alloc (by omega) _
  rw [z1] at b2
  generalize wB.alloc (.cells c2 t2) = wC at *
  exact ⟨(h.block _ (by omega)).trans b02, (h.block _ (by omega)).trans b12, (h.block _ (by omega)).trans b2, by have := h.size; omega, hbC.trans (h.mono (by omega))⟩
end
end Go.Proofs.Ytdpgdelimffjpaa.P
