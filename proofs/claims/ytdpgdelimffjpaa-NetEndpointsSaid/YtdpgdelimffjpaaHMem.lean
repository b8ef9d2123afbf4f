import Derived.Test.YtdpgdelimffjpaaHEv
import Derived.Test.YtdpgdelimffjpaaF42
import Derived.Test.YtdpgdelimffjpaaFC
namespace Go.Proofs.Ytdpgdelimffjpaa.P
open Go.RowKit Go.Proofs.YtdpgdelimffjpaaW.PrintWords Go.Proofs.YtdpgdelimffjpaaW.PrintLast Go.Proofs.YtdpgdelimffjpaaW.PrintMore
attribute [local go_sem] max2_int min2_int max_two min_two max_three min_three max_four min_four
set_option linter.unusedVariables false
set_option linter.unusedSimpArgs false
section
/-- The number of a bus' island. -/
def isN (f : Nat → Nat) (N : Nat) (b : Nat) : Nat := (refsOf f N).idxOf ((f b : Nat) : Int)
/-- The buses of island i. -/
def rowN (f : Nat → Nat) (N n i : Nat) : List Nat := (List.range n).filter (fun b => isN f N b == i)
def rowOf (f : Nat → Nat) (N n i : Nat) : List Int := (rowN f N n i).map (fun (b : Nat) => (b : Int))
section
variable {f : Nat → Nat} {N : Nat}
theorem mem_refs {x : Int} : x ∈ refsOf f N ↔ ∃ r : Nat, r < N ∧ f r = r ∧ x = (r : Int) := by
  unfold refsOf
  rw [List.mem_map]
  constructor
  · rintro ⟨r, hr, rfl⟩
    obtain ⟨h1, h2⟩ := List.mem_filter.1 hr
    exact ⟨r, List.mem_range.1 h1, by simpa using h2, rfl⟩
  · rintro ⟨r, h1, h2, rfl⟩
    exact ⟨r, List.mem_filter.2 ⟨List.mem_range.2 h1, by simpa using h2⟩, rfl⟩
theorem lab_mem_refs (hf : Lb f) {b : Nat} (hb : b < N) : ((f b : Nat) : Int) ∈ refsOf f N := mem_refs.2 ⟨f b, by have := (hf b).1; omega, (hf b).2, rfl⟩
theorem isl_isN (hf : Lb f) {b : Nat} (hb : b < N) : isl f N b = ((isN f N b : Nat) : Int) := by
  unfold isl idx isN
  rw [if_pos (lab_mem_refs hf hb)]
theorem isN_lt (hf : Lb f) {b : Nat} (hb : b < N) : isN f N b < (refsOf f N).length := List.idxOf_lt_length_iff.2 (lab_mem_refs hf hb)
theorem refs_sorted (f : Nat → Nat) (N : Nat) : (refsOf f N).Pairwise (· < ·) := by
  unfold refsOf
  rw [List.pairwise_map]
  refine (List.Pairwise.filter _ List.pairwise_lt_range).imp ?_
  intro a b h; omega
theorem isN_iff (hf : Lb f) {b i : Nat} (hb : b < N) (hi : i < (refsOf f N).length) : isN f N b = i ↔ (refsOf f N)[i] = ((f b : Nat) : Int) := by
  constructor
  · intro h; subst h; exact List.getElem_idxOf _
  · intro h
    have h1 := List.getElem_idxOf (isN_lt hf hb)
    have h2 : (refsOf f N)[(refsOf f N).idxOf ((f b : Nat) : Int)]'(isN_lt hf hb) = (refsOf f N)[i] := by rw [h1, h]
    rcases Nat.lt_trichotomy (isN f N b) i with hlt | he | hgt
    · have := List.pairwise_iff_getElem.1 (refs_sorted f N) _ _ (isN_lt hf hb) hi hlt
      unfold isN at this; omega
    · exact he
    · have := List.pairwise_iff_getElem.1 (refs_sorted f N) _ _ hi (isN_lt hf hb) hgt
      unfold isN at this; omega
theorem mem_rowN {n i b : Nat} : b ∈ rowN f N n i ↔ b < n ∧ isN f N b = i := by
  unfold rowN; rw [List.mem_filter, List.mem_range]; simp
theorem rowN_sorted (n i : Nat) : (rowN f N n i).Pairwise (· < ·) := List.Pairwise.filter _ List.pairwise_lt_range
/-- The first bus of a row is the island's reference bus. -/
theorem row_head (hf : Lb f) {i : Nat} (hi : i < (refsOf f N).length) : ∃ r rest, rowN f N N i = r :: rest ∧ (refsOf f N)[i] = (r : Int) := by
  obtain ⟨r, hr, hfr, he⟩ := mem_refs.1 (List.getElem_mem hi)
  have hrow : r ∈ rowN f N N i := mem_rowN.2 ⟨hr, (isN_iff hf hr hi).2 (by rw [he, hfr])⟩
  cases hrw : rowN f N N i with
  | nil => rw [hrw] at hrow; cases hrow
  | cons s rest =>
    refine ⟨s, rest, rfl, ?_⟩
    have hs : s ∈ rowN f N N i := by rw [hrw]; exact List.mem_cons_self ..
    obtain ⟨hsN, hsi⟩ := mem_rowN.1 hs
    have h1 := (isN_iff hf hsN hi).1 hsi
    have h2 := (hf s).1
    have h3 : s ≤ r := by
      rw [hrw] at hrow
      rcases List.mem_cons.1 hrow with e | hm
      · omega
      · have hp := rowN_sorted (f := f) (N := N) N i
        rw [hrw] at hp
        exact Nat.le_of_lt ((List.pairwise_cons.1 hp).1 r hm)
    omega
def sumN (F : Nat → Nat) : Nat → Nat
  | 0 => 0
  | n + 1 => sumN F n + F n
theorem sumN_one {F G : Nat → Nat} {k : Nat} : ∀ n, (∀ t, t < n → t ≠ k → F t = G t) → k < n → F k = G k + 1 → sumN F n = sumN G n + 1
  | 0, _, h, _ => by omega
  | n + 1, h, hk, hF => by
    rw [sumN, sumN]
    by_cases e : k = n
    · subst e
      have : ∀ m, m ≤ k → sumN F m = sumN G m := by
        intro m
        induction m with
        | zero => intro _; rfl
        | succ m ih => intro hm; rw [sumN, sumN, ih (by omega), h m (by omega) (by omega)]
      rw [this k (Nat.le_refl _), hF]; omega
    · rw [sumN_one n (fun t ht => h t (by omega)) (by omega) hF, h n (by omega) (fun e' => e e'.symm)]; omega
theorem sumN_zero (n : Nat) : sumN (fun _ => 0) n = 0 := by
  induction n with
  | zero => rfl
  | succ n ih => rw [sumN, ih]
/-- Each bus lies in one row. -/
theorem sum_rows (hf : Lb f) : ∀ n, n ≤ N → sumN (fun i => (rowN f N n i).length) (refsOf f N).length = n := by
  intro n
  induction n with
  | zero => intro _; exact sumN_zero _
  | succ n ih =>
    intro hn
    have h1 : ∀ i, rowN f N (n + 1) i = rowN f N n i ++ (if isN f N n = i then [n] else []) := by
      intro i; unfold rowN; rw [List.range_succ, List.filter_append]
      by_cases h : isN f N n = i <;> simp [h]
    have := sumN_one (F := fun i => (rowN f N (n + 1) i).length) (G := fun i => (rowN f N n i).length) (k := isN f N n) (refsOf f N).length (fun t _ ht => by simp only [h1]; rw [if_neg (fun e => ht e.symm), List.append_nil]) (isN_lt hf (by omega)) (by simp only [h1]; simp)
    rw [this, ih (by omega)]
end
end
section
/-- The rows of buses, island by island. -/
def rowsOf (f : Nat → Nat) (N n : Nat) : List (List Int) := (List.range (refsOf f N).length).map (rowOf f N n)
theorem rowsOf_len (f : Nat → Nat) (N n : Nat) : (rowsOf f N n).length = (refsOf f N).length := by simp [rowsOf]
theorem rd_rowsOf {f : Nat → Nat} {N n i : Nat} (hi : i < (refsOf f N).length) : rd_L1 (rowsOf f N n) (i : Int) = rowOf f N n i := by
  simp [rd_L1, rowsOf, List.getD_eq_getElem?_getD, hi]
theorem rowOf_succ (f : Nat → Nat) (N n i : Nat) : rowOf f N (n + 1) i = rowOf f N n i ++ (if isN f N n = i then [(n : Int)] else []) := by
  unfold rowOf rowN
  rw [List.range_succ, List.filter_append, List.map_append]
  by_cases h : isN f N n = i <;> simp [h]
theorem rowOf_len_le (f : Nat → Nat) (N n i : Nat) : (rowOf f N n i).length ≤ n := by
  unfold rowOf rowN
  rw [List.length_map]
  have := List.length_filter_le (fun b => isN f N b == i) (List.range n)
  rwa [List.length_range] at this
theorem rowsOf_set {f : Nat → Nat} {N n : Nat} : (rowsOf f N n).set (isN f N n) (rowOf f N n (isN f N n) ++ [(n : Int)]) = rowsOf f N (n + 1) := by
  unfold rowsOf
  apply List.ext_getElem
  · simp
  · intro i h1 h2
    rw [List.getElem_set, List.getElem_map, List.getElem_map, List.getElem_range, rowOf_succ]
    by_cases h : isN f N n = i
    · rw [if_pos h, if_pos h, h]
    · rw [if_neg h, if_neg h, List.append_nil]
theorem foldl_max (l : List Int) : ∀ (z m : Int), z ≤ m → (∀ x ∈ l, x ≤ m) → (m = z ∨ m ∈ l) → l.foldl max z = m := by
  induction l with
  | nil => intro z m _ _ h; rcases h with h | h
           · exact h.symm
           · cases h
  | cons x l ih =>
    intro z m hz hl hm
    have hx := hl x (List.mem_cons_self ..)
    refine ih (max z x) m (by omega) (fun y hy => hl y (List.mem_cons_of_mem _ hy)) ?_
    rcases hm with h | h
    · exact Or.inl (by omega)
    · rcases List.mem_cons.1 h with h | h
      · exact Or.inl (by omega)
      · exact Or.inr h
theorem max_isl {f : Nat → Nat} (hf : Lb f) {N : Nat} (hN : 0 < N) : slices_Max_int_int.f (islOf f N N) = some ((((refsOf f N).length - 1 : Nat)) : Int) ∧ 0 < (refsOf f N).length := by
  have hl : (islOf f N N).length = N := by simp [islOf]
  have hr : ∀ b, b < N → rd (islOf f N N) (b : Int) = ((isN f N b : Nat) : Int) := by
    intro b hb; rw [rd_nat _ b (by rw [hl]; exact hb)]; simp [islOf, isl_isN hf hb]
  have h0 : 0 < (refsOf f N).length := Nat.lt_of_le_of_lt (Nat.zero_le _) (isN_lt hf hN)
  refine ⟨?_, h0⟩
  rw [slices_Max_int_int.f, if_neg (by omega)]
  congr 1
  have hmem : ∀ x ∈ islOf f N N, x ≤ (((refsOf f N).length - 1 : Nat) : Int) := by
    intro x hx
    unfold islOf at hx
    obtain ⟨b, hb, rfl⟩ := List.mem_map.1 hx
    have hb' := List.mem_range.1 hb
    have := isN_lt hf hb'
    rw [isl_isN hf hb']; omega
  refine foldl_max _ _ _ ?_ hmem ?_
  · have := isN_lt hf hN
    have h1 := hr 0 hN
    rw [show ((0 : Nat) : Int) = 0 from rfl] at h1
    rw [h1]; omega
  · right
    obtain ⟨r, rest, hrow, _⟩ := row_head (N := N) hf (i := (refsOf f N).length - 1) (by omega)
    obtain ⟨hrN, hri⟩ := mem_rowN.1 (show r ∈ rowN f N N ((refsOf f N).length - 1) by rw [hrow]; exact List.mem_cons_self ..)
    unfold islOf
    refine List.mem_map.2 ⟨r, List.mem_range.2 hrN, ?_⟩
    rw [isl_isN hf hrN, hri]
theorem members_ok {b : Int} {L : List S37} {out : List Int} (h : outsV b L out = 0) : Ev (fun k => island_Members.f k b L out) (rowsOf (lab (edges L out)) b.toNat b.toNat, 0) := by
  have hb := outs_bus h
  obtain ⟨N, rfl⟩ := Int.eq_ofNat_of_zero_le (show 0 ≤ b by omega)
  rw [Int.toNat_natCast]
  have hof := of_ok h
  rw [Int.toNat_natCast] at hof
  have hf := lab_lb (edges L out)
  generalize lab (edges L out) = f at hof hf ⊢
  have hl : (islOf f N N).length = N := by simp [islOf]
  have hr : ∀ i, i < N → rd (islOf f N N) (i : Int) = ((isN f N i : Nat) : Int) := by
    intro i hi; rw [rd_nat _ i (by rw [hl]; exact hi)]; simp [islOf, isl_isN hf hi]
  have hR := refsOf_len f N
  obtain ⟨hmax, hpos⟩ := max_isl hf (show 0 < N by omega)
  have key : ∀ m i, i + m = N → Ev (fun k => island_Members.l0 k (rowsOf f N i) (islOf f N N) (N : Int) (i : Int)) (rowsOf f N N, 0) := by
    intro m
    induction m with
    | zero =>
      intro i hi
      have : i = N := by omega
      subst this
      refine Ev.succ (G := fun _ => some (rowsOf f i i, 0)) (fun k => ?_) (Ev.some_ _)
      rw [island_Members.l0, if_neg (by omega)]
    | succ m ih =>
      intro i hi
      have hiN : i < N := by omega
      have hlt := isN_lt hf hiN
      have hle := rowOf_len_le f N i (isN f N i)
      refine Ev.succ (G := fun k => island_Members.l0 k (rowsOf f N (i + 1)) (islOf f N N) (N : Int) ((i + 1 : Nat) : Int)) (fun k => ?_) (ih (i + 1) (by omega))
      rw [island_Members.l0, if_pos (by omega), if_pos (by omega), if_pos (by rw [hl]; omega), hr i hiN, if_pos (by omega), if_pos (by rw [rowsOf_len]; omega), rd_rowsOf hlt, if_pos (by omega), Int.toNat_natCast, rowsOf_set, wrap_small (by omega) (by omega)]; rfl
  refine Ev.bind hof ?_
  refine Ev.eq (fun k => ?_) (key N 0 (by omega))
  have hw : wrap64 ((((refsOf f N).length - 1 : Nat) : Int) + 1) = (((refsOf f N).length : Nat) : Int) := by rw [wrap_small (by omega) (by omega)]; omega
  have hz : List.replicate (refsOf f N).length ([] : List Int) = rowsOf f N 0 := by
    unfold rowsOf
    apply List.ext_getElem
    · simp
    · intro i h1 h2; simp [rowOf, rowN]
  simp only [if_true]
  rw [hmax, Option.bind_some, hw, if_pos (by omega), if_pos (by omega), Int.toNat_natCast, hz, hl]; rfl
theorem count_ok {b : Int} {L : List S37} {out : List Int} (h : outsV b L out = 0) : Ev (fun k => island_Count.f k b L out) (((refsOf (lab (edges L out)) b.toNat).length : Int), 0) :=
  Ev.bind (refs_ok h) (Ev.some_ _)
theorem count_bad {b : Int} {L : List S37} {out : List Int} (h : outsV b L out ≠ 0) : Ev (fun k => island_Count.f k b L out) (0, outsV b L out) :=
  Ev.bind (refs_bad h) (Ev.some_ _)
theorem members_bad {b : Int} {L : List S37} {out : List Int} (h : outsV b L out ≠ 0) : Ev (fun k => island_Members.f k b L out) ([], outsV b L out) := by
  refine Ev.bind (of_bad h) ?_
  refine Ev.eq (G := fun _ => some ([], outsV b L out)) (fun k => ?_) (Ev.some_ _)
  simp only [if_neg h]
end
end Go.Proofs.Ytdpgdelimffjpaa.P
