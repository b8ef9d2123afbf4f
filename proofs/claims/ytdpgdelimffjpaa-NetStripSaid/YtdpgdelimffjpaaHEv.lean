import Derived.Test.YtdpgdelimffjpaaFA
import Derived.Test.YtdpgdelimffjpaaFC
import Derived.Test.YtdpgdelimffjpaaHLab
namespace Go.Proofs.Ytdpgdelimffjpaa.P
open Go.RowKit Go.Proofs.YtdpgdelimffjpaaW.PrintWords Go.Proofs.YtdpgdelimffjpaaW.PrintLast Go.Proofs.YtdpgdelimffjpaaW.PrintMore
attribute [local go_sem] max2_int min2_int max_two min_two max_three min_three max_four min_four
set_option linter.unusedVariables false
set_option linter.unusedSimpArgs false
/-- With rounds enough the function tells v. -/
def Ev {α : Type} (F : Nat → Option α) (v : α) : Prop := ∃ K, ∀ k, K ≤ k → F k = some v
theorem Ev.some_ {α : Type} (v : α) : Ev (fun _ => some v) v := ⟨0, fun _ _ => rfl⟩
theorem Ev.bind {α β : Type} {F : Nat → Option α} {G : Nat → α → Option β} {a : α} {b : β} (h : Ev F a) (h2 : Ev (fun k => G k a) b) : Ev (fun k => (F k).bind (G k)) b := by
  obtain ⟨K, hK⟩ := h
  obtain ⟨L, hL⟩ := h2
  exact ⟨max K L, fun k hk => by show (F k).bind (G k) = some b; rw [hK k (by omega), Option.bind_some]; exact hL k (by omega)⟩
theorem Ev.const {α : Type} {o : Option α} {v : α} (h : o = some v) : Ev (fun _ => o) v := ⟨0, fun _ _ => h⟩
theorem Ev.succ {α : Type} {F G : Nat → Option α} {v : α} (hs : ∀ k, F (k + 1) = G k) (h : Ev G v) : Ev F v := by
  obtain ⟨K, hK⟩ := h
  exact ⟨K + 1, fun k hk => by obtain ⟨j, rfl⟩ : ∃ j, k = j + 1 := ⟨k - 1, by omega⟩
                               rw [hs]; exact hK j (by omega)⟩
theorem Ev.eq {α : Type} {F G : Nat → Option α} {v : α} (hs : ∀ k, F k = G k) (h : Ev G v) : Ev F v := by
  obtain ⟨K, hK⟩ := h
  exact ⟨K, fun k hk => by rw [hs]; exact hK k hk⟩
theorem Ev.tell {α : Type} {F : Nat → Option α} {v : α} (h : Ev F v) : ∃ k, F k = some v := by
  obtain ⟨K, hK⟩ := h
  exact ⟨K, hK K (Nat.le_refl _)⟩
/-- A loop over i: N rounds at most, each hands on to the next; a relation I is kept. -/
theorem Ev.loop {σ α : Type} {F : Nat → σ → Nat → Option α} {v : α} (N : Nat) (I : Nat → σ → Prop) (hstep : ∀ i s, i < N → I i s → (∃ s', I (i + 1) s' ∧ (Ev (fun k => F k s' (i + 1)) v → Ev (fun k => F k s i) v)) ∨ Ev (fun k => F k s i) v) (hend : ∀ s, I N s → Ev (fun k => F k s N) v) : ∀ i s, i ≤ N → I i s → Ev (fun k => F k s i) v := by
  have key : ∀ m i s, i + m = N → I i s → Ev (fun k => F k s i) v := by
    intro m
    induction m with
    | zero => intro i s hi hI; have : i = N := by omega
              subst this; exact hend s hI
    | succ m ih =>
      intro i s hi hI
      rcases hstep i s (by omega) hI with ⟨s', hI', hgo⟩ | hdone
      · exact hgo (ih (i + 1) s' (by omega) hI')
      · exact hdone
  intro i s hi hI
  exact key (N - i) i s (by omega) hI
/-- 'Long' on lists of a length of at most 100. -/
theorem long_f (b : Int) (L : List S37) (ls : List (List Int)) (hs : ls.length ≤ 1000) : ∃ r, Ev (fun k => pylonlaw14_Long.f k b L ls) r ∧ (r = false → L.length ≤ 100 ∧ ∀ l ∈ ls, l.length ≤ 100) := by
  have key : ∀ m i, i + m = ls.length → ∃ r, Ev (fun k => pylonlaw14_Long.l0 k ls (i : Int) b L) r ∧ (r = false → L.length ≤ 100 ∧ ∀ l ∈ ls.drop i, l.length ≤ 100) := by
    intro m
    induction m with
    | zero =>
      intro i hi
      refine ⟨decide ((L.length : Int) > 100), Ev.succ (G := fun _ => some (decide ((L.length : Int) > 100))) (fun k => ?_) (Ev.some_ _), fun h => ?_⟩
      · rw [pylonlaw14_Long.l0, if_neg (by omega)]
      · have := of_decide_eq_false h
        refine ⟨by omega, fun l hl => ?_⟩
        rw [List.drop_eq_nil_of_le (by omega)] at hl
        cases hl
    | succ m ih =>
      intro i hi
      obtain ⟨r, hr, hx⟩ := ih (i + 1) (by omega)
      have hil : i < ls.length := by omega
      have hrd : rd_L1 ls (i : Int) = ls[i] := by simp [rd_L1, List.getD_eq_getElem?_getD, hil]
      by_cases hlong : ((ls[i].length : Int) > 100)
      · refine ⟨true, Ev.succ (G := fun _ => some true) (fun k => ?_) (Ev.some_ _), fun h => by cases h⟩
        rw [pylonlaw14_Long.l0, if_pos (by omega), if_pos (by omega), hrd, if_pos hlong]
      · refine ⟨r, Ev.succ (G := fun k => pylonlaw14_Long.l0 k ls ((i + 1 : Nat) : Int) b L) (fun k => ?_) hr, fun h => ⟨(hx h).1, fun l hl => ?_⟩⟩
        · rw [pylonlaw14_Long.l0, if_pos (by omega), if_pos (by omega), hrd, if_neg hlong, wrap_small (by omega) (by omega)]; rfl
        · rw [List.drop_eq_getElem_cons hil] at hl
          rcases List.mem_cons.1 hl with rfl | hl
          · omega
          · exact (hx h).2 l hl
  obtain ⟨r, hr, hx⟩ := key ls.length 0 (by omega)
  exact ⟨r, hr, fun h => by simpa using hx h⟩
/-- The place of x in l, or -1. -/
def idx (l : List Int) (x : Int) : Int := if x ∈ l then (l.idxOf x : Int) else -1
theorem index_f (l : List Int) (x : Int) (hl : l.length ≤ 1000) : Ev (fun k => slices_Index_int_int.f k l x) (idx l x) := by
  have key : ∀ m i, i + m = l.length → (∀ j (hj : j < l.length), j < i → l[j] ≠ x) → Ev (fun k => slices_Index_int_int.l0 k l x (l.length : Int) (i : Int)) (idx l x) := by
    intro m
    induction m with
    | zero =>
      intro i hi hno
      refine Ev.succ (G := fun _ => some (idx l x)) (fun k => ?_) (Ev.some_ _)
      rw [slices_Index_int_int.l0, if_neg (by omega), idx, if_neg]
      intro hm
      obtain ⟨j, hj, e⟩ := List.getElem_of_mem hm
      exact hno j hj (by omega) e
    | succ m ih =>
      intro i hi hno
      have hil : i < l.length := by omega
      by_cases he : x = l[i]
      · refine Ev.succ (G := fun _ => some (idx l x)) (fun k => ?_) (Ev.some_ _)
        have hm : x ∈ l := by rw [he]; exact List.getElem_mem _
        have hidx : l.idxOf x = i := by
          have h1 : l.idxOf x < l.length := List.idxOf_lt_length_iff.2 hm
          have h2 : l[l.idxOf x] = x := List.getElem_idxOf h1
          have h3 : ¬ l.idxOf x < i := fun h => hno _ h1 h h2
          have h4 : ¬ i < l.idxOf x := fun h => by
            have := List.not_of_lt_findIdx (p := (· == x)) (xs := l) (i := i) h
            simp at this
            exact this he.symm
          omega
        rw [slices_Index_int_int.l0, if_pos (by omega), if_pos (by omega), if_pos (by omega), rd_nat l i hil, if_pos he, idx, if_pos hm, hidx]
      · refine Ev.succ (G := fun k => slices_Index_int_int.l0 k l x (l.length : Int) ((i + 1 : Nat) : Int)) (fun k => ?_) (ih (i + 1) (by omega) (fun j hj hji => ?_))
        · rw [slices_Index_int_int.l0, if_pos (by omega), if_pos (by omega), if_pos (by omega), rd_nat l i hil, if_neg he, wrap_small (by omega) (by omega)]; rfl
        · by_cases h : j = i
          · subst h; exact fun e => he e.symm
          · exact hno j hj (by omega)
  exact key l.length 0 (by omega) (fun j _ h => absurd h (Nat.not_lt_zero _))
/-- The reference buses: those that are their own label. -/
def refsOf (f : Nat → Nat) (N : Nat) : List Int := ((List.range N).filter (fun b => f b == b)).map (fun (b : Nat) => (b : Int))
theorem refsOf_len (f : Nat → Nat) (N : Nat) : (refsOf f N).length ≤ N := by
  unfold refsOf
  rw [List.length_map]
  exact Nat.le_trans (List.length_filter_le _ _) (by rw [List.length_range]; exact Nat.le_refl _)
def labsOf (f : Nat → Nat) (N : Nat) : List Int := (List.range N).map (fun (b : Nat) => ((f b : Nat) : Int))
theorem labsOf_len (f : Nat → Nat) (N : Nat) : (labsOf f N).length = N := by simp [labsOf]
theorem rd_labsOf (f : Nat → Nat) (N : Nat) (b : Nat) (hb : b < N) : rd (labsOf f N) (b : Int) = ((f b : Nat) : Int) := by
  rw [rd_nat _ b (by rw [labsOf_len]; exact hb)]; simp [labsOf]
theorem refsOf_succ (f : Nat → Nat) (i : Nat) : refsOf f (i + 1) = if f i = i then refsOf f i ++ [(i : Int)] else refsOf f i := by
  unfold refsOf
  rw [List.range_succ, List.filter_append, List.map_append]
  by_cases h : f i = i
  · rw [if_pos h]; simp [h]
  · rw [if_neg h]; simp [h]
theorem refs_loop (f : Nat → Nat) (N : Nat) (e : Int) (hN : N ≤ 1000) : Ev (fun k => island_Refs.l0 k [] e (labsOf f N) (N : Int) 0) (refsOf f N, e) := by
  have key : ∀ m i, i + m = N → Ev (fun k => island_Refs.l0 k (refsOf f i) e (labsOf f N) (N : Int) (i : Int)) (refsOf f N, e) := by
    intro m
    induction m with
    | zero =>
      intro i hi
      have hiN : i = N := by omega
      subst hiN
      refine Ev.succ (G := fun _ => some (refsOf f i, e)) (fun k => ?_) (Ev.some_ _)
      rw [island_Refs.l0, if_neg (by omega)]
    | succ m ih =>
      intro i hi
      have hl := refsOf_len f i
      refine Ev.succ (G := fun k => island_Refs.l0 k (refsOf f (i + 1)) e (labsOf f N) (N : Int) ((i + 1 : Nat) : Int)) (fun k => ?_) (ih (i + 1) (by omega))
      rw [island_Refs.l0, if_pos (by omega), if_pos (by omega), if_pos (by rw [labsOf_len]; omega), rd_labsOf f N i (by omega), refsOf_succ]
      by_cases h : f i = i
      · rw [if_pos (by omega), if_pos (by omega), if_pos h, wrap_small (by omega) (by omega)]; rfl
      · rw [if_neg (by omega), if_neg h, wrap_small (by omega) (by omega)]; rfl
  exact key N 0 (by omega)
def isl (f : Nat → Nat) (N : Nat) (i : Nat) : Int := idx (refsOf f N) ((f i : Nat) : Int)
def islOf (f : Nat → Nat) (N n : Nat) : List Int := (List.range n).map (isl f N)
theorem of_loop (f : Nat → Nat) (N : Nat) (e : Int) (hN : N ≤ 1000) : Ev (fun k => island_Of.l0 k [] e (refsOf f N) (labsOf f N) (N : Int) 0) (islOf f N N, e) := by
  have key : ∀ m i, i + m = N → Ev (fun k => island_Of.l0 k (islOf f N i) e (refsOf f N) (labsOf f N) (N : Int) (i : Int)) (islOf f N N, e) := by
    intro m
    induction m with
    | zero =>
      intro i hi
      have hiN : i = N := by omega
      subst hiN
      refine Ev.succ (G := fun _ => some (islOf f i i, e)) (fun k => ?_) (Ev.some_ _)
      rw [island_Of.l0, if_neg (by omega)]
    | succ m ih =>
      intro i hi
      have hl := refsOf_len f N
      have hi2 : (islOf f N i).length = i := by simp [islOf]
      have hs : islOf f N (i + 1) = islOf f N i ++ [isl f N i] := by unfold islOf; rw [List.range_succ, List.map_append]; rfl
      refine Ev.succ (G := fun k => (slices_Index_int_int.f k (refsOf f N) (rd (labsOf f N) (i : Int))).bind fun t => (if (islOf f N i).length < 17592186044416 then (island_Of.l0 k (islOf f N i ++ [t]) e (refsOf f N) (labsOf f N) (N : Int) (wrap64 ((i : Int) + 1))) else (none))) (fun k => ?_) ?_
      · rw [island_Of.l0, if_pos (by omega), if_pos (by omega), if_pos (by rw [labsOf_len]; omega)]
      · refine Ev.bind (index_f _ _ (by omega)) ?_
        rw [rd_labsOf f N i (by omega)]
        refine Ev.eq (fun k => ?_) (ih (i + 1) (by omega))
        rw [if_pos (by omega), hs, wrap_small (by omega) (by omega)]; rfl
  exact key N 0 (by omega)
theorem stands_ok {b : Int} {L : List S37} {out : List Int} (h : outsV b L out = 0) : island_stands.f b L out = some (labsOf (lab (edges L out)) b.toNat, 0) := by
  rw [island_stands.f, if_pos h]; rfl
theorem stands_bad {b : Int} {L : List S37} {out : List Int} (h : outsV b L out ≠ 0) : island_stands.f b L out = some ([], outsV b L out) := by
  rw [island_stands.f, if_neg h]
theorem outs_bus {b : Int} {L : List S37} {out : List Int} (h : outsV b L out = 0) : 1 ≤ b ∧ b ≤ 6 ∧ L.length ≤ 10 := by
  have := chk_ok (outsV_ok h).1
  exact ⟨this.1, this.2.1, this.2.2.1⟩
theorem refs_ok {b : Int} {L : List S37} {out : List Int} (h : outsV b L out = 0) : Ev (fun k => island_Refs.f k b L out) (refsOf (lab (edges L out)) b.toNat, 0) := by
  have hb := outs_bus h
  refine Ev.eq (fun k => ?_) (refs_loop (lab (edges L out)) b.toNat 0 (by omega))
  rw [island_Refs.f, stands_ok h, Option.bind_some, labsOf_len]
theorem refs_bad {b : Int} {L : List S37} {out : List Int} (h : outsV b L out ≠ 0) : Ev (fun k => island_Refs.f k b L out) ([], outsV b L out) := by
  refine Ev.succ (G := fun _ => some ([], outsV b L out)) (fun k => ?_) (Ev.some_ _)
  rw [island_Refs.f, stands_bad h, Option.bind_some, island_Refs.l0, if_neg (by simp)]
theorem of_ok {b : Int} {L : List S37} {out : List Int} (h : outsV b L out = 0) : Ev (fun k => island_Of.f k b L out) (islOf (lab (edges L out)) b.toNat b.toNat, 0) := by
  have hb := outs_bus h
  refine Ev.eq (G := fun k => (island_Refs.f k b L out).bind fun bt => island_Of.l0 k [] 0 bt.1 (labsOf (lab (edges L out)) b.toNat) ((b.toNat : Nat) : Int) 0) (fun k => ?_) ?_
  · rw [island_Of.f, stands_ok h, Option.bind_some, labsOf_len]
  · exact Ev.bind (refs_ok h) (of_loop (lab (edges L out)) b.toNat 0 (by omega))
theorem of_bad {b : Int} {L : List S37} {out : List Int} (h : outsV b L out ≠ 0) : Ev (fun k => island_Of.f k b L out) ([], outsV b L out) := by
  refine Ev.eq (G := fun k => (island_Refs.f k b L out).bind fun bt => island_Of.l0 k [] (outsV b L out) bt.1 [] ((([] : List Int).length : Nat) : Int) 0) (fun k => ?_) ?_
  · rw [island_Of.f, stands_bad h, Option.bind_some]
  · refine Ev.bind (refs_bad h) (Ev.succ (G := fun _ => some ([], outsV b L out)) (fun k => ?_) (Ev.some_ _))
    rw [island_Of.l0, if_neg (by simp)]
/-- Two buses are in one island if and only if their labels are alike. -/
theorem isl_eq {f : Nat → Nat} (hf : Lb f) {N x y : Nat} (hx : x < N) (hy : y < N) : isl f N x = isl f N y ↔ f x = f y := by
  have hmem : ∀ z, z < N → ((f z : Nat) : Int) ∈ refsOf f N := by
    intro z hz
    unfold refsOf
    refine List.mem_map.2 ⟨f z, List.mem_filter.2 ⟨List.mem_range.2 (by have := (hf z).1; omega), ?_⟩, rfl⟩
    simpa using (hf z).2
  constructor
  · intro h
    unfold isl idx at h
    rw [if_pos (hmem x hx), if_pos (hmem y hy)] at h
    have hi : (refsOf f N).idxOf ((f x : Nat) : Int) = (refsOf f N).idxOf ((f y : Nat) : Int) := by omega
    have e1 := List.getElem_idxOf (List.idxOf_lt_length_iff.2 (hmem x hx))
    have e2 := List.getElem_idxOf (List.idxOf_lt_length_iff.2 (hmem y hy))
    have e3 : ((f x : Nat) : Int) = ((f y : Nat) : Int) := by
      rw [← e1, ← e2]
      congr 1
    omega
  · intro h
    unfold isl
    rw [h]
end Go.Proofs.Ytdpgdelimffjpaa.P
