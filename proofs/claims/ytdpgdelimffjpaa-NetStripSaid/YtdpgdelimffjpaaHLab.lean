import Derived.Test.YtdpgdelimffjpaaHBoxes
namespace Go.Proofs.Ytdpgdelimffjpaa.P
open Go.RowKit Go.Proofs.YtdpgdelimffjpaaW.PrintWords Go.Proofs.YtdpgdelimffjpaaW.PrintLast Go.Proofs.YtdpgdelimffjpaaW.PrintMore
attribute [local go_sem] max2_int min2_int max_two min_two max_three min_three max_four min_four
set_option linter.unusedVariables false
set_option linter.unusedSimpArgs false
section
/-- Labels after one more edge: the greater label gives way to the smaller. -/
def merge (f : Nat → Nat) (e : Nat × Nat) : Nat → Nat := fun x => if f x = max (f e.1) (f e.2) then min (f e.1) (f e.2) else f x
/-- The smallest bus of each bus' island. -/
def lab (E : List (Nat × Nat)) : Nat → Nat := E.foldl merge id
theorem lab_nil : lab [] = id := rfl
theorem lab_snoc (E : List (Nat × Nat)) (e : Nat × Nat) : lab (E ++ [e]) = merge (lab E) e := by simp [lab]
theorem merge_same {f : Nat → Nat} {e : Nat × Nat} (h : f e.1 = f e.2) : merge f e = f := by
  funext x; unfold merge; split <;> omega
/-- The list that 'stands' keeps, against the labels. -/
structure UF (l : List Int) (f : Nat → Nat) (N : Nat) : Prop where
  len : l.length = N
  le : ∀ b, f b ≤ b
  idem : ∀ b, f (f b) = f b
  par : ∀ b, b < N → ∃ p : Nat, rd l (b : Int) = (p : Int) ∧ p ≤ b ∧ f p = f b ∧ (p = b → f b = b)
theorem UF.start (N : Nat) : UF ((List.range N).map (fun (b : Nat) => (b : Int))) id N := by
  refine ⟨by simp, fun b => Nat.le_refl _, fun b => rfl, fun b hb => ⟨b, ?_, Nat.le_refl _, rfl, fun _ => rfl⟩⟩
  rw [rd_nat _ b (by simpa using hb)]; simp
theorem rd_set {l : List Int} {i j : Nat} {v : Int} (hi : i < l.length) : rd (l.set i v) (j : Int) = if j = i then v else rd l (j : Int) := by
  unfold rd
  simp only [Int.toNat_natCast, List.getD_eq_getElem?_getD]
  by_cases h : j = i
  · subst h; simp [hi]
  · rw [if_neg h, List.getElem?_set_ne (fun e => h e.symm)]
theorem idem_max {f : Nat → Nat} {u v : Nat} (h1 : f (f u) = f u) (h2 : f (f v) = f v) : f (max (f u) (f v)) = max (f u) (f v) := by
  rcases Nat.le_total (f u) (f v) with hh | hh
  · rw [Nat.max_eq_right hh]; exact h2
  · rw [Nat.max_eq_left hh]; exact h1
theorem idem_min {f : Nat → Nat} {u v : Nat} (h1 : f (f u) = f u) (h2 : f (f v) = f v) : f (min (f u) (f v)) = min (f u) (f v) := by
  rcases Nat.le_total (f u) (f v) with hh | hh
  · rw [Nat.min_eq_left hh]; exact h1
  · rw [Nat.min_eq_right hh]; exact h2
theorem UF.union {l : List Int} {f : Nat → Nat} {N : Nat} (h : UF l f N) {u v : Nat} (hu : u < N) (hv : v < N) (hne : f u ≠ f v) : UF (l.set (max (f u) (f v)) ((min (f u) (f v) : Nat) : Int)) (merge f (u, v)) N := by
  have h1 := h.le u
  have h2 := h.le v
  have hm : max (f u) (f v) < N := by omega
  have iM := idem_max (h.idem u) (h.idem v)
  have im := idem_min (h.idem u) (h.idem v)
  have hlt : min (f u) (f v) < max (f u) (f v) := by omega
  have hmg : ∀ x, merge f (u, v) x = if f x = max (f u) (f v) then min (f u) (f v) else f x := fun x => rfl
  generalize max (f u) (f v) = M at *
  generalize min (f u) (f v) = m at *
  refine ⟨by simp [h.len], fun b => ?_, fun b => ?_, fun b hb => ?_⟩
  · rw [hmg]; have := h.le b; split <;> omega
  · rw [hmg b]
    by_cases hb : f b = M
    · rw [if_pos hb, hmg, im, if_neg (by omega)]
    · rw [if_neg hb, hmg, h.idem b, if_neg hb]
  · obtain ⟨p, hp, hpb, hfp, hpe⟩ := h.par b hb
    rw [rd_set (by rw [h.len]; exact hm)]
    by_cases hbM : b = M
    · subst hbM
      refine ⟨m, by rw [if_pos rfl], by omega, ?_, fun e => by omega⟩
      rw [hmg, hmg, im, if_neg (by omega), if_pos iM]
    · refine ⟨p, by rw [if_neg hbM]; exact hp, hpb, by rw [hmg, hmg, hfp], fun e => ?_⟩
      rw [hmg, hpe e, if_neg hbM]
theorem UF.flat {l : List Int} {f : Nat → Nat} {N : Nat} (h : UF l f N) {b : Nat} (hb : b < N) : UF (l.set b ((f b : Nat) : Int)) f N := by
  refine ⟨by simp [h.len], h.le, h.idem, fun c hc => ?_⟩
  rw [rd_set (by rw [h.len]; exact hb)]
  by_cases e : c = b
  · subst e
    exact ⟨f c, by rw [if_pos rfl], h.le c, h.idem c, fun e => e⟩
  · rw [if_neg e]; exact h.par c hc
def Lb (f : Nat → Nat) : Prop := ∀ b, f b ≤ b ∧ f (f b) = f b
theorem Lb.merge {f : Nat → Nat} (ih : Lb f) (e : Nat × Nat) : Lb (merge f e) := by
  intro b
  by_cases hs : f e.1 = f e.2
  · rw [merge_same hs]; exact ih b
  · have iM := idem_max (ih e.1).2 (ih e.2).2
    have im := idem_min (ih e.1).2 (ih e.2).2
    have hmg : ∀ x, P.merge f e x = if f x = max (f e.1) (f e.2) then min (f e.1) (f e.2) else f x := fun x => rfl
    have hlt : min (f e.1) (f e.2) < max (f e.1) (f e.2) := by omega
    generalize max (f e.1) (f e.2) = M at *
    generalize min (f e.1) (f e.2) = m at *
    have := (ih b).1
    by_cases hb : f b = M
    · rw [hmg b, if_pos hb, hmg, im, if_neg (by omega)]; omega
    · rw [hmg b, if_neg hb, hmg, (ih b).2, if_neg hb]; omega
theorem Lb.fold (E : List (Nat × Nat)) : ∀ f, Lb f → Lb (E.foldl P.merge f) := by
  induction E with
  | nil => intro f h; exact h
  | cons e E ih => intro f h; exact ih _ (h.merge e)
theorem lab_lb (E : List (Nat × Nat)) : Lb (lab E) := Lb.fold E id (fun b => ⟨Nat.le_refl _, rfl⟩)
end
section
/-- An edge's ends are joined, and joined they stay. -/
theorem merge_keep {f : Nat → Nat} (e : Nat × Nat) {x y : Nat} (h : f x = f y) : merge f e x = merge f e y := by
  unfold merge; rw [h]
theorem merge_ends (f : Nat → Nat) (u v : Nat) : merge f (u, v) u = merge f (u, v) v := by
  unfold merge
  simp only
  split <;> split <;> omega
theorem fold_keep (E : List (Nat × Nat)) : ∀ (f : Nat → Nat) (x y : Nat), f x = f y → (E.foldl merge f) x = (E.foldl merge f) y := by
  induction E with
  | nil => intro f x y h; exact h
  | cons e E ih => intro f x y h; exact ih _ x y (merge_keep e h)
theorem fold_edge (E : List (Nat × Nat)) : ∀ (f : Nat → Nat) (e : Nat × Nat), e ∈ E → (E.foldl merge f) e.1 = (E.foldl merge f) e.2 := by
  induction E with
  | nil => intro f e h; cases h
  | cons a E ih =>
    intro f e h
    rcases List.mem_cons.1 h with rfl | h
    · exact fold_keep E _ _ _ (merge_ends f e.1 e.2)
    · exact ih _ e h
theorem lab_edge {E : List (Nat × Nat)} {e : Nat × Nat} (h : e ∈ E) : lab E e.1 = lab E e.2 := fold_edge E id e h
/-- What every edge keeps, the labels keep. -/
theorem fold_const {α : Type} (g : Nat → α) (E : List (Nat × Nat)) : ∀ f : Nat → Nat, (∀ x, g (f x) = g x) → (∀ e ∈ E, g e.1 = g e.2) → ∀ x, g ((E.foldl merge f) x) = g x := by
  induction E with
  | nil => intro f hf _ x; exact hf x
  | cons e E ih =>
    intro f hf hE x
    refine ih (merge f e) (fun z => ?_) (fun e' h => hE e' (List.mem_cons_of_mem _ h)) x
    have he := hE e (List.mem_cons_self ..)
    unfold merge
    have h1 := hf e.1
    have h2 := hf e.2
    split
    · rename_i hz
      rw [← hf z, hz]
      rcases Nat.le_total (f e.1) (f e.2) with h | h
      · rw [Nat.min_eq_left h, Nat.max_eq_right h, h1, h2, he]
      · rw [Nat.min_eq_right h, Nat.max_eq_left h, h1, h2, he]
    · exact hf z
theorem lab_const {α : Type} (g : Nat → α) {E : List (Nat × Nat)} (h : ∀ e ∈ E, g e.1 = g e.2) {x y : Nat} (hxy : lab E x = lab E y) : g x = g y := by
  have k := fold_const g E id (fun _ => rfl) h
  have e1 : g (lab E x) = g x := k x
  have e2 : g (lab E y) = g y := k y
  rw [← e1, ← e2, hxy]
end
end Go.Proofs.Ytdpgdelimffjpaa.P
