import Derived.Test.YtdpgdelimffjpaaHLab
namespace Go.Proofs.Ytdpgdelimffjpaa.P
open Go.RowKit Go.Proofs.YtdpgdelimffjpaaW.PrintWords Go.Proofs.YtdpgdelimffjpaaW.PrintLast Go.Proofs.YtdpgdelimffjpaaW.PrintMore
attribute [local go_sem] max2_int min2_int max_two min_two max_three min_three max_four min_four
set_option linter.unusedVariables false
set_option linter.unusedSimpArgs false
/-- An edge's ends are joined, and joined they stay. -/
theorem merge_keep {f : Nat → Nat} (e : Nat × Nat) {x y : Nat} (h : f x = f y) : merge f e x = merge f e y := by
  unfold merge; rw [h]
theorem merge_ends (f : Nat → Nat) (u v : Nat) : merge f (u, v) u = merge f (u, v) v := by
  unfold merge
  simp only
  split <;> split <;> omega
theorem fold_keep (E : List (Nat × Nat)) : ∀ (f : Nat → Nat) (x y : Nat), f x = f y → (E.foldl merge f) x = (E.foldl merge f) y := by
  induction E with
  | nil => intro f x y h; exact h
  | cons e E ih => intro f x y h; exact ih _ x y (merge_keep e h)
theorem fold_edge (E : List (Nat × Nat)) : ∀ (f : Nat → Nat) (e : Nat × Nat), e ∈ E → (E.foldl merge f) e.1 = (E.foldl merge f) e.2 := by
  induction E with
  | nil => intro f e h; cases h
  | cons a E ih =>
    intro f e h
    rcases List.mem_cons.1 h with rfl | h
    · exact fold_keep E _ _ _ (merge_ends f e.1 e.2)
    · exact ih _ e h
theorem lab_edge {E : List (Nat × Nat)} {e : Nat × Nat} (h : e ∈ E) : lab E e.1 = lab E e.2 := fold_edge E id e h
/-- What every edge keeps, the labels keep. -/
theorem fold_const {α : Type} (g : Nat → α) (E : List (Nat × Nat)) : ∀ f : Nat → Nat, (∀ x, g (f x) = g x) → (∀ e ∈ E, g e.1 = g e.2) → ∀ x, g ((E.foldl merge f) x) = g x := by
  induction E with
  | nil => intro f hf _ x; exact hf x
  | cons e E ih =>
    intro f hf hE x
    refine ih (merge f e) (fun z => ?_) (fun e' h => hE e' (List.mem_cons_of_mem _ h)) x
    have he := hE e (List.mem_cons_self ..)
    unfold merge
    have h1 := hf e.1
    have h2 := hf e.2
    split
    · rename_i hz
      rw [← hf z, hz]
      rcases Nat.le_total (f e.1) (f e.2) with h | h
      · rw [Nat.min_eq_left h, Nat.max_eq_right h, h1, h2, he]
      · rw [Nat.min_eq_right h, Nat.max_eq_left h, h1, h2, he]
    · exact hf z
theorem lab_const {α : Type} (g : Nat → α) {E : List (Nat × Nat)} (h : ∀ e ∈ E, g e.1 = g e.2) {x y : Nat} (hxy : lab E x = lab E y) : g x = g y := by
  have k := fold_const g E id (fun _ => rfl) h
  have e1 : g (lab E x) = g x := k x
  have e2 : g (lab E y) = g y := k y
  rw [← e1, ← e2, hxy]
end Go.Proofs.Ytdpgdelimffjpaa.P
