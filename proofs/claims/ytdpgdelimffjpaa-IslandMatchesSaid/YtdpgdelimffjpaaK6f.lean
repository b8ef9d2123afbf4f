/- Texts of this claim, merged: the words that print.sh and the prover's driver wrote, and hand-proved contracts and lemmas, less what this claim does not name. Lean checks them. -/
import Derived.Test.YtdpgdelimffjpaaK6a
import Derived.Test.YtdpgdelimffjpaaK6b
import Derived.Test.YtdpgdelimffjpaaK6c
import Derived.Test.YtdpgdelimffjpaaK6d
import Derived.Test.YtdpgdelimffjpaaK6e
namespace Go.Proofs.Ytdpgdelimffjpaa.P
open Go.RowKit Go.Proofs.YtdpgdelimffjpaaW.PrintWords Go.Proofs.YtdpgdelimffjpaaW.PrintLast Go.Proofs.YtdpgdelimffjpaaW.PrintMore
attribute [local go_sem] max2_int min2_int max_two min_two max_three min_three max_four min_four
set_option linter.unusedVariables false
set_option linter.unusedSimpArgs false
section
theorem Ev.upto {α : Type} {v : α} (N : Nat) (F : Nat → Nat → Option α) (hend : Ev (fun k => F k N) v) (hstep : ∀ i, i < N → Ev (fun k => F k (i + 1)) v → Ev (fun k => F k i) v) : Ev (fun k => F k 0) v := by
  have key : ∀ m i, i + m = N → Ev (fun k => F k i) v := by
    intro m
    induction m with
    | zero => intro i hi; have : i = N := by omega
              subst this; exact hend
    | succ m ih => intro i hi; exact hstep i (by omega) (ih (i + 1) (by omega))
  exact key N 0 (by omega)
theorem wrap_succ {i : Nat} (h : i < 9223372036854775807) : wrap64 ((i : Int) + 1) = ((i + 1 : Nat) : Int) := by rw [wrap_small (by omega) (by omega)]; rfl
theorem chk_line (b : Int) (l : S37) (X : Option Int) : (if l.f0 < 0 then (some 1) else (if l.f0 ≥ b then (some 1) else (if l.f1 < 0 then (some 1) else (if l.f1 ≥ b then (some 1) else (if l.f0 = l.f1 then (some 1) else (if l.f2 < 1 then (some 1) else (if l.f2 > 1000 then (some 1) else (if l.f3 < 0 then (some 1) else (if l.f3 > 1000000 then (some 1) else X))))))))) = if okLine b l = true then X else some 1 := by
  by_cases hok : okLine b l = true
  · have h := hok
    unfold okLine at h
    simp only [Bool.and_eq_true, decide_eq_true_eq, bne_iff_ne] at h
    obtain ⟨⟨⟨h1, h2⟩, h3⟩, h4⟩ := h
    rw [if_neg (by omega), if_neg (by omega), if_neg (by omega), if_neg (by omega), if_neg (by omega), if_neg (by omega), if_neg (by omega), if_neg (by omega), if_neg (by omega), if_pos hok]
  · rw [if_neg hok]
    by_cases c0 : l.f0 < 0
    · rw [if_pos c0]
    rw [if_neg c0]
    by_cases c1 : l.f0 ≥ b
    · rw [if_pos c1]
    rw [if_neg c1]
    by_cases c2 : l.f1 < 0
    · rw [if_pos c2]
    rw [if_neg c2]
    by_cases c3 : l.f1 ≥ b
    · rw [if_pos c3]
    rw [if_neg c3]
    by_cases c4 : l.f0 = l.f1
    · rw [if_pos c4]
    rw [if_neg c4]
    by_cases c5 : l.f2 < 1
    · rw [if_pos c5]
    rw [if_neg c5]
    by_cases c6 : l.f2 > 1000
    · rw [if_pos c6]
    rw [if_neg c6]
    by_cases c7 : l.f3 < 0
    · rw [if_pos c7]
    rw [if_neg c7]
    by_cases c8 : l.f3 > 1000000
    · rw [if_pos c8]
    refine absurd ?_ hok
    unfold okLine
    simp only [Bool.and_eq_true, decide_eq_true_eq, bne_iff_ne]
    exact ⟨⟨⟨by omega, c4⟩, by omega⟩, by omega⟩
/-- The document's Check is the program's. -/
theorem chkR_ev (b : Int) (L : List S37) : Ev (fun k => pylonref14_Check.f k b L) (chk b L) := by
  by_cases hb : b < 1 ∨ 6 < b
  · refine Ev.eq (G := fun k => pylonref14_Check.j0 k true b L) (fun k => ?_) (Ev.succ (G := fun _ => some (chk b L)) (fun k => ?_) (Ev.some_ _))
    · rw [pylonref14_Check.f]
      by_cases h : b < 1
      · rw [if_pos h]
      · rw [if_neg h, decide_eq_true (by omega)]
    · rw [pylonref14_Check.j0, if_pos rfl, chk, if_pos hb]
  · refine Ev.eq (G := fun k => pylonref14_Check.j0 k false b L) (fun k => ?_) ?_
    · rw [pylonref14_Check.f, if_neg (by omega), decide_eq_false (by omega)]
    · by_cases hl : 10 < L.length
      · refine Ev.succ (G := fun _ => some (chk b L)) (fun k => ?_) (Ev.some_ _)
        rw [pylonref14_Check.j0, if_neg (by simp), if_pos (by omega), chk, if_neg hb, if_pos hl]
      · refine Ev.succ (G := fun k => pylonref14_Check.l0 k 0 b L) (fun k => ?_) ?_
        · rw [pylonref14_Check.j0, if_neg (by simp), if_neg (by omega)]
        · have hv : chk b L = if L.all (okLine b) then 0 else 1 := by rw [chk, if_neg hb, if_neg hl]
          have key : ∀ m i, i + m = L.length → Ev (fun k => pylonref14_Check.l0 k (i : Int) b L) (if (L.drop i).all (okLine b) then 0 else 1) := by
            intro m
            induction m with
            | zero =>
              intro i hi
              rw [List.drop_eq_nil_of_le (by omega)]
              refine Ev.succ (G := fun _ => some 0) (fun k => ?_) (Ev.some_ _)
              rw [pylonref14_Check.l0, if_neg (by omega)]
            | succ m ih =>
              intro i hi
              have hil : i < L.length := by omega
              have hnext := ih (i + 1) (by omega)
              rw [List.drop_eq_getElem_cons hil, List.all_cons, ← rd_T37_nat hil]
              refine Ev.succ (G := fun k => if okLine b (rd_T37 L (i : Int)) = true then pylonref14_Check.l0 k ((i + 1 : Nat) : Int) b L else some 1) (fun k => ?_) ?_
              · rw [pylonref14_Check.l0, if_pos (by omega), if_pos (by omega), wrap_succ (by omega), chk_line]
              · by_cases hok : okLine b (rd_T37 L (i : Int)) = true
                · rw [hok, Bool.true_and]
                  exact Ev.eq (fun k => if_pos rfl) hnext
                · rw [Bool.eq_false_iff.mpr hok, Bool.false_and]
                  exact Ev.eq (G := fun _ => some 1) (fun k => if_neg (by simp)) (Ev.some_ _)
          rw [hv]
          exact key L.length 0 (by omega)
def ltAll (n : Nat) (l : List Int) : Bool := decide (∀ x ∈ l, x < (n : Int))
theorem ltAll_cons (n : Nat) (x : Int) (l : List Int) : ltAll n (x :: l) = (decide (x < (n : Int)) && ltAll n l) := by
  unfold ltAll
  rw [Bool.eq_iff_iff]
  simp only [Bool.and_eq_true, decide_eq_true_eq, List.forall_mem_cons]
/-- The document's Outs is the program's. -/
theorem outsR_ev (b : Int) (L : List S37) (out : List Int) (ho : out.length ≤ 1000000) : Ev (fun k => pylonref14_Outs.f k b L out) (outsV b L out) := by
  refine Ev.bind (chkR_ev b L) ?_
  by_cases hc : chk b L = 0
  · refine Ev.eq (G := fun k => pylonref14_Outs.l0 k out 0 b L) (fun k => if_pos hc) ?_
    have hv : outsV b L out = if (risesFrom (-1) out && ltAll L.length out) = true then 0 else 1 := by rw [outsV, if_pos hc]; rfl
    have key : ∀ m i, i + m = out.length → ∀ last : Int, -1 ≤ last → (0 < i → last = rd out ((i - 1 : Nat) : Int)) → (i = 0 → last = -1) → Ev (fun k => pylonref14_Outs.l0 k out (i : Int) b L) (if (risesFrom last (out.drop i) && ltAll L.length (out.drop i)) = true then 0 else 1) := by
      intro m
      induction m with
      | zero =>
        intro i hi last _ _ _
        rw [List.drop_eq_nil_of_le (by omega)]
        refine Ev.succ (G := fun _ => some 0) (fun k => ?_) (Ev.some_ _)
        rw [pylonref14_Outs.l0, if_neg (by omega)]
      | succ m ih =>
        intro i hi last hl0 hl1 hl2
        have hil : i < out.length := by omega
        have hx := rd_nat out i hil
        rw [List.drop_eq_getElem_cons hil, ← hx]
        have hval : (risesFrom last (rd out (i : Int) :: out.drop (i + 1)) && ltAll L.length (rd out (i : Int) :: out.drop (i + 1))) = (decide (last < rd out (i : Int)) && decide (rd out (i : Int) < (L.length : Int)) && (risesFrom (rd out (i : Int)) (out.drop (i + 1)) && ltAll L.length (out.drop (i + 1)))) := by
          rw [risesFrom, ltAll_cons]
          cases decide (last < rd out (i : Int)) <;> cases decide (rd out (i : Int) < (L.length : Int)) <;> cases risesFrom (rd out (i : Int)) (out.drop (i + 1)) <;> rfl
        rw [hval]
        by_cases c : last < rd out (i : Int) ∧ rd out (i : Int) < (L.length : Int)
        · rw [decide_eq_true c.1, decide_eq_true c.2, Bool.true_and, Bool.true_and]
          refine Ev.succ (fun k => ?_) (ih (i + 1) (by omega) (rd out (i : Int)) (by omega) (fun _ => rfl) (fun h => by omega))
          rw [pylonref14_Outs.l0, if_pos (by omega), if_pos (by omega), if_neg (by omega), if_neg (by omega), wrap_succ (by omega)]
          by_cases hi0 : i = 0
          · subst hi0; rw [if_neg (by omega)]
          · have hw : wrap64 ((i : Int) - 1) = ((i - 1 : Nat) : Int) := by rw [wrap_small (by omega) (by omega)]; omega
            rw [if_pos (by omega), hw, if_pos (by omega), if_pos (by omega), if_neg (by rw [← hl1 (by omega)]; omega)]
        · have e : (decide (last < rd out (i : Int)) && decide (rd out (i : Int) < (L.length : Int))) = false := by
            rw [Bool.eq_false_iff]; intro h; simp only [Bool.and_eq_true, decide_eq_true_eq] at h; exact c h
          rw [e, Bool.false_and]
          refine Ev.succ (G := fun _ => some 1) (fun k => ?_) (Ev.some_ _)
          rw [pylonref14_Outs.l0, if_pos (by omega), if_pos (by omega)]
          by_cases h1 : rd out (i : Int) < 0
          · rw [if_pos h1]
          rw [if_neg h1]
          by_cases h2 : rd out (i : Int) ≥ (L.length : Int)
          · rw [if_pos h2]
          rw [if_neg h2]
          by_cases hi0 : i = 0
          · have := hl2 hi0; omega
          · have hw : wrap64 ((i : Int) - 1) = ((i - 1 : Nat) : Int) := by rw [wrap_small (by omega) (by omega)]; omega
            rw [if_pos (by omega), hw, if_pos (by omega), if_pos (by omega), if_pos (by rw [← hl1 (by omega)]; omega)]
    have := key out.length 0 (by omega) (-1) (by omega) (fun h => by omega) (fun _ => rfl)
    rw [hv]; exact this
  · have hv : outsV b L out = chk b L := by rw [outsV, if_neg hc]
    rw [hv]
    exact Ev.eq (G := fun _ => some (chk b L)) (fun k => if_neg hc) (Ev.some_ _)
theorem hasR_ev (l : List Int) (x : Int) (hl : l.length ≤ 1000000) : Ev (fun k => pylonref14_Has.f k l x) (decide (x ∈ l)) := by
  have key : ∀ m i, i + m = l.length → (∀ j (hj : j < l.length), j < i → l[j] ≠ x) → Ev (fun k => pylonref14_Has.l0 k l x (i : Int)) (decide (x ∈ l)) := by
    intro m
    induction m with
    | zero =>
      intro i hi hno
      have hn : x ∉ l := by
        intro hm
        obtain ⟨j, hj, e⟩ := List.getElem_of_mem hm
        exact hno j hj (by omega) e
      refine Ev.succ (G := fun _ => some (decide (x ∈ l))) (fun k => ?_) (Ev.some_ _)
      rw [pylonref14_Has.l0, if_neg (by omega), decide_eq_false hn]
    | succ m ih =>
      intro i hi hno
      have hil : i < l.length := by omega
      by_cases he : l[i] = x
      · have hm : x ∈ l := by rw [← he]; exact List.getElem_mem hil
        refine Ev.succ (G := fun _ => some (decide (x ∈ l))) (fun k => ?_) (Ev.some_ _)
        rw [pylonref14_Has.l0, if_pos (by omega), if_pos (by omega), rd_nat l i hil, if_pos he, decide_eq_true hm]
      · refine Ev.succ (fun k => ?_) (ih (i + 1) (by omega) (fun j hj hji => ?_))
        · rw [pylonref14_Has.l0, if_pos (by omega), if_pos (by omega), rd_nat l i hil, if_neg he, wrap_small (by omega) (by omega)]; rfl
        · by_cases h : j = i
          · subst h; exact he
          · exact hno j hj (by omega)
  exact key l.length 0 (by omega) (fun j _ h => absurd h (Nat.not_lt_zero _))
/-- The numbers below n that are not in l. -/
def coN (l : List Int) (n : Nat) : List Int := ((List.range n).filter (fun (k : Nat) => !l.contains (k : Int))).map (fun (k : Nat) => (k : Int))
theorem coN_succ (l : List Int) (n : Nat) : coN l (n + 1) = if (n : Int) ∈ l then coN l n else coN l n ++ [(n : Int)] := by
  unfold coN
  rw [List.range_succ, List.filter_append, List.map_append]
  by_cases h : (n : Int) ∈ l
  · rw [if_pos h]; simp [h]
  · rw [if_neg h]; simp [h]
theorem coN_len (l : List Int) (n : Nat) : (coN l n).length ≤ n := by
  unfold coN
  rw [List.length_map]
  have := List.length_filter_le (fun (k : Nat) => !l.contains (k : Int)) (List.range n)
  rwa [List.length_range] at this
theorem inR_ev (b : Int) (L : List S37) (l : List Int) (hl : l.length ≤ 1000000) (hL : L.length ≤ 1000000) : Ev (fun k => pylonref14_In.f k b L l) (inL L l) := by
  refine Ev.upto L.length (fun k i => pylonref14_In.l0 k l (coN l i) (i : Int) b L) ?_ fun i hi h => ?_
  · refine Ev.succ (G := fun _ => some (coN l L.length)) (fun k => ?_) (Ev.some_ _)
    rw [pylonref14_In.l0, if_neg (by omega)]
  · have hc := coN_len l i
    have hs := coN_succ l i
    refine Ev.succ (G := fun k => (pylonref14_Has.f k l (i : Int)).bind fun t => (if t = true then (pylonref14_In.l0 k l (coN l i) (wrap64 ((i : Int) + 1)) b L) else (if (coN l i).length < 17592186044416 then (pylonref14_In.l0 k l (coN l i ++ [(i : Int)]) (wrap64 ((i : Int) + 1)) b L) else (none)))) (fun k => ?_) ?_
    · rw [pylonref14_In.l0, if_pos (by omega)]
    · refine Ev.bind (hasR_ev l (i : Int) hl) (Ev.eq (fun k => ?_) h)
      rw [wrap_succ (by omega)]
      by_cases hm : (i : Int) ∈ l
      · rw [decide_eq_true hm, if_pos rfl, hs, if_pos hm]
      · rw [decide_eq_false hm, if_neg (by simp), if_pos (by omega), hs, if_neg hm]
end
end Go.Proofs.Ytdpgdelimffjpaa.P

namespace Go.Proofs.Ytdpgdelimffjpaa.P
open Go.RowKit Go.Proofs.YtdpgdelimffjpaaW.PrintWords Go.Proofs.YtdpgdelimffjpaaW.PrintLast Go.Proofs.YtdpgdelimffjpaaW.PrintMore
attribute [local go_sem] max2_int min2_int max_two min_two max_three min_three max_four min_four
set_option linter.unusedVariables false
set_option linter.unusedSimpArgs false
section
/-- One line's step of the search: where one end is reached, both are. -/
def rlx (f : Nat → Bool) (e : Nat × Nat) : Nat → Bool := fun x => if ((f e.1 || f e.2) && (x == e.1 || x == e.2)) = true then true else f x
def pss (E : List (Nat × Nat)) (f : Nat → Bool) : Nat → Bool := E.foldl rlx f
def itr (E : List (Nat × Nat)) (f : Nat → Bool) : Nat → (Nat → Bool)
  | 0 => f
  | r + 1 => pss E (itr E f r)
def cntF (f : Nat → Bool) : Nat → Nat
  | 0 => 0
  | n + 1 => cntF f n + (if f n = true then 1 else 0)
theorem cntF_le (f : Nat → Bool) : ∀ n, cntF f n ≤ n
  | 0 => Nat.le_refl _
  | n + 1 => by have := cntF_le f n; rw [cntF]; split <;> omega
theorem cntF_mono {f g : Nat → Bool} (h : ∀ x, f x = true → g x = true) : ∀ n, cntF f n ≤ cntF g n
  | 0 => Nat.le_refl _
  | n + 1 => by
    have := cntF_mono h n
    rw [cntF, cntF]
    by_cases hf : f n = true
    · rw [if_pos hf, if_pos (h n hf)]; omega
    · rw [if_neg hf]; split <;> omega
theorem cntF_lt {f g : Nat → Bool} (h : ∀ x, f x = true → g x = true) {x : Nat} (hf : f x = false) (hg : g x = true) : ∀ n, x < n → cntF f n < cntF g n
  | 0, hx => by omega
  | n + 1, hx => by
    rw [cntF, cntF]
    by_cases e : x = n
    · subst e
      have := cntF_mono h x
      rw [hf, hg, if_neg (by simp), if_pos rfl]; omega
    · have := cntF_lt h hf hg n (by omega)
      by_cases hfn : f n = true
      · rw [if_pos hfn, if_pos (h n hfn)]; omega
      · rw [if_neg hfn]; split <;> omega
theorem rlx_mono {f : Nat → Bool} {e : Nat × Nat} {x : Nat} (h : f x = true) : rlx f e x = true := by unfold rlx; split <;> trivial
theorem pss_mono (E : List (Nat × Nat)) : ∀ {f : Nat → Bool} {x : Nat}, f x = true → pss E f x = true := by
  induction E with
  | nil => intro f x h; exact h
  | cons e E ih => intro f x h; exact ih (f := rlx f e) (rlx_mono h)
theorem rlx_same {f : Nat → Bool} {e : Nat × Nat} (h : f e.1 = f e.2) : rlx f e = f := by
  funext x
  unfold rlx
  split
  · rename_i hc
    rw [Bool.and_eq_true, Bool.or_eq_true, Bool.or_eq_true, beq_iff_eq, beq_iff_eq] at hc
    rcases hc with ⟨h1, h2⟩
    have h3 : f e.1 = true := by
      rcases h1 with h1 | h1
      · exact h1
      · rw [h]; exact h1
    rcases h2 with rfl | rfl
    · exact h3.symm
    · rw [← h]; exact h3.symm
  · rfl
theorem pss_same {f : Nat → Bool} : ∀ {E : List (Nat × Nat)}, (∀ e ∈ E, f e.1 = f e.2) → pss E f = f := by
  intro E
  induction E with
  | nil => intro _; rfl
  | cons e E ih =>
    intro h
    show pss E (rlx f e) = f
    rw [rlx_same (h e (List.mem_cons_self ..))]
    exact ih (fun d hd => h d (List.mem_cons_of_mem _ hd))
theorem pss_edge : ∀ {E : List (Nat × Nat)} {f : Nat → Bool} {e : Nat × Nat}, e ∈ E → (f e.1 = true ∨ f e.2 = true) → pss E f e.1 = true ∧ pss E f e.2 = true := by
  intro E
  induction E with
  | nil => intro f e h; cases h
  | cons d E ih =>
    intro f e he h
    rcases List.mem_cons.1 he with rfl | he
    · have h1 : (f e.1 || f e.2) = true := by rw [Bool.or_eq_true]; exact h
      exact ⟨pss_mono E (by unfold rlx; rw [if_pos (by rw [h1]; simp)]), pss_mono E (by unfold rlx; rw [if_pos (by rw [h1]; simp)])⟩
    · exact ih (f := rlx f d) he (h.imp rlx_mono rlx_mono)
theorem itr_stable {E : List (Nat × Nat)} {f : Nat → Bool} {N : Nat} (hE : ∀ e ∈ E, e.1 < N ∧ e.2 < N) : ∀ r, (∀ e ∈ E, itr E f r e.1 = itr E f r e.2) ∨ cntF f N + r ≤ cntF (itr E f r) N
  | 0 => Or.inr (Nat.le_refl _)
  | r + 1 => by
    rcases itr_stable (f := f) hE r with h | h
    · refine Or.inl fun e he => ?_
      show pss E (itr E f r) e.1 = pss E (itr E f r) e.2
      rw [pss_same h]; exact h e he
    · by_cases hs : ∀ e ∈ E, itr E f r e.1 = itr E f r e.2
      · refine Or.inl fun e he => ?_
        show pss E (itr E f r) e.1 = pss E (itr E f r) e.2
        rw [pss_same hs]; exact hs e he
      · refine Or.inr ?_
        obtain ⟨e, he⟩ := Classical.not_forall.1 hs
        obtain ⟨hm, hne⟩ := Classical.not_imp.1 he
        obtain ⟨b1, b2⟩ := hE e hm
        have key : ∃ x, x < N ∧ itr E f r x = false ∧ pss E (itr E f r) x = true := by
          cases h1 : itr E f r e.1 with
          | true =>
            cases h2 : itr E f r e.2 with
            | true => exact absurd (h1.trans h2.symm) hne
            | false => exact ⟨e.2, b2, h2, (pss_edge hm (Or.inl h1)).2⟩
          | false =>
            cases h2 : itr E f r e.2 with
            | true => exact ⟨e.1, b1, h1, (pss_edge hm (Or.inr h2)).1⟩
            | false => exact absurd (h1.trans h2.symm) hne
        obtain ⟨x, hx, hx1, hx2⟩ := key
        have := cntF_lt (f := itr E f r) (g := pss E (itr E f r)) (fun y hy => pss_mono E hy) hx1 hx2 N hx
        show cntF f N + (r + 1) ≤ cntF (pss E (itr E f r)) N
        omega
theorem rlx_conn {E : List (Nat × Nat)} {a : Nat} {f : Nat → Bool} {e : Nat × Nat} (he : e ∈ E) (h : ∀ x, f x = true → conn E a x) : ∀ x, rlx f e x = true → conn E a x := by
  intro x hx
  unfold rlx at hx
  split at hx
  · rename_i hc
    rw [Bool.and_eq_true, Bool.or_eq_true, Bool.or_eq_true, beq_iff_eq, beq_iff_eq] at hc
    obtain ⟨h1, h2⟩ := hc
    have h3 : conn E a e.1 ∧ conn E a e.2 := by
      rcases h1 with h1 | h1
      · exact ⟨h _ h1, (h _ h1).trans (conn_edge he)⟩
      · exact ⟨(h _ h1).trans (conn_edge he).symm, h _ h1⟩
    rcases h2 with rfl | rfl
    · exact h3.1
    · exact h3.2
  · exact h x hx
theorem fold_conn {E : List (Nat × Nat)} {a : Nat} : ∀ (D : List (Nat × Nat)) (f : Nat → Bool), (∀ e ∈ D, e ∈ E) → (∀ x, f x = true → conn E a x) → ∀ x, pss D f x = true → conn E a x := by
  intro D
  induction D with
  | nil => intro f _ h; exact h
  | cons d D ih => intro f hd h; exact ih (rlx f d) (fun e he => hd e (List.mem_cons_of_mem _ he)) (rlx_conn (hd d (List.mem_cons_self ..)) h)
theorem itr_conn {E : List (Nat × Nat)} {a : Nat} {f : Nat → Bool} (h : ∀ x, f x = true → conn E a x) : ∀ r x, itr E f r x = true → conn E a x
  | 0 => h
  | r + 1 => fold_conn E _ (fun _ he => he) (itr_conn h r)
theorem itr_mono {E : List (Nat × Nat)} {f : Nat → Bool} {x : Nat} (h : f x = true) : ∀ r, itr E f r x = true
  | 0 => h
  | r + 1 => pss_mono E (itr_mono h r)
/-- The search from bus a over the edges E ends with a's island. -/
theorem reach_conn {E : List (Nat × Nat)} {N a : Nat} (hE : ∀ e ∈ E, e.1 < N ∧ e.2 < N) (ha : a < N) (x : Nat) : itr E (fun y => y == a) N x = decide (conn E a x) := by
  have h0 : 0 < cntF (fun y => y == a) N := by
    have := cntF_lt (f := fun _ => false) (g := fun y => y == a) (fun _ h => by cases h) (x := a) rfl (by simp) N ha
    omega
  have hst : ∀ e ∈ E, itr E (fun y => y == a) N e.1 = itr E (fun y => y == a) N e.2 := by
    rcases itr_stable (f := fun y => y == a) hE N with h | h
    · exact h
    · have := cntF_le (itr E (fun y => y == a) N) N; omega
  rw [Bool.eq_iff_iff, decide_eq_true_iff]
  constructor
  · exact itr_conn (fun y hy => by rw [beq_iff_eq] at hy; rw [hy]; exact conn_refl E a) N x
  · intro h
    have := lab_const (itr E (fun y => y == a) N) hst h
    rw [← this]; exact itr_mono (by simp) N
end
end Go.Proofs.Ytdpgdelimffjpaa.P

namespace Go.Proofs.Ytdpgdelimffjpaa.P
open Go.RowKit Go.Proofs.YtdpgdelimffjpaaW.PrintWords Go.Proofs.YtdpgdelimffjpaaW.PrintLast Go.Proofs.YtdpgdelimffjpaaW.PrintMore
attribute [local go_sem] max2_int min2_int max_two min_two max_three min_three max_four min_four   -- for this text's walks alone
set_option linter.unusedVariables false
set_option linter.unusedSimpArgs false

/-! ### island_Connected: function 33 -/
def island_Connected.f (a0_0 : Int) (l0_1 : List (S37)) (l1 : List Int) (a2 : Int) (a3 : Int) : Option (Bool × Int) := (island_stands.f a0_0 l0_1 l1).bind fun bt147 => (if bt147.2 = 0 then (if a2 < 0 then (some (false, 1)) else (if a2 ≥ (bt147.1.length : Int) then (some (false, 1)) else (if a3 < 0 then (some (false, 1)) else (if a3 ≥ (bt147.1.length : Int) then (some (false, 1)) else (if 0 ≤ a2 then (if a2 < (bt147.1.length : Int) then (if 0 ≤ a3 then (if a3 < (bt147.1.length : Int) then (some (((rd bt147.1 a2) == (rd bt147.1 a3)), 0)) else (none)) else (none)) else (none)) else (none)))))) else (some (false, bt147.2)))
end Go.Proofs.Ytdpgdelimffjpaa.P

namespace Go.Proofs.Ytdpgdelimffjpaa.P
open Go.RowKit Go.Proofs.YtdpgdelimffjpaaW.PrintWords Go.Proofs.YtdpgdelimffjpaaW.PrintLast Go.Proofs.YtdpgdelimffjpaaW.PrintMore
attribute [local go_sem] max2_int min2_int max_two min_two max_three min_three max_four min_four
set_option linter.unusedVariables false
set_option linter.unusedSimpArgs false
section
/-- A list of booleans told by a function. -/
def blist (N : Nat) (f : Nat → Bool) : List Bool := (List.range N).map f
theorem blist_len (N : Nat) (f : Nat → Bool) : (blist N f).length = N := by simp [blist]
theorem rd_blist {N : Nat} {f : Nat → Bool} {x : Nat} (h : x < N) : rdOf false (blist N f) (x : Int) = f x := by
  unfold rdOf blist
  rw [Int.toNat_natCast, List.getD_eq_getElem?_getD, List.getElem?_map, List.getElem?_range h]; rfl
theorem blist_congr {N : Nat} {f g : Nat → Bool} (h : ∀ x, x < N → f x = g x) : blist N f = blist N g := by
  unfold blist
  exact List.map_congr_left fun x hx => h x (List.mem_range.1 hx)
theorem blist_set {N : Nat} {f : Nat → Bool} {u v : Nat} (h : (f u || f v) = true) : ((blist N f).set u true).set v true = blist N (rlx f (u, v)) := by
  unfold blist
  apply List.ext_getElem
  · simp
  · intro i h1 h2
    rw [List.getElem_set, List.getElem_set, List.getElem_map, List.getElem_map, List.getElem_range]
    show (if v = i then true else if u = i then true else f i) = (if ((f u || f v) && (i == u || i == v)) = true then true else f i)
    rw [h, Bool.true_and]
    by_cases hv : v = i
    · subst hv; simp
    · by_cases hu : u = i
      · subst hu; simp
      · have e1 : (i == u) = false := beq_eq_false_iff_ne.2 fun e => hu e.symm
        have e2 : (i == v) = false := beq_eq_false_iff_ne.2 fun e => hv e.symm
        rw [if_neg hv, if_neg hu, e1, e2]; simp
theorem rlx_none {f : Nat → Bool} {u v : Nat} (h : (f u || f v) = false) : rlx f (u, v) = f := by
  funext x
  unfold rlx
  rw [h, Bool.false_and, if_neg (by simp)]
theorem pss_snoc (E : List (Nat × Nat)) (e : Nat × Nat) (f : Nat → Bool) : pss (E ++ [e]) f = rlx (pss E f) e := by simp [pss]
theorem blist_start {N a : Nat} : (List.replicate N false).set a true = blist N (fun y => y == a) := by
  unfold blist
  apply List.ext_getElem
  · simp
  · intro i h1 h2
    rw [List.getElem_set, List.getElem_replicate, List.getElem_map, List.getElem_range]
    by_cases h : a = i
    · subst h; simp
    · rw [if_neg h]; exact (beq_eq_false_iff_ne.2 fun e => h e.symm).symm
theorem rd_inL {L : List S37} {out : List Int} {i : Nat} (h : i < (inn L out).length) : rd (inL L out) (i : Int) = (((inn L out)[i] : Nat) : Int) := by
  rw [rd_nat _ i (by rw [inL_len]; exact h)]; simp [inL]
theorem edges_len (L : List S37) (out : List Int) : (edges L out).length = (inn L out).length := by simp [edges]
/-- The i-th line in service, with its ends. -/
theorem in_line {N : Nat} {L : List S37} {out : List Int} (h : outsV (N : Int) L out = 0) {i : Nat} (hi : i < (inn L out).length) : ∃ (k : Nat) (u v : Nat), rd (inL L out) (i : Int) = (k : Int) ∧ k < L.length ∧ (rd_T37 L (k : Int)).f0 = (u : Int) ∧ (rd_T37 L (k : Int)).f1 = (v : Int) ∧ u < N ∧ v < N ∧ u ≠ v ∧ (edges L out)[i]? = some (u, v) ∧ k = (inn L out)[i] ∧ enL L k = (u, v) := by
  have hm := mem_inn.1 (List.getElem_mem hi)
  obtain ⟨u, v, h0, h1, h2, h3, h4, h5⟩ := line_ok (outsV_ok h).1 hm.1
  refine ⟨(inn L out)[i], u, v, rd_inL hi, hm.1, h0, h1, by omega, by omega, h4, ?_, rfl, h5⟩
  rw [edges_en, List.getElem?_map, List.getElem?_eq_getElem hi]
  show some (enL L (inn L out)[i]) = _
  rw [h5]
theorem edges_lt' {N : Nat} {L : List S37} {out : List Int} (h : outsV (N : Int) L out = 0) {e : Nat × Nat} (he : e ∈ edges L out) : e.1 < N ∧ e.2 < N := by
  obtain ⟨i, hi, rfl⟩ := List.getElem_of_mem he
  obtain ⟨k, u, v, _, _, _, _, h1, h2, _, h3, _, _⟩ := in_line h (i := i) (by rw [← edges_len]; exact hi)
  rw [List.getElem?_eq_getElem hi] at h3
  rw [Option.some.inj h3]
  exact ⟨h1, h2⟩
/-- The document's search reaches the bus' island. -/
theorem reachR_ev {N : Nat} {L : List S37} {out : List Int} (h : outsV (N : Int) L out = 0) {a : Nat} (ha : a < N) : Ev (fun k => pylonref15_reach.f k (N : Int) L out (a : Int)) (blist N (fun x => decide (conn (edges L out) a x))) := by
  have hb := outs_bus h
  have hol := outsV_len h
  have hil := inL_len L out
  have hil2 := inn_len L out
  have hel := edges_len L out
  have hround : ∀ (f : Nat → Bool) (r : Int) (v : List Bool), Ev (fun k => pylonref15_reach.l0 k (blist N (pss (edges L out) f)) (inL L out) (wrap64 (r + 1)) (N : Int) L) v → Ev (fun k => pylonref15_reach.l1 k (blist N f) (inL L out) r 0 (N : Int) L) v := by
    intro f r v hv
    refine Ev.upto (inn L out).length (fun k i => pylonref15_reach.l1 k (blist N (pss ((edges L out).take i) f)) (inL L out) r (i : Int) (N : Int) L) ?_ fun i hi hnext => ?_
    · refine Ev.succ (fun k => ?_) hv
      rw [pylonref15_reach.l1, if_neg (by omega), List.take_of_length_le (by omega)]
    · obtain ⟨k, u, w, h1, h2, h3, h4, h5, h6, h7, h8, _, _⟩ := in_line h hi
      have htk : (edges L out).take (i + 1) = (edges L out).take i ++ [(u, w)] := by
        rw [List.take_add_one, h8]; rfl
      rw [htk, pss_snoc] at hnext
      generalize pss ((edges L out).take i) f = g at hnext ⊢
      have hgl := blist_len N g
      have hu : rdOf false (blist N g) (u : Int) = g u := rd_blist h5
      have hw : rdOf false (blist N g) (w : Int) = g w := rd_blist h6
      refine Ev.succ (fun k => ?_) hnext
      rw [pylonref15_reach.l1, if_pos (by omega), if_pos (by omega), h1, if_pos (by omega), if_pos (by omega), h3, h4, if_pos (by omega), if_pos (by omega), hu, hw, wrap_succ (by omega)]
      simp only [Int.toNat_natCast]
      by_cases c : g u = true
      · rw [if_pos c, if_pos (by omega), if_pos (by omega), blist_set (by rw [c]; rfl)]
      · rw [if_neg c, if_pos (by omega), if_pos (by omega)]
        by_cases c2 : g w = true
        · rw [if_pos c2, blist_set (by rw [c2]; simp)]
        · rw [if_neg c2, rlx_none (by rw [Bool.eq_false_iff.mpr c, Bool.eq_false_iff.mpr c2]; rfl)]
  have hall : Ev (fun k => pylonref15_reach.l0 k (blist N (fun y => y == a)) (inL L out) 0 (N : Int) L) (blist N (itr (edges L out) (fun y => y == a) N)) := by
    refine Ev.upto N (fun k r => pylonref15_reach.l0 k (blist N (itr (edges L out) (fun y => y == a) r)) (inL L out) (r : Int) (N : Int) L) ?_ fun r hr hnext => ?_
    · refine Ev.succ (G := fun _ => some (blist N (itr (edges L out) (fun y => y == a) N))) (fun k => ?_) (Ev.some_ _)
      rw [pylonref15_reach.l0, if_neg (by omega)]
    · refine Ev.succ (fun k => ?_) (hround (itr (edges L out) (fun y => y == a) r) (r : Int) _ (by rw [wrap_succ (by omega)]; exact hnext))
      rw [pylonref15_reach.l0, if_pos (by omega)]
  have e : blist N (fun x => decide (conn (edges L out) a x)) = blist N (itr (edges L out) (fun y => y == a) N) := blist_congr fun x hx => (reach_conn (fun e he => edges_lt' h he) ha x).symm
  rw [e]
  refine Ev.eq (G := fun k => (pylonref14_In.f k (N : Int) L out).bind fun t => pylonref15_reach.l0 k (blist N (fun y => y == a)) t 0 (N : Int) L) (fun k => ?_) (Ev.bind (inR_ev _ _ _ (by omega) (by omega)) hall)
  rw [pylonref15_reach.f, if_pos (by omega), if_pos (by omega), Option.bind_some, if_pos (by omega), if_pos (by simp; omega)]
  simp only [Int.toNat_natCast]
  rw [blist_start]
/-- The place of a reference bus among them. -/
theorem refs_prefix (f : Nat → Nat) (n : Nat) : ∀ m, ∃ more, refsOf f (n + m) = refsOf f n ++ more
  | 0 => ⟨[], by simp⟩
  | m + 1 => by
    obtain ⟨more, h⟩ := refs_prefix f n m
    rw [← Nat.add_assoc, refsOf_succ, h]
    by_cases hf : f (n + m) = n + m
    · rw [if_pos hf]; exact ⟨more ++ [((n + m : Nat) : Int)], by rw [List.append_assoc]⟩
    · rw [if_neg hf]; exact ⟨more, rfl⟩
theorem refs_at {f : Nat → Nat} {N b : Nat} (hb : b < N) (h : f b = b) : (refsOf f N)[(refsOf f b).length]? = some (b : Int) := by
  obtain ⟨more, hm⟩ := refs_prefix f (b + 1) (N - (b + 1))
  rw [show b + 1 + (N - (b + 1)) = N by omega, refsOf_succ, if_pos h] at hm
  rw [hm, List.append_assoc, List.getElem?_append_right (Nat.le_refl _), Nat.sub_self]; rfl
theorem refs_mem' {f : Nat → Nat} (hf : Lb f) {N b : Nat} (hb : b < N) : ((f b : Nat) : Int) ∈ refsOf f N := by
  unfold refsOf
  refine List.mem_map.2 ⟨f b, List.mem_filter.2 ⟨List.mem_range.2 (by have := (hf b).1; omega), ?_⟩, rfl⟩
  simpa using (hf b).2
theorem refs_pair (f : Nat → Nat) (N : Nat) : (refsOf f N).Pairwise (· < ·) := by
  unfold refsOf
  rw [List.pairwise_map]
  refine (List.Pairwise.filter _ List.pairwise_lt_range).imp ?_
  intro a b h; omega
theorem isl_ref {f : Nat → Nat} (hf : Lb f) {N b : Nat} (hb : b < N) (h : f b = b) : isl f N b = (((refsOf f b).length : Nat) : Int) := by
  have hm := refs_mem' hf hb
  rw [isl, idx, if_pos hm, h]
  rw [h] at hm
  have h1 := refs_at hb h
  have h2 := List.getElem_idxOf (List.idxOf_lt_length_iff.2 hm)
  obtain ⟨h3, h4⟩ := List.getElem?_eq_some_iff.1 h1
  have hp := List.pairwise_iff_getElem.1 (refs_pair f N)
  have hlt := List.idxOf_lt_length_iff.2 hm
  rcases Nat.lt_trichotomy ((refsOf f N).idxOf (b : Int)) (refsOf f b).length with hc | hc | hc
  · have := hp _ _ hlt h3 hc; omega
  · omega
  · have := hp _ _ h3 hlt hc; omega
theorem isl_lab {f : Nat → Nat} (hf : Lb f) (N b : Nat) : isl f N (f b) = isl f N b := by
  unfold isl; rw [(hf b).2]
def ofPart (f : Nat → Nat) (N b : Nat) : List Int := (List.range N).map (fun x => if x < b then isl f N x else 0)
theorem ofPart_len (f : Nat → Nat) (N b : Nat) : (ofPart f N b).length = N := by simp [ofPart]
theorem ofPart_set (f : Nat → Nat) (N b : Nat) : (ofPart f N b).set b (isl f N b) = ofPart f N (b + 1) := by
  unfold ofPart
  apply List.ext_getElem
  · simp
  · intro i h1 h2
    rw [List.getElem_set, List.getElem_map, List.getElem_map, List.getElem_range]
    by_cases h : b = i
    · subst h; rw [if_pos rfl, if_pos (by omega)]
    · rw [if_neg h]
      by_cases h3 : i < b
      · rw [if_pos h3, if_pos (by omega)]
      · rw [if_neg h3, if_neg (by omega)]
theorem ofPart_all (f : Nat → Nat) (N : Nat) : ofPart f N N = islOf f N N := by
  unfold ofPart islOf
  exact List.map_congr_left fun x hx => if_pos (List.mem_range.1 hx)
theorem ofPart_zero (f : Nat → Nat) (N : Nat) : List.replicate N (0 : Int) = ofPart f N 0 := by
  unfold ofPart
  apply List.ext_getElem
  · simp
  · intro i h1 h2; simp
theorem rd_ofPart {f : Nat → Nat} {N b x : Nat} (hx : x < N) (hb : x < b) : rd (ofPart f N b) (x : Int) = isl f N x := by
  rw [rd_nat _ x (by rw [ofPart_len]; exact hx)]; simp [ofPart, hb]
theorem ofR_ok {b : Int} {L : List S37} {out : List Int} (h : outsV b L out = 0) : Ev (fun k => pylonref15_Of.f k b L out) (islOf (lab (edges L out)) b.toNat b.toNat, 0) := by
  have hb := outs_bus h
  have hol := outsV_len h
  obtain ⟨N, rfl⟩ := Int.eq_ofNat_of_zero_le (show 0 ≤ b by omega)
  rw [Int.toNat_natCast]
  have hf := lab_lb (edges L out)
  have hconn : ∀ x y, conn (edges L out) x y ↔ lab (edges L out) x = lab (edges L out) y := fun x y => Iff.rfl
  have hreach := fun a (ha : a < N) => reachR_ev h ha
  obtain ⟨f, hfe⟩ : ∃ f, f = lab (edges L out) := ⟨_, rfl⟩
  have hloop : Ev (fun k => pylonref15_Of.l0 k out (List.replicate N (0 : Int)) 0 0 (N : Int) L) (islOf f N N, 0) := by
    rw [ofPart_zero f N]
    refine Ev.upto N (fun k i => pylonref15_Of.l0 k out (ofPart f N i) (((refsOf f i).length : Nat) : Int) (i : Int) (N : Int) L) ?_ fun i hi hnext => ?_
    · refine Ev.succ (G := fun _ => some (ofPart f N N, 0)) (fun k => ?_) (by rw [ofPart_all]; exact Ev.some_ _)
      rw [pylonref15_Of.l0, if_neg (by omega)]
    · refine Ev.succ (G := fun k => (pylonref15_reach.f k (N : Int) L out (i : Int)).bind fun t => pylonref15_Of.l1 k out (ofPart f N i) (((refsOf f i).length : Nat) : Int) (i : Int) t 0 (N : Int) L) (fun k => by rw [pylonref15_Of.l0, if_pos (by omega)]) (Ev.bind (hreach i hi) ?_)
      rw [← hfe] at hf hconn
      have hbl := blist_len N (fun x => decide (conn (edges L out) i x))
      have hrb : ∀ x, x < N → rdOf false (blist N (fun x => decide (conn (edges L out) i x))) (x : Int) = decide (f i = f x) := by
        intro x hx
        rw [rd_blist hx, decide_eq_decide, hconn, hfe]
      have hopl := ofPart_len f N i
      have hfi := (hf i).1
      have hrl := refsOf_len f i
      have hrs := refsOf_succ f i
      refine Ev.upto (f i) (fun k j => pylonref15_Of.l1 k out (ofPart f N i) (((refsOf f i).length : Nat) : Int) (i : Int) (blist N (fun x => decide (conn (edges L out) i x))) (j : Int) (N : Int) L) ?_ fun j hj hnext2 => ?_
      · refine Ev.succ (fun k => ?_) hnext
        rw [pylonref15_Of.l1, if_pos (by omega), if_pos (by omega), hrb _ (by omega), decide_eq_true (hf i).2.symm, if_pos rfl, wrap_succ (i := i) (by omega)]
        by_cases c : f i = i
        · rw [if_pos (by omega), if_pos (by omega), if_pos (by omega), Int.toNat_natCast, wrap_succ (by omega)]
          have e1 := isl_ref hf hi c
          rw [hrs, if_pos c, ← ofPart_set, e1, List.length_append, List.length_singleton]
        · have e1 : rd (ofPart f N i) ((f i : Nat) : Int) = isl f N i := by rw [rd_ofPart (by omega) (by omega), isl_lab hf]
          rw [if_neg (by omega), if_pos (by omega), if_pos (by omega), if_pos (by omega), Int.toNat_natCast, e1, ofPart_set, hrs, if_neg c]
      · refine Ev.succ (fun k => ?_) hnext2
        have hne : ¬ f i = f j := fun e => by have := (hf j).1; omega
        rw [pylonref15_Of.l1, if_pos (by omega), if_pos (by omega), hrb _ (by omega), decide_eq_false hne, if_neg (by simp), wrap_succ (by omega)]
  rw [← hfe]
  refine Ev.eq (G := fun k => (pylonref14_Outs.f k (N : Int) L out).bind fun t => (if t = 0 then (if 0 ≤ (N : Int) then (if (N : Int).toNat ≤ 35184372088832 then (pylonref15_Of.l0 k out (List.replicate (N : Int).toNat 0) 0 0 (N : Int) L) else (none)) else (none)) else (some (([] : List Int), t)))) (fun k => rfl) (Ev.bind (outsR_ev _ _ _ (by omega)) ?_)
  rw [h]
  refine Ev.eq (fun k => ?_) hloop
  rw [if_pos rfl, if_pos (by omega), if_pos (by omega), Int.toNat_natCast]
theorem ofR_bad {b : Int} {L : List S37} {out : List Int} (ho : out.length ≤ 1000000) (h : outsV b L out ≠ 0) : Ev (fun k => pylonref15_Of.f k b L out) ([], outsV b L out) :=
  Ev.bind (outsR_ev _ _ _ ho) (Ev.eq (G := fun _ => some ([], outsV b L out)) (fun k => if_neg h) (Ev.some_ _))
end
end Go.Proofs.Ytdpgdelimffjpaa.P

namespace Go.Proofs.Ytdpgdelimffjpaa.P
open Go.RowKit Go.Proofs.YtdpgdelimffjpaaW.PrintWords Go.Proofs.YtdpgdelimffjpaaW.PrintLast Go.Proofs.YtdpgdelimffjpaaW.PrintMore
attribute [local go_sem] max2_int min2_int max_two min_two max_three min_three max_four min_four
set_option linter.unusedVariables false
set_option linter.unusedSimpArgs false
section
/-- The number of a bus' island. -/
def isN (f : Nat → Nat) (N : Nat) (b : Nat) : Nat := (refsOf f N).idxOf ((f b : Nat) : Int)
/-- The buses of island i. -/
def rowN (f : Nat → Nat) (N n i : Nat) : List Nat := (List.range n).filter (fun b => isN f N b == i)
def rowOf (f : Nat → Nat) (N n i : Nat) : List Int := (rowN f N n i).map (fun (b : Nat) => (b : Int))
section
variable {f : Nat → Nat} {N : Nat}
theorem mem_refs {x : Int} : x ∈ refsOf f N ↔ ∃ r : Nat, r < N ∧ f r = r ∧ x = (r : Int) := by
  unfold refsOf
  rw [List.mem_map]
  constructor
  · rintro ⟨r, hr, rfl⟩
    obtain ⟨h1, h2⟩ := List.mem_filter.1 hr
    exact ⟨r, List.mem_range.1 h1, by simpa using h2, rfl⟩
  · rintro ⟨r, h1, h2, rfl⟩
    exact ⟨r, List.mem_filter.2 ⟨List.mem_range.2 h1, by simpa using h2⟩, rfl⟩
theorem lab_mem_refs (hf : Lb f) {b : Nat} (hb : b < N) : ((f b : Nat) : Int) ∈ refsOf f N := mem_refs.2 ⟨f b, by have := (hf b).1; omega, (hf b).2, rfl⟩
theorem isl_isN (hf : Lb f) {b : Nat} (hb : b < N) : isl f N b = ((isN f N b : Nat) : Int) := by
  unfold isl idx isN
  rw [if_pos (lab_mem_refs hf hb)]
theorem isN_lt (hf : Lb f) {b : Nat} (hb : b < N) : isN f N b < (refsOf f N).length := List.idxOf_lt_length_iff.2 (lab_mem_refs hf hb)
theorem refs_sorted (f : Nat → Nat) (N : Nat) : (refsOf f N).Pairwise (· < ·) := by
  unfold refsOf
  rw [List.pairwise_map]
  refine (List.Pairwise.filter _ List.pairwise_lt_range).imp ?_
  intro a b h; omega
theorem isN_iff (hf : Lb f) {b i : Nat} (hb : b < N) (hi : i < (refsOf f N).length) : isN f N b = i ↔ (refsOf f N)[i] = ((f b : Nat) : Int) := by
  constructor
  · intro h; subst h; exact List.getElem_idxOf _
  · intro h
    have h1 := List.getElem_idxOf (isN_lt hf hb)
    have h2 : (refsOf f N)[(refsOf f N).idxOf ((f b : Nat) : Int)]'(isN_lt hf hb) = (refsOf f N)[i] := by rw [h1, h]
    rcases Nat.lt_trichotomy (isN f N b) i with hlt | he | hgt
    · have := List.pairwise_iff_getElem.1 (refs_sorted f N) _ _ (isN_lt hf hb) hi hlt
      unfold isN at this; omega
    · exact he
    · have := List.pairwise_iff_getElem.1 (refs_sorted f N) _ _ hi (isN_lt hf hb) hgt
      unfold isN at this; omega
theorem mem_rowN {n i b : Nat} : b ∈ rowN f N n i ↔ b < n ∧ isN f N b = i := by
  unfold rowN; rw [List.mem_filter, List.mem_range]; simp
theorem rowN_sorted (n i : Nat) : (rowN f N n i).Pairwise (· < ·) := List.Pairwise.filter _ List.pairwise_lt_range
/-- The first bus of a row is the island's reference bus. -/
theorem row_head (hf : Lb f) {i : Nat} (hi : i < (refsOf f N).length) : ∃ r rest, rowN f N N i = r :: rest ∧ (refsOf f N)[i] = (r : Int) := by
  obtain ⟨r, hr, hfr, he⟩ := mem_refs.1 (List.getElem_mem hi)
  have hrow : r ∈ rowN f N N i := mem_rowN.2 ⟨hr, (isN_iff hf hr hi).2 (by rw [he, hfr])⟩
  cases hrw : rowN f N N i with
  | nil => rw [hrw] at hrow; cases hrow
  | cons s rest =>
    refine ⟨s, rest, rfl, ?_⟩
    have hs : s ∈ rowN f N N i := by rw [hrw]; exact List.mem_cons_self ..
    obtain ⟨hsN, hsi⟩ := mem_rowN.1 hs
    have h1 := (isN_iff hf hsN hi).1 hsi
    have h2 := (hf s).1
    have h3 : s ≤ r := by
      rw [hrw] at hrow
      rcases List.mem_cons.1 hrow with e | hm
      · omega
      · have hp := rowN_sorted (f := f) (N := N) N i
        rw [hrw] at hp
        exact Nat.le_of_lt ((List.pairwise_cons.1 hp).1 r hm)
    omega
def sumN (F : Nat → Nat) : Nat → Nat
  | 0 => 0
  | n + 1 => sumN F n + F n
end
end
section
/-- The rows of buses, island by island. -/
def rowsOf (f : Nat → Nat) (N n : Nat) : List (List Int) := (List.range (refsOf f N).length).map (rowOf f N n)
theorem rowsOf_len (f : Nat → Nat) (N n : Nat) : (rowsOf f N n).length = (refsOf f N).length := by simp [rowsOf]
theorem rd_rowsOf {f : Nat → Nat} {N n i : Nat} (hi : i < (refsOf f N).length) : rd_L1 (rowsOf f N n) (i : Int) = rowOf f N n i := by
  simp [rd_L1, rowsOf, List.getD_eq_getElem?_getD, hi]
theorem rowOf_succ (f : Nat → Nat) (N n i : Nat) : rowOf f N (n + 1) i = rowOf f N n i ++ (if isN f N n = i then [(n : Int)] else []) := by
  unfold rowOf rowN
  rw [List.range_succ, List.filter_append, List.map_append]
  by_cases h : isN f N n = i <;> simp [h]
theorem rowOf_len_le (f : Nat → Nat) (N n i : Nat) : (rowOf f N n i).length ≤ n := by
  unfold rowOf rowN
  rw [List.length_map]
  have := List.length_filter_le (fun b => isN f N b == i) (List.range n)
  rwa [List.length_range] at this
theorem rowsOf_set {f : Nat → Nat} {N n : Nat} : (rowsOf f N n).set (isN f N n) (rowOf f N n (isN f N n) ++ [(n : Int)]) = rowsOf f N (n + 1) := by
  unfold rowsOf
  apply List.ext_getElem
  · simp
  · intro i h1 h2
    rw [List.getElem_set, List.getElem_map, List.getElem_map, List.getElem_range, rowOf_succ]
    by_cases h : isN f N n = i
    · rw [if_pos h, if_pos h, h]
    · rw [if_neg h, if_neg h, List.append_nil]
theorem foldl_max (l : List Int) : ∀ (z m : Int), z ≤ m → (∀ x ∈ l, x ≤ m) → (m = z ∨ m ∈ l) → l.foldl max z = m := by
  induction l with
  | nil => intro z m _ _ h; rcases h with h | h
           · exact h.symm
           · cases h
  | cons x l ih =>
    intro z m hz hl hm
    have hx := hl x (List.mem_cons_self ..)
    refine ih (max z x) m (by omega) (fun y hy => hl y (List.mem_cons_of_mem _ hy)) ?_
    rcases hm with h | h
    · exact Or.inl (by omega)
    · rcases List.mem_cons.1 h with h | h
      · exact Or.inl (by omega)
      · exact Or.inr h
theorem max_isl {f : Nat → Nat} (hf : Lb f) {N : Nat} (hN : 0 < N) : slices_Max_int_int.f (islOf f N N) = some ((((refsOf f N).length - 1 : Nat)) : Int) ∧ 0 < (refsOf f N).length := by
  have hl : (islOf f N N).length = N := by simp [islOf]
  have hr : ∀ b, b < N → rd (islOf f N N) (b : Int) = ((isN f N b : Nat) : Int) := by
    intro b hb; rw [rd_nat _ b (by rw [hl]; exact hb)]; simp [islOf, isl_isN hf hb]
  have h0 : 0 < (refsOf f N).length := Nat.lt_of_le_of_lt (Nat.zero_le _) (isN_lt hf hN)
  refine ⟨?_, h0⟩
  rw [slices_Max_int_int.f, if_neg (by omega)]
  congr 1
  have hmem : ∀ x ∈ islOf f N N, x ≤ (((refsOf f N).length - 1 : Nat) : Int) := by
    intro x hx
    unfold islOf at hx
    obtain ⟨b, hb, rfl⟩ := List.mem_map.1 hx
    have hb' := List.mem_range.1 hb
    have := isN_lt hf hb'
    rw [isl_isN hf hb']; omega
  refine foldl_max _ _ _ ?_ hmem ?_
  · have := isN_lt hf hN
    have h1 := hr 0 hN
    rw [show ((0 : Nat) : Int) = 0 from rfl] at h1
    rw [h1]; omega
  · right
    obtain ⟨r, rest, hrow, _⟩ := row_head (N := N) hf (i := (refsOf f N).length - 1) (by omega)
    obtain ⟨hrN, hri⟩ := mem_rowN.1 (show r ∈ rowN f N N ((refsOf f N).length - 1) by rw [hrow]; exact List.mem_cons_self ..)
    unfold islOf
    refine List.mem_map.2 ⟨r, List.mem_range.2 hrN, ?_⟩
    rw [isl_isN hf hrN, hri]
theorem members_ok {b : Int} {L : List S37} {out : List Int} (h : outsV b L out = 0) : Ev (fun k => island_Members.f k b L out) (rowsOf (lab (edges L out)) b.toNat b.toNat, 0) := by
  have hb := outs_bus h
  obtain ⟨N, rfl⟩ := Int.eq_ofNat_of_zero_le (show 0 ≤ b by omega)
  rw [Int.toNat_natCast]
  have hof := of_ok h
  rw [Int.toNat_natCast] at hof
  have hf := lab_lb (edges L out)
  generalize lab (edges L out) = f at hof hf ⊢
  have hl : (islOf f N N).length = N := by simp [islOf]
  have hr : ∀ i, i < N → rd (islOf f N N) (i : Int) = ((isN f N i : Nat) : Int) := by
    intro i hi; rw [rd_nat _ i (by rw [hl]; exact hi)]; simp [islOf, isl_isN hf hi]
  have hR := refsOf_len f N
  obtain ⟨hmax, hpos⟩ := max_isl hf (show 0 < N by omega)
  have key : ∀ m i, i + m = N → Ev (fun k => island_Members.l0 k (rowsOf f N i) (islOf f N N) (N : Int) (i : Int)) (rowsOf f N N, 0) := by
    intro m
    induction m with
    | zero =>
      intro i hi
      have : i = N := by omega
      subst this
      refine Ev.succ (G := fun _ => some (rowsOf f i i, 0)) (fun k => ?_) (Ev.some_ _)
      rw [island_Members.l0, if_neg (by omega)]
    | succ m ih =>
      intro i hi
      have hiN : i < N := by omega
      have hlt := isN_lt hf hiN
      have hle := rowOf_len_le f N i (isN f N i)
      refine Ev.succ (G := fun k => island_Members.l0 k (rowsOf f N (i + 1)) (islOf f N N) (N : Int) ((i + 1 : Nat) : Int)) (fun k => ?_) (ih (i + 1) (by omega))
      rw [island_Members.l0, if_pos (by omega), if_pos (by omega), if_pos (by rw [hl]; omega), hr i hiN, if_pos (by omega), if_pos (by rw [rowsOf_len]; omega), rd_rowsOf hlt, if_pos (by omega), Int.toNat_natCast, rowsOf_set, wrap_small (by omega) (by omega)]; rfl
  refine Ev.bind hof ?_
  refine Ev.eq (fun k => ?_) (key N 0 (by omega))
  have hw : wrap64 ((((refsOf f N).length - 1 : Nat) : Int) + 1) = (((refsOf f N).length : Nat) : Int) := by rw [wrap_small (by omega) (by omega)]; omega
  have hz : List.replicate (refsOf f N).length ([] : List Int) = rowsOf f N 0 := by
    unfold rowsOf
    apply List.ext_getElem
    · simp
    · intro i h1 h2; simp [rowOf, rowN]
  simp only [if_true]
  rw [hmax, Option.bind_some, hw, if_pos (by omega), if_pos (by omega), Int.toNat_natCast, hz, hl]; rfl
theorem count_ok {b : Int} {L : List S37} {out : List Int} (h : outsV b L out = 0) : Ev (fun k => island_Count.f k b L out) (((refsOf (lab (edges L out)) b.toNat).length : Int), 0) :=
  Ev.bind (refs_ok h) (Ev.some_ _)
theorem count_bad {b : Int} {L : List S37} {out : List Int} (h : outsV b L out ≠ 0) : Ev (fun k => island_Count.f k b L out) (0, outsV b L out) :=
  Ev.bind (refs_bad h) (Ev.some_ _)
theorem members_bad {b : Int} {L : List S37} {out : List Int} (h : outsV b L out ≠ 0) : Ev (fun k => island_Members.f k b L out) ([], outsV b L out) := by
  refine Ev.bind (of_bad h) ?_
  refine Ev.eq (G := fun _ => some ([], outsV b L out)) (fun k => ?_) (Ev.some_ _)
  simp only [if_neg h]
end
end Go.Proofs.Ytdpgdelimffjpaa.P

namespace Go.Proofs.Ytdpgdelimffjpaa.P
open Go.RowKit Go.Proofs.YtdpgdelimffjpaaW.PrintWords Go.Proofs.YtdpgdelimffjpaaW.PrintLast Go.Proofs.YtdpgdelimffjpaaW.PrintMore
attribute [local go_sem] max2_int min2_int max_two min_two max_three min_three max_four min_four
set_option linter.unusedVariables false
set_option linter.unusedSimpArgs false
section
theorem islOf_len' (f : Nat → Nat) (N n : Nat) : (islOf f N n).length = n := by simp [islOf]
theorem rd_islOf' (f : Nat → Nat) (N n x : Nat) (hx : x < n) : rd (islOf f N n) (x : Int) = isl f N x := by
  rw [rd_nat _ x (by rw [islOf_len']; exact hx)]; simp [islOf]
theorem isl_ref_iff {f : Nat → Nat} (hf : Lb f) {N b : Nat} (hb : b < N) : isl f N b = (((refsOf f b).length : Nat) : Int) ↔ f b = b := by
  constructor
  · intro h
    by_cases c : f b = b
    · exact c
    · have h1 := (hf b).1
      rw [← isl_lab hf N b, isl_ref hf (show f b < N by omega) (hf b).2] at h
      obtain ⟨more, hm⟩ := refs_prefix f (f b + 1) (b - (f b + 1))
      rw [show f b + 1 + (b - (f b + 1)) = b by omega, refsOf_succ, if_pos (hf b).2] at hm
      have := congrArg List.length hm
      rw [List.length_append, List.length_append, List.length_singleton] at this
      omega
  · exact isl_ref hf hb
theorem refsR_ok {b : Int} {L : List S37} {out : List Int} (h : outsV b L out = 0) : Ev (fun k => pylonref15_Refs.f k b L out) (refsOf (lab (edges L out)) b.toNat, 0) := by
  have hb := outs_bus h
  have hof := ofR_ok h
  obtain ⟨N, rfl⟩ := Int.eq_ofNat_of_zero_le (show 0 ≤ b by omega)
  rw [Int.toNat_natCast] at hof ⊢
  have hf := lab_lb (edges L out)
  generalize lab (edges L out) = f at hof hf ⊢
  refine Ev.bind hof ?_
  have hl := islOf_len' f N N
  refine Ev.upto N (fun k i => pylonref15_Refs.l0 k (islOf f N N) 0 (refsOf f i) (i : Int)) ?_ fun i hi hnext => ?_
  · refine Ev.succ (G := fun _ => some (refsOf f N, 0)) (fun k => ?_) (Ev.some_ _)
    rw [pylonref15_Refs.l0, if_neg (by omega)]
  · have hrl := refsOf_len f i
    have hrs := refsOf_succ f i
    have hiff := isl_ref_iff hf hi
    refine Ev.succ (fun k => ?_) hnext
    rw [pylonref15_Refs.l0, if_pos (by omega), if_pos (by omega), rd_islOf' _ _ _ _ hi, wrap_succ (by omega)]
    by_cases c : f i = i
    · rw [if_pos (hiff.2 c), if_pos (by omega), hrs, if_pos c]
    · rw [if_neg (fun e => c (hiff.1 e)), hrs, if_neg c]
theorem refsR_bad {b : Int} {L : List S37} {out : List Int} (ho : out.length ≤ 1000000) (h : outsV b L out ≠ 0) : Ev (fun k => pylonref15_Refs.f k b L out) ([], outsV b L out) := by
  refine Ev.bind (ofR_bad ho h) (Ev.succ (G := fun _ => some ([], outsV b L out)) (fun k => ?_) (Ev.some_ _))
  rw [pylonref15_Refs.l0, if_neg (by simp)]
theorem membersR_ok {b : Int} {L : List S37} {out : List Int} (h : outsV b L out = 0) : Ev (fun k => pylonref15_Members.f k b L out) (rowsOf (lab (edges L out)) b.toNat b.toNat, 0) := by
  have hb := outs_bus h
  have hof := ofR_ok h
  have hrf := refsR_ok h
  obtain ⟨N, rfl⟩ := Int.eq_ofNat_of_zero_le (show 0 ≤ b by omega)
  rw [Int.toNat_natCast] at hof hrf ⊢
  have hf := lab_lb (edges L out)
  generalize lab (edges L out) = f at hof hrf hf ⊢
  refine Ev.bind hof (Ev.bind hrf ?_)
  have hl := islOf_len' f N N
  have hR := refsOf_len f N
  refine Ev.upto (refsOf f N).length (fun k i => pylonref15_Members.l0 k (islOf f N N) 0 (refsOf f N) ((List.range i).map (rowOf f N N)) (i : Int)) ?_ fun i hi hnext => ?_
  · refine Ev.succ (G := fun _ => some (rowsOf f N N, 0)) (fun k => ?_) (Ev.some_ _)
    rw [pylonref15_Members.l0, if_neg (by omega)]; rfl
  · refine Ev.succ (G := fun k => pylonref15_Members.l1 k (islOf f N N) 0 (refsOf f N) ((List.range i).map (rowOf f N N)) (i : Int) ([] : List Int) 0) (fun k => by rw [pylonref15_Members.l0, if_pos (by omega)]) ?_
    refine Ev.upto N (fun k j => pylonref15_Members.l1 k (islOf f N N) 0 (refsOf f N) ((List.range i).map (rowOf f N N)) (i : Int) (rowOf f N j i) (j : Int)) ?_ fun j hj hnext2 => ?_
    · refine Ev.succ (fun k => ?_) hnext
      rw [pylonref15_Members.l1, if_neg (by omega), if_pos (by rw [List.length_map, List.length_range]; omega), wrap_succ (by omega), List.range_succ, List.map_append]; rfl
    · have hrl := rowOf_len_le f N j i
      have hrs := rowOf_succ f N j i
      have hlt := isN_lt hf hj
      refine Ev.succ (fun k => ?_) hnext2
      rw [pylonref15_Members.l1, if_pos (by omega), if_pos (by omega), rd_islOf' _ _ _ _ hj, isl_isN hf hj, wrap_succ (by omega)]
      by_cases c : isN f N j = i
      · rw [if_pos (by omega), if_pos (by omega), hrs, if_pos c]
      · rw [if_neg (by omega), hrs, if_neg c, List.append_nil]
theorem membersR_bad {b : Int} {L : List S37} {out : List Int} (ho : out.length ≤ 1000000) (h : outsV b L out ≠ 0) : Ev (fun k => pylonref15_Members.f k b L out) ([], outsV b L out) := by
  refine Ev.bind (ofR_bad ho h) (Ev.bind (refsR_bad ho h) (Ev.succ (G := fun _ => some ([], outsV b L out)) (fun k => ?_) (Ev.some_ _)))
  rw [pylonref15_Members.l0, if_neg (by simp)]
theorem rows_ev (a b : List (List Int)) (ha : a.length ≤ 1000000) (hr : ∀ x ∈ a, x.length ≤ 1000000) : Ev (fun k => pylonref15_Rows.f k a b) (decide (a = b)) := by
  by_cases hl : a.length = b.length
  · have hrd : ∀ (c : List (List Int)) j (h : j < c.length), rd_L1 c (j : Int) = c[j] := fun c j h => by simp [rd_L1, List.getD_eq_getElem?_getD, h]
    have key : ∀ m i, i + m = a.length → (∀ j, (h : j < a.length) → j < i → a[j] = b[j]'(by omega)) → Ev (fun k => pylonref15_Rows.l0 k a b (i : Int)) (decide (a = b)) := by
      intro m
      induction m with
      | zero =>
        intro i hi hh
        have e : a = b := List.ext_getElem hl fun j h1 h2 => hh j h1 (by omega)
        refine Ev.succ (G := fun _ => some (decide (a = b))) (fun k => ?_) (Ev.some_ _)
        rw [pylonref15_Rows.l0, if_neg (by omega), decide_eq_true e]
      | succ m ih =>
        intro i hi hh
        have hia : i < a.length := by omega
        have hib : i < b.length := by omega
        refine Ev.succ (G := fun k => (pylonref14_Ints.f k a[i] b[i]).bind fun t => (if t = true then (pylonref15_Rows.l0 k a b ((i + 1 : Nat) : Int)) else (some false))) (fun k => ?_) (Ev.bind (ints_ev a[i] b[i] (hr _ (List.getElem_mem hia))) ?_)
        · rw [pylonref15_Rows.l0, if_pos (by omega), if_pos (by omega), if_pos (by omega), hrd a i hia, hrd b i hib, wrap_succ (by omega)]
        · by_cases he : a[i] = b[i]
          · rw [decide_eq_true he]
            refine Ev.eq (fun k => if_pos rfl) (ih (i + 1) (by omega) fun j h hj => ?_)
            by_cases c : j = i
            · subst c; exact he
            · exact hh j h (by omega)
          · have hne : ¬ a = b := fun e => by subst e; exact he rfl
            rw [decide_eq_false he, decide_eq_false hne]
            exact Ev.eq (G := fun _ => some false) (fun k => if_neg (by simp)) (Ev.some_ _)
    refine Ev.eq (fun k => ?_) (key a.length 0 (by omega) (fun j _ hj => absurd hj (Nat.not_lt_zero _)))
    rw [pylonref15_Rows.f, if_pos (by omega)]; rfl
  · have hne : ¬ a = b := fun e => hl (by rw [e])
    refine Ev.eq (G := fun _ => some (decide (a = b))) (fun k => ?_) (Ev.some_ _)
    rw [pylonref15_Rows.f, if_neg (by omega), decide_eq_false hne]
/-- Same of a network and itself. -/
theorem same_self (b : Int) (L : List S37) (hL : L.length ≤ 1000000) : Ev (fun k => pylonref14_Same.f k b L b L) true := by
  refine Ev.eq (G := fun k => pylonref14_Same.j0 k false b L b L) (fun k => ?_) (Ev.succ (G := fun k => pylonref14_Same.l0 k 0 b L b L) (fun k => ?_) ?_)
  · rw [pylonref14_Same.f, if_pos rfl]; simp
  · rw [pylonref14_Same.j0, if_neg (by simp)]
  · refine Ev.upto L.length (fun k i => pylonref14_Same.l0 k (i : Int) b L b L) ?_ fun i hi hnext => ?_
    · refine Ev.succ (G := fun _ => some true) (fun k => ?_) (Ev.some_ _)
      rw [pylonref14_Same.l0, if_neg (by omega)]
    · refine Ev.succ (fun k => ?_) hnext
      rw [pylonref14_Same.l0, if_pos (by omega), if_pos (by omega), if_pos (by omega), if_neg (by simp), wrap_succ (by omega)]
end
end Go.Proofs.Ytdpgdelimffjpaa.P

namespace Go.Proofs.Ytdpgdelimffjpaa.P
open Go.RowKit Go.Proofs.YtdpgdelimffjpaaW.PrintWords Go.Proofs.YtdpgdelimffjpaaW.PrintLast Go.Proofs.YtdpgdelimffjpaaW.PrintMore
attribute [local go_sem] max2_int min2_int max_two min_two max_three min_three max_four min_four
set_option linter.unusedVariables false
set_option linter.unusedSimpArgs false
/-- Everything agrees: the law's loop ends with true. -/
theorem IslandMatches_go {b : Int} {L : List S37} {l1 of refs : List Int} {rows : List (List Int)} {e : Int} (hL : L.length ≤ 100) (h1 : l1.length ≤ 100) (q1 : of.length ≤ 1000) (q2 : refs.length ≤ 1000) (q3 : rows.length ≤ 1000) (q4 : ∀ x ∈ rows, x.length ≤ 1000)
    (r1 : Ev (fun k => pylonref15_Of.f k b L l1) (of, e)) (r2 : Ev (fun k => pylonref15_Refs.f k b L l1) (refs, e)) (r3 : Ev (fun k => pylonref15_Members.f k b L l1) (rows, e))
    (i1 : Ev (fun k => island_Of.f k b L l1) (of, e)) (i2 : Ev (fun k => island_Refs.f k b L l1) (refs, e)) (i3 : Ev (fun k => island_Members.f k b L l1) (rows, e)) (i4 : Ev (fun k => island_Count.f k b L l1) ((refs.length : Int), e)) :
    Ev (fun k => (pylonref15_Of.f k b L l1).bind fun bt341 => ((pylonref15_Refs.f k b L l1).bind fun bt345 => ((pylonref15_Members.f k b L l1).bind fun bt349 => (pylonlaw15_IslandMatches.l0 k l1 l1 bt341.1 bt341.2 bt345.1 bt349.1 0 b L b L)))) true := by
  have haw : Ev (fun _ : Nat => (pylonlaw15_awake.f).bind fun t => (some t)) true := Ev.some_ _
  refine Ev.bind r1 (Ev.bind r2 (Ev.bind r3 ?_))
  show Ev (fun k => pylonlaw15_IslandMatches.l0 k l1 l1 of e refs rows 0 b L b L) true
  have s1 := ints_ev of of (by omega)
  have s2 := ints_ev refs refs (by omega)
  have s3 := rows_ev rows rows (by omega) (fun x hx => by have := q4 x hx; omega)
  have s4 := ints_ev l1 l1 (by omega)
  have s5 := same_self b L (by omega)
  rw [decide_eq_true rfl] at s1 s2 s3 s4
  refine Ev.upto 2 (fun k i => pylonlaw15_IslandMatches.l0 k l1 l1 of e refs rows (i : Int) b L b L) ?_ fun i hi hnext => ?_
  · refine Ev.succ (G := fun _ : Nat => (pylonlaw15_awake.f).bind fun t => (some t)) (fun k => ?_) haw
    rw [pylonlaw15_IslandMatches.l0, if_neg (by omega)]
  · refine Ev.succ (fun k => by rw [pylonlaw15_IslandMatches.l0, if_pos (by omega)]) (Ev.bind i1 (Ev.bind i2 (Ev.bind i3 (Ev.bind i4 ?_))))
    refine Ev.eq (fun k => by rw [if_pos rfl, if_pos rfl, if_pos rfl, if_pos rfl, if_pos rfl]) (Ev.bind s1 (Ev.eq (fun k => if_pos rfl) (Ev.bind s2 (Ev.eq (fun k => if_pos rfl) (Ev.bind s3 (Ev.eq (fun k => if_pos rfl) (Ev.bind s5 (Ev.eq (fun k => if_pos rfl) (Ev.bind s4 ?_)))))))))
    refine Ev.succ (fun k => ?_) hnext
    show pylonlaw15_IslandMatches.j1 (k + 1) l1 l1 of e refs rows (i : Int) of refs rows false b L b L = _
    rw [pylonlaw15_IslandMatches.j1, if_neg (by simp), wrap_succ (by omega)]; rfl
theorem IslandMatches_true (b : Int) (L : List S37) (l1 : List Int) : ∃ k, pylonlaw15_IslandMatches.f k b L l1 = some true := by
  apply Ev.tell
  obtain ⟨r, hr, hx⟩ := long_f b L [l1] (by simp)
  have haw : Ev (fun _ : Nat => (pylonlaw15_awake.f).bind fun t => (some t)) true := Ev.some_ _
  refine Ev.bind hr ?_
  cases r with
  | true => exact haw
  | false =>
    obtain ⟨hL, hl⟩ := hx rfl
    have h1 : l1.length ≤ 100 := hl l1 (by simp)
    refine Ev.eq (G := fun k => (pylonref15_Of.f k b L l1).bind fun bt341 => ((pylonref15_Refs.f k b L l1).bind fun bt345 => ((pylonref15_Members.f k b L l1).bind fun bt349 => (pylonlaw15_IslandMatches.l0 k l1 l1 bt341.1 bt341.2 bt345.1 bt349.1 0 b L b L)))) (fun k => by rw [if_neg (by simp), if_pos (by simp; omega), if_pos (by simp; omega), List.nil_append, List.nil_append]) ?_
    by_cases h : outsV b L l1 = 0
    · have hb := outs_bus h
      have hR := refsOf_len (lab (edges L l1)) b.toNat
      refine IslandMatches_go hL h1 ?_ (by omega) ?_ ?_ (ofR_ok h) (refsR_ok h) (membersR_ok h) (of_ok h) (refs_ok h) (members_ok h) (count_ok h)
      · rw [islOf_len']; omega
      · rw [rowsOf_len]; omega
      · intro x hx
        unfold rowsOf at hx
        obtain ⟨i, _, rfl⟩ := List.mem_map.1 hx
        have := rowOf_len_le (lab (edges L l1)) b.toNat b.toNat i
        omega
    · refine IslandMatches_go (of := []) (refs := []) (rows := []) hL h1 (by simp) (by simp) (by simp) (by simp) (ofR_bad (by omega) h) (refsR_bad (by omega) h) (membersR_bad (by omega) h) (of_bad h) (refs_bad h) (members_bad h) ?_
      exact count_bad h
end Go.Proofs.Ytdpgdelimffjpaa.P
