import Derived.Test.YtdpgdelimffjpaaHLab
namespace Go.Proofs.Ytdpgdelimffjpaa.P
open Go.RowKit Go.Proofs.YtdpgdelimffjpaaW.PrintWords Go.Proofs.YtdpgdelimffjpaaW.PrintLast Go.Proofs.YtdpgdelimffjpaaW.PrintMore
attribute [local go_sem] max2_int min2_int max_two min_two max_three min_three max_four min_four
set_option linter.unusedVariables false
set_option linter.unusedSimpArgs false
section
/-- Two buses are joined by a list of edges. -/
def conn (E : List (Nat × Nat)) (x y : Nat) : Prop := lab E x = lab E y
instance (E : List (Nat × Nat)) (x y : Nat) : Decidable (conn E x y) := inferInstanceAs (Decidable (lab E x = lab E y))
theorem conn_refl (E : List (Nat × Nat)) (x : Nat) : conn E x x := rfl
theorem conn.symm {E : List (Nat × Nat)} {x y : Nat} (h : conn E x y) : conn E y x := Eq.symm h
theorem conn.trans {E : List (Nat × Nat)} {x y z : Nat} (h : conn E x y) (k : conn E y z) : conn E x z := Eq.trans h k
theorem conn_edge {E : List (Nat × Nat)} {e : Nat × Nat} (h : e ∈ E) : conn E e.1 e.2 := lab_edge h
/-- What joins every edge's ends joins all that the edges join. -/
theorem conn_of {E E' : List (Nat × Nat)} (h : ∀ e ∈ E, conn E' e.1 e.2) {x y : Nat} (k : conn E x y) : conn E' x y := lab_const (lab E') h k
theorem conn_mono {E E' : List (Nat × Nat)} (h : ∀ e ∈ E, e ∈ E') {x y : Nat} (k : conn E x y) : conn E' x y := conn_of (fun e he => conn_edge (h e he)) k
theorem conn_congr {E E' : List (Nat × Nat)} (h : ∀ e, e ∈ E ↔ e ∈ E') {x y : Nat} : conn E x y ↔ conn E' x y := ⟨conn_mono (fun e => (h e).1), conn_mono (fun e => (h e).2)⟩
theorem conn_nil {x y : Nat} : conn [] x y ↔ x = y := by unfold conn; rw [lab_nil]; exact Iff.rfl
theorem conn_snoc {E : List (Nat × Nat)} {e : Nat × Nat} {x y : Nat} : conn (E ++ [e]) x y ↔ conn E x y ∨ (conn E x e.1 ∧ conn E e.2 y) ∨ (conn E x e.2 ∧ conn E e.1 y) := by
  unfold conn
  rw [lab_snoc]
  unfold merge
  generalize lab E x = fx
  generalize lab E y = fy
  generalize lab E e.1 = f1
  generalize lab E e.2 = f2
  constructor
  · intro h; split at h <;> split at h <;> omega
  · intro h; split <;> split <;> omega
/-- The same relation gives the same labels. -/
theorem lab_ext {E E' : List (Nat × Nat)} (h : ∀ x y, conn E x y ↔ conn E' x y) : lab E = lab E' := by
  funext x
  have a1 := (lab_lb E x).1
  have b1 := (lab_lb E' x).1
  have h1 : lab E' (lab E x) = lab E' x := (h _ _).1 ((lab_lb E x).2)
  have h2 : lab E (lab E' x) = lab E x := (h _ _).2 ((lab_lb E' x).2)
  have a2 := (lab_lb E (lab E' x)).1
  have b2 := (lab_lb E' (lab E x)).1
  omega
theorem lab_congr {E E' : List (Nat × Nat)} (h : ∀ e, e ∈ E ↔ e ∈ E') : lab E = lab E' := lab_ext fun _ _ => conn_congr h
/-- An edge that x does not reach is of no use to x. -/
theorem conn_drop {E E' : List (Nat × Nat)} {e : Nat × Nat} (hE : ∀ d, d ∈ E → d = e ∨ d ∈ E') (hs : ∀ d, d ∈ E' → d ∈ E) (he : e ∈ E) {x y : Nat} (hn : ¬ conn E x e.1) (h : conn E x y) : conn E' x y := by
  have h' : conn (E' ++ [e]) x y := conn_mono (fun d hd => by rcases hE d hd with rfl | h <;> simp_all) h
  have hm : ∀ {u v}, conn E' u v → conn E u v := fun k => conn_mono hs k
  rcases conn_snoc.1 h' with h' | ⟨h', _⟩ | ⟨h', _⟩
  · exact h'
  · exact absurd (hm h') hn
  · exact absurd ((hm h').trans (conn_edge he).symm) hn
/-- A bus that is joined to another has an edge whose other end is joined to it without the bus' own edges. -/
theorem conn_first {E : List (Nat × Nat)} {x y : Nat} (h : conn E x y) (hne : x ≠ y) : ∃ e ∈ E, ∃ z, ((e.1 = x ∧ e.2 = z) ∨ (e.2 = x ∧ e.1 = z)) ∧ conn (E.filter (fun d => d.1 != x && d.2 != x)) z y := by
  have hg := lab_const (fun v => (v = x ∨ ∃ e ∈ E, ∃ z, ((e.1 = x ∧ e.2 = z) ∨ (e.2 = x ∧ e.1 = z)) ∧ conn (E.filter (fun d => d.1 != x && d.2 != x)) z v)) (E := E) (x := x) (y := y) (by
    intro d hd
    apply propext
    by_cases h1 : d.1 = x
    · exact ⟨fun _ => Or.inr ⟨d, hd, d.2, Or.inl ⟨h1, rfl⟩, rfl⟩, fun _ => Or.inl h1⟩
    · by_cases h2 : d.2 = x
      · exact ⟨fun _ => Or.inl h2, fun _ => Or.inr ⟨d, hd, d.1, Or.inr ⟨h2, rfl⟩, rfl⟩⟩
      · have hd0 : conn (E.filter (fun d => d.1 != x && d.2 != x)) d.1 d.2 := conn_edge (List.mem_filter.2 ⟨hd, by simp [h1, h2]⟩)
        constructor
        · rintro (h | ⟨e, he, z, hz, hc⟩)
          · exact absurd h h1
          · exact Or.inr ⟨e, he, z, hz, hc.trans hd0⟩
        · rintro (h | ⟨e, he, z, hz, hc⟩)
          · exact absurd h h2
          · exact Or.inr ⟨e, he, z, hz, hc.trans hd0.symm⟩) h
  have hg2 : (y = x ∨ ∃ e ∈ E, ∃ z, ((e.1 = x ∧ e.2 = z) ∨ (e.2 = x ∧ e.1 = z)) ∧ conn (E.filter (fun d => d.1 != x && d.2 != x)) z y) := hg.mp (Or.inl rfl)
  rcases hg2 with h2 | h2
  · exact absurd h2.symm hne
  · exact h2
end
section
/-- The lines T but k. -/
def less (T : List Nat) (k : Nat) : List Nat := T.filter (fun j => j != k)
theorem mem_less {T : List Nat} {j k : Nat} : j ∈ less T k ↔ j ∈ T ∧ j ≠ k := by simp [less]
/-- Two buses are joined by the lines ks, whose ends en tells. -/
def cn (en : Nat → Nat × Nat) (ks : List Nat) (x y : Nat) : Prop := conn (ks.map en) x y
instance (en : Nat → Nat × Nat) (ks : List Nat) (x y : Nat) : Decidable (cn en ks x y) := inferInstanceAs (Decidable (conn _ x y))
section
variable {en : Nat → Nat × Nat} {T : List Nat} {a x y z k : Nat}
theorem cn_refl : cn en T x x := rfl
theorem cn.symm (h : cn en T x y) : cn en T y x := Eq.symm h
theorem cn.trans (h : cn en T x y) (k : cn en T y z) : cn en T x z := Eq.trans h k
theorem cn_line (h : k ∈ T) : cn en T (en k).1 (en k).2 := conn_edge (List.mem_map_of_mem h)
theorem cn_of {T' : List Nat} (h : ∀ k ∈ T, cn en T' (en k).1 (en k).2) (hc : cn en T x y) : cn en T' x y := conn_of (fun e he => by obtain ⟨k, hk, rfl⟩ := List.mem_map.1 he; exact h k hk) hc
theorem cn_mono {T' : List Nat} (h : ∀ k ∈ T, k ∈ T') (hc : cn en T x y) : cn en T' x y := cn_of (fun _ hk => cn_line (h _ hk)) hc
theorem cn_congr {T' : List Nat} (h : ∀ k, k ∈ T ↔ k ∈ T') : cn en T x y ↔ cn en T' x y := ⟨cn_mono fun k => (h k).1, cn_mono fun k => (h k).2⟩
theorem cn_snoc : cn en (T ++ [k]) x y ↔ cn en T x y ∨ (cn en T x (en k).1 ∧ cn en T (en k).2 y) ∨ (cn en T x (en k).2 ∧ cn en T (en k).1 y) := by
  unfold cn
  rw [List.map_append, List.map_cons, List.map_nil]
  exact conn_snoc
theorem cn_nil : cn en [] x y ↔ x = y := conn_nil
theorem cn_drop {T' : List Nat} (hE : ∀ d, d ∈ T → d = k ∨ d ∈ T') (hs : ∀ d, d ∈ T' → d ∈ T) (hk : k ∈ T) (hn : ¬ cn en T x (en k).1) (h : cn en T x y) : cn en T' x y := by
  refine conn_drop (E := T.map en) (E' := T'.map en) (e := en k) (fun d hd => ?_) (fun d hd => ?_) (List.mem_map_of_mem hk) hn h
  · obtain ⟨j, hj, rfl⟩ := List.mem_map.1 hd
    rcases hE j hj with rfl | h
    · exact Or.inl rfl
    · exact Or.inr (List.mem_map_of_mem h)
  · obtain ⟨j, hj, rfl⟩ := List.mem_map.1 hd
    exact List.mem_map_of_mem (hs j hj)
/-- Line k has the ends x and z. -/
def Inc (en : Nat → Nat × Nat) (k x z : Nat) : Prop := ((en k).1 = x ∧ (en k).2 = z) ∨ ((en k).2 = x ∧ (en k).1 = z)
theorem Inc.cn (h : Inc en k x z) (hk : k ∈ T) : cn en T x z := by
  rcases h with ⟨rfl, rfl⟩ | ⟨rfl, rfl⟩
  · exact cn_line hk
  · exact (cn_line hk).symm
/-- No line joins what the others join: a forest. -/
structure Fo (en : Nat → Nat × Nat) (T : List Nat) : Prop where
  nodup : T.Nodup
  cut : ∀ k ∈ T, ¬ cn en (less T k) (en k).1 (en k).2
theorem Fo.nil : Fo en [] := ⟨List.nodup_nil, fun _ h => absurd h List.not_mem_nil⟩
theorem Fo.snoc (h : Fo en T) (hk : k ∉ T) (hn : ¬ cn en T (en k).1 (en k).2) : Fo en (T ++ [k]) := by
  refine ⟨?_, fun j hj hc => ?_⟩
  · rw [List.nodup_append]
    exact ⟨h.nodup, List.pairwise_singleton _ _, fun a ha b hb e => by simp at hb; subst hb; subst e; exact hk ha⟩
  · rcases List.mem_append.1 hj with hj | hj
    · have hjk : j ≠ k := fun e => hk (e ▸ hj)
      have hl : ∀ d, d ∈ less (T ++ [k]) j ↔ d ∈ less T j ++ [k] := by
        intro d; rw [mem_less]; simp only [List.mem_append, List.mem_singleton, mem_less]
        constructor
        · rintro ⟨h1 | h1, h2⟩
          · exact Or.inl ⟨h1, h2⟩
          · exact Or.inr h1
        · rintro (⟨h1, h2⟩ | h1)
          · exact ⟨Or.inl h1, h2⟩
          · exact ⟨Or.inr h1, fun e => hjk (e.symm.trans h1)⟩
      have hm : ∀ {u v}, cn en (less T j) u v → cn en T u v := fun c => cn_mono (fun d hd => (mem_less.1 hd).1) c
      rcases cn_snoc.1 ((cn_congr hl).1 hc) with hc | ⟨h1, h2⟩ | ⟨h1, h2⟩
      · exact h.cut j hj hc
      · exact hn (((hm h1).symm.trans (cn_line hj)).trans (hm h2).symm)
      · exact hn ((((hm h1).symm.trans (cn_line hj)).trans (hm h2).symm).symm)
    · have e : j = k := by simpa using hj
      subst e
      refine hn ((cn_congr fun d => ?_).1 hc)
      rw [mem_less]; simp only [List.mem_append, List.mem_singleton]
      constructor
      · rintro ⟨h1 | h1, h2⟩
        · exact h1
        · exact absurd h1 h2
      · intro h1; exact ⟨Or.inl h1, fun e => hk (e ▸ h1)⟩
theorem Fo.inc (h : Fo en T) (hk : k ∈ T) (hi : Inc en k x z) : ¬ cn en (less T k) x z := by
  intro hc
  rcases hi with ⟨rfl, rfl⟩ | ⟨rfl, rfl⟩
  · exact h.cut k hk hc
  · exact h.cut k hk hc.symm
/-- What is joined behind line k does without the line by which x was reached. -/
theorem Fo.far (h : Fo en T) {j : Nat} (hk : k ∈ T) (hi : Inc en k x z) (hj : j ∈ T) (hjk : j ≠ k) {p : Nat} (hj2 : Inc en j x p) (hc : cn en (less T k) z y) : cn en (less T j) z y := by
  have hn : ¬ cn en (less T k) z (en j).1 := by
    intro hz
    have hjl : j ∈ less T k := mem_less.2 ⟨hj, hjk⟩
    have : cn en (less T k) x (en j).1 := by
      rcases hj2 with ⟨rfl, rfl⟩ | ⟨rfl, rfl⟩
      · exact cn_refl
      · exact (cn_line hjl).symm
    exact h.inc hk hi (this.trans hz.symm)
  have := cn_drop (T' := less (less T k) j) (fun d hd => (Decidable.em (d = j)).imp id (fun hne => mem_less.2 ⟨hd, hne⟩)) (fun d hd => (mem_less.1 hd).1) (mem_less.2 ⟨hj, hjk⟩) hn hc
  exact cn_mono (fun d hd => mem_less.2 ⟨(mem_less.1 (mem_less.1 hd).1).1, (mem_less.1 hd).2⟩) this
/-- Where a search from x, come by the line 'last', goes on. -/
theorem Fo.step (h : Fo en T) (last : Option Nat) (hl : ∀ j, last = some j → j ∈ T ∧ ∃ p, Inc en j x p) (hne : x ≠ y) :
    cn en (T.filter (fun j => some j != last)) x y ↔ ∃ k ∈ T, some k ≠ last ∧ ∃ z, Inc en k x z ∧ cn en (less T k) z y := by
  constructor
  · intro hc
    obtain ⟨e, he, z, hz, hc2⟩ := conn_first hc hne
    obtain ⟨k, hk, rfl⟩ := List.mem_map.1 he
    have hk2 := List.mem_filter.1 hk
    refine ⟨k, hk2.1, by simpa using hk2.2, z, hz, ?_⟩
    refine conn_mono (fun d hd => ?_) hc2
    obtain ⟨hd1, hd2⟩ := List.mem_filter.1 hd
    obtain ⟨j, hj, rfl⟩ := List.mem_map.1 hd1
    refine List.mem_map_of_mem (mem_less.2 ⟨(List.mem_filter.1 hj).1, fun e => ?_⟩)
    subst e
    simp only [Bool.and_eq_true, bne_iff_ne, ne_eq] at hd2
    rcases hz with ⟨h1, _⟩ | ⟨h1, _⟩
    · exact hd2.1 h1
    · exact hd2.2 h1
  · rintro ⟨k, hk, hkl, z, hi, hc⟩
    have hkm : k ∈ T.filter (fun j => some j != last) := List.mem_filter.2 ⟨hk, by simpa using hkl⟩
    refine (hi.cn hkm).trans ?_
    cases last with
    | none => exact cn_mono (fun d hd => List.mem_filter.2 ⟨(mem_less.1 hd).1, rfl⟩) hc
    | some j =>
      obtain ⟨hj, p, hp⟩ := hl j rfl
      have := h.far hk hi hj (fun e => hkl (by rw [e])) hp hc
      exact cn_mono (fun d hd => List.mem_filter.2 ⟨(mem_less.1 hd).1, by have := (mem_less.1 hd).2; simpa using this⟩) this
/-- The signed use of line t on the way from a to x. -/
def b2i (p : Prop) [Decidable p] : Int := if p then 1 else 0
def W (en : Nat → Nat × Nat) (T : List Nat) (a x t : Nat) : Int := if t ∈ T then b2i (cn en (less T t) a (en t).1) - b2i (cn en (less T t) x (en t).1) else 0
theorem b2i_congr {p q : Prop} [Decidable p] [Decidable q] (h : p ↔ q) : b2i p = b2i q := by unfold b2i; by_cases hp : p <;> by_cases hq : q <;> simp_all
theorem b2i_pos {p : Prop} [Decidable p] (h : p) : b2i p = 1 := if_pos h
theorem b2i_neg {p : Prop} [Decidable p] (h : ¬ p) : b2i p = 0 := if_neg h
theorem W_self (t : Nat) : W en T a a t = 0 := by unfold W; split <;> omega
theorem W_other (hk : k ∈ T) (hi : Inc en k x z) {t : Nat} (ht : t ≠ k) : W en T a z t = W en T a x t := by
  unfold W
  split
  · rw [b2i_congr (p := cn en (less T t) z (en t).1) (q := cn en (less T t) x (en t).1)]
    have hx : cn en (less T t) x z := hi.cn (mem_less.2 ⟨hk, fun e => ht e.symm⟩)
    exact ⟨fun h => hx.trans h, fun h => hx.symm.trans h⟩
  · rfl
theorem W_here (hk : k ∈ T) (hi : Inc en k x z) (hc : cn en (less T k) a x) : W en T a x k = 0 := by
  unfold W
  rw [if_pos hk, b2i_congr (p := cn en (less T k) x (en k).1) (q := cn en (less T k) a (en k).1)]
  · omega
  · exact ⟨fun h => hc.trans h, fun h => hc.symm.trans h⟩
theorem W_next (hF : Fo en T) (hk : k ∈ T) (hi : Inc en k x z) (hc : cn en (less T k) a x) : W en T a z k = if (en k).1 = x then 1 else -1 := by
  have hn := hF.inc hk hi
  unfold W
  rw [if_pos hk]
  by_cases hx : (en k).1 = x
  · rw [if_pos hx, hx, b2i_pos hc, b2i_neg (fun h => hn h.symm)]; rfl
  · have hz : (en k).1 = z := by
      rcases hi with ⟨h, _⟩ | ⟨_, h⟩
      · exact absurd h hx
      · exact h
    rw [if_neg hx, hz, b2i_pos cn_refl, b2i_neg (fun h => hn (hc.symm.trans h))]; rfl
theorem W_range (t : Nat) : W en T a x t = 0 ∨ W en T a x t = 1 ∨ W en T a x t = -1 := by
  unfold W b2i
  split
  · split <;> split <;> simp
  · exact Or.inl rfl
/-- The next bus' own lines, but the one it was reached by, are not on the way. -/
theorem Fo.fresh (h : Fo en T) (hk : k ∈ T) (hi : Inc en k x z) (hc : cn en (less T k) a x) {j p : Nat} (hj : j ∈ T) (hjk : j ≠ k) (hp : Inc en j z p) : cn en (less T j) a z := by
  have hn : ¬ cn en (less T k) a (en j).1 := by
    intro ha
    have hjl : j ∈ less T k := mem_less.2 ⟨hj, hjk⟩
    have : cn en (less T k) z (en j).1 := by
      rcases hp with ⟨rfl, rfl⟩ | ⟨rfl, rfl⟩
      · exact cn_refl
      · exact (cn_line hjl).symm
    exact h.inc hk hi (hc.symm.trans (ha.trans this.symm))
  have := cn_drop (T' := less (less T k) j) (fun d hd => (Decidable.em (d = j)).imp id (fun hne => mem_less.2 ⟨hd, hne⟩)) (fun d hd => (mem_less.1 hd).1) (mem_less.2 ⟨hj, hjk⟩) hn hc
  have h2 : cn en (less T j) a x := cn_mono (fun d hd => mem_less.2 ⟨(mem_less.1 (mem_less.1 hd).1).1, (mem_less.1 hd).2⟩) this
  exact h2.trans (hi.cn (mem_less.2 ⟨hk, fun e => hjk e.symm⟩))
end
end
section
/-- One try of a line: it is written down, and wiped where the search behind it fails. -/
def stepF (on : List Int → Int → Int → Option (Bool × List Int)) (way : List Int) (k next sign : Int) : Option (Bool × List Int) :=
  (on (way.set k.toNat sign) next k).bind fun r => some (r.1, if r.1 = true then r.2 else r.2.set k.toNat 0)
def goF (on : List Int → Int → Int → Option (Bool × List Int)) (L : List S37) (at_ last : Int) : List Int → List Int → Option (Bool × List Int)
  | [], way => some (false, way)
  | k :: ks, way =>
    if k = last then goF on L at_ last ks way
    else if (rd_T37 L k).f0 = at_ then
      (stepF on way k (rd_T37 L k).f1 1).bind fun r => if r.1 = true then some (true, r.2) else
        if (rd_T37 L k).f1 = at_ then (stepF on r.2 k (rd_T37 L k).f0 (-1)).bind fun r => if r.1 = true then some (true, r.2) else goF on L at_ last ks r.2
        else goF on L at_ last ks r.2
    else if (rd_T37 L k).f1 = at_ then (stepF on way k (rd_T37 L k).f0 (-1)).bind fun r => if r.1 = true then some (true, r.2) else goF on L at_ last ks r.2
    else goF on L at_ last ks way
/-- The search, with rounds. -/
def onF (L : List S37) (T : List Int) (tgt : Int) : Nat → List Int → Int → Int → Option (Bool × List Int)
  | 0, _, _, _ => none
  | k + 1, way, at_, last => if at_ = tgt then some (true, way) else goF (onF L T tgt k) L at_ last T way
def enL (L : List S37) (k : Nat) : Nat × Nat := ((rd_T37 L (k : Int)).f0.toNat, (rd_T37 L (k : Int)).f1.toNat)
def castL (T : List Nat) : List Int := T.map (fun (k : Nat) => (k : Int))
def wayOf (L : List S37) (T : List Nat) (a x : Nat) : List Int := (List.range L.length).map (W (enL L) T a x)
structure GoodL (L : List S37) (T : List Nat) : Prop where
  lt : ∀ k ∈ T, k < L.length
  f0 : ∀ k ∈ T, (rd_T37 L (k : Int)).f0 = (((enL L k).1 : Nat) : Int)
  f1 : ∀ k ∈ T, (rd_T37 L (k : Int)).f1 = (((enL L k).2 : Nat) : Int)
  ne : ∀ k ∈ T, (enL L k).1 ≠ (enL L k).2
section
variable {L : List S37} {T : List Nat} {a x z k tgt : Nat}
theorem wayOf_len : (wayOf L T a x).length = L.length := by simp [wayOf]
theorem wayOf_self : wayOf L T a a = List.replicate L.length 0 := by
  unfold wayOf
  rw [List.eq_replicate_iff]
  refine ⟨by simp, fun b hb => ?_⟩
  obtain ⟨t, _, rfl⟩ := List.mem_map.1 hb
  exact W_self t
theorem wayOf_set (hF : Fo (enL L) T) (hk : k ∈ T) (hi : Inc (enL L) k x z) (hc : cn (enL L) (less T k) a x) : (wayOf L T a x).set k (if (enL L k).1 = x then 1 else -1) = wayOf L T a z := by
  unfold wayOf
  apply List.ext_getElem
  · simp
  · intro i h1 h2
    rw [List.getElem_set, List.getElem_map, List.getElem_map, List.getElem_range]
    by_cases h : k = i
    · rw [if_pos h, ← h, W_next hF hk hi hc]
    · rw [if_neg h, W_other hk hi (fun e => h e.symm)]
theorem wayOf_wipe (hk : k ∈ T) (hi : Inc (enL L) k x z) (hc : cn (enL L) (less T k) a x) : (wayOf L T a z).set k 0 = wayOf L T a x := by
  unfold wayOf
  apply List.ext_getElem
  · simp
  · intro i h1 h2
    rw [List.getElem_set, List.getElem_map, List.getElem_map, List.getElem_range]
    by_cases h : k = i
    · rw [if_pos h, ← h, W_here hk hi hc]
    · rw [if_neg h, W_other hk hi (fun e => h e.symm)]
def OnOk (L : List S37) (T : List Nat) (a tgt : Nat) (last : Option Nat) (x : Nat) (on : List Int → Int → Int → Option (Bool × List Int)) : Prop :=
  ∀ k ∈ T, some k ≠ last → ∀ z, Inc (enL L) k x z → ∃ b, on (wayOf L T a z) (z : Int) (k : Int) = some (b, if b = true then wayOf L T a tgt else wayOf L T a z) ∧ (b = true ↔ cn (enL L) (less T k) z tgt)
theorem step_spec (hF : Fo (enL L) T) {on : List Int → Int → Int → Option (Bool × List Int)} {last : Option Nat} (hon : OnOk L T a tgt last x on) (hk : k ∈ T) (hkl : some k ≠ last) (hi : Inc (enL L) k x z) (hc : cn (enL L) (less T k) a x) {s : Int} (hs : s = if (enL L k).1 = x then 1 else -1) :
    ∃ b, stepF on (wayOf L T a x) (k : Int) (z : Int) s = some (b, if b = true then wayOf L T a tgt else wayOf L T a x) ∧ (b = true ↔ cn (enL L) (less T k) z tgt) := by
  obtain ⟨b, hb, hbt⟩ := hon k hk hkl z hi
  refine ⟨b, ?_, hbt⟩
  rw [stepF, Int.toNat_natCast, hs, wayOf_set hF hk hi hc, hb, Option.bind_some]
  cases b with
  | true => rfl
  | false => simp only [Bool.false_eq_true, if_false]; rw [wayOf_wipe hk hi hc]
theorem go_spec (hF : Fo (enL L) T) (hL : GoodL L T) {on : List Int → Int → Int → Option (Bool × List Int)} {last : Option Nat} (lastI : Int) (hlast : ∀ k : Nat, k ∈ T → ((k : Int) = lastI ↔ some k = last)) (hon : OnOk L T a tgt last x on)
    (hc : ∀ k ∈ T, some k ≠ last → ∀ z, Inc (enL L) k x z → cn (enL L) (less T k) a x) : ∀ ks : List Nat, (∀ k ∈ ks, k ∈ T) →
    ∃ b, goF on L (x : Int) lastI (castL ks) (wayOf L T a x) = some (b, if b = true then wayOf L T a tgt else wayOf L T a x) ∧ (b = true ↔ ∃ k ∈ ks, some k ≠ last ∧ ∃ z, Inc (enL L) k x z ∧ cn (enL L) (less T k) z tgt) := by
  intro ks
  induction ks with
  | nil => intro _; exact ⟨false, rfl, by simp⟩
  | cons k ks ih =>
    intro hks
    obtain ⟨b, hb, hbt⟩ := ih (fun j hj => hks j (List.mem_cons_of_mem _ hj))
    have hk := hks k (List.mem_cons_self ..)
    have h0 := hL.f0 k hk
    have h1 := hL.f1 k hk
    have hne := hL.ne k hk
    have skip : (¬ ∃ z, some k ≠ last ∧ Inc (enL L) k x z ∧ cn (enL L) (less T k) z tgt) → (b = true ↔ ∃ j ∈ k :: ks, some j ≠ last ∧ ∃ z, Inc (enL L) j x z ∧ cn (enL L) (less T j) z tgt) := by
      intro hno
      rw [hbt]
      constructor
      · rintro ⟨j, hj, h⟩; exact ⟨j, List.mem_cons_of_mem _ hj, h⟩
      · rintro ⟨j, hj, h, z, h2⟩
        rcases List.mem_cons.1 hj with rfl | hj
        · exact absurd ⟨z, h, h2⟩ hno
        · exact ⟨j, hj, h, z, h2⟩
    show ∃ b, goF on L (x : Int) lastI ((k : Int) :: castL ks) (wayOf L T a x) = some (b, _) ∧ _
    rw [goF]
    by_cases hl : (k : Int) = lastI
    · rw [if_pos hl]
      exact ⟨b, hb, skip (fun ⟨z, h, _⟩ => h ((hlast k hk).1 hl))⟩
    · have hkl : some k ≠ last := fun e => hl ((hlast k hk).2 e)
      rw [if_neg hl, h0, h1]
      by_cases hx : (enL L k).1 = x
      · have hi : Inc (enL L) k x (enL L k).2 := Or.inl ⟨hx, rfl⟩
        obtain ⟨b', hb', hbt'⟩ := step_spec hF hon hk hkl hi (hc k hk hkl _ hi) (s := 1) (by rw [if_pos hx])
        rw [if_pos (by omega), hb', Option.bind_some]
        have huniq : ∀ z, Inc (enL L) k x z → z = (enL L k).2 := by
          rintro z (⟨_, h⟩ | ⟨h, _⟩)
          · exact h.symm
          · exact absurd (hx.trans h.symm) hne
        cases b' with
        | true => exact ⟨true, by simp, by simp only [true_iff]; exact ⟨k, List.mem_cons_self .., hkl, _, hi, hbt'.1 rfl⟩⟩
        | false =>
          simp only [Bool.false_eq_true, if_false]
          rw [if_neg (by omega)]
          exact ⟨b, hb, skip (fun ⟨z, _, h, h2⟩ => by rw [huniq z h] at h2; exact absurd (hbt'.2 h2) (by simp))⟩
      · rw [if_neg (by omega)]
        by_cases hy : (enL L k).2 = x
        · have hi : Inc (enL L) k x (enL L k).1 := Or.inr ⟨hy, rfl⟩
          obtain ⟨b', hb', hbt'⟩ := step_spec hF hon hk hkl hi (hc k hk hkl _ hi) (s := -1) (by rw [if_neg hx])
          rw [if_pos (by omega), hb', Option.bind_some]
          have huniq : ∀ z, Inc (enL L) k x z → z = (enL L k).1 := by
            rintro z (⟨h, _⟩ | ⟨_, h⟩)
            · exact absurd h hx
            · exact h.symm
          cases b' with
          | true => exact ⟨true, by simp, by simp only [true_iff]; exact ⟨k, List.mem_cons_self .., hkl, _, hi, hbt'.1 rfl⟩⟩
          | false =>
            simp only [Bool.false_eq_true, if_false]
            exact ⟨b, hb, skip (fun ⟨z, _, h, h2⟩ => by rw [huniq z h] at h2; exact absurd (hbt'.2 h2) (by simp))⟩
        · rw [if_neg (by omega)]
          exact ⟨b, hb, skip (fun ⟨z, _, h, _⟩ => by rcases h with ⟨h, _⟩ | ⟨h, _⟩ <;> first | exact hx h | exact hy h)⟩
theorem filter_lt {p q : Nat → Bool} (h : ∀ t ∈ T, p t = true → q t = true) (hk : k ∈ T) (hp : p k = false) (hq : q k = true) : (T.filter p).length < (T.filter q).length := by
  induction T with
  | nil => cases hk
  | cons t T ih =>
    have hle : (T.filter p).length ≤ (T.filter q).length := by
      rw [← List.countP_eq_length_filter, ← List.countP_eq_length_filter]
      exact List.countP_mono_left (fun t ht => h t (List.mem_cons_of_mem _ ht))
    rcases List.mem_cons.1 hk with rfl | hk
    · rw [List.filter_cons, List.filter_cons, hp, hq]; simp; omega
    · have := ih (fun t ht => h t (List.mem_cons_of_mem _ ht)) hk
      rw [List.filter_cons, List.filter_cons]
      by_cases hpt : p t = true
      · rw [if_pos hpt, if_pos (h t (List.mem_cons_self ..) hpt)]; simp; omega
      · rw [if_neg hpt]; split <;> simp <;> omega
/-- How many lines of the forest are not on the way. -/
def off (L : List S37) (T : List Nat) (a x : Nat) : Nat := (T.filter (fun t => W (enL L) T a x t == 0)).length
theorem off_lt (hF : Fo (enL L) T) (hk : k ∈ T) (hi : Inc (enL L) k x z) (hc : cn (enL L) (less T k) a x) : off L T a z < off L T a x := by
  have hn := W_next hF hk hi hc
  refine filter_lt (k := k) (fun t ht h => ?_) hk ?_ ?_
  · by_cases e : t = k
    · subst e
      rw [hn] at h
      split at h <;> simp at h
    · rw [W_other hk hi e] at h; exact h
  · rw [hn]; split <;> rfl
  · rw [W_here hk hi hc]; rfl
/-- THE SEARCH: with rounds enough it tells whether the buses are joined, and leaves the way. -/
theorem on_spec (hF : Fo (enL L) T) (hL : GoodL L T) : ∀ (fuel x : Nat) (last : Option Nat) (lastI : Int), (∀ k : Nat, k ∈ T → ((k : Int) = lastI ↔ some k = last)) → (∀ j, last = some j → j ∈ T ∧ ∃ p, Inc (enL L) j x p) →
    (∀ k ∈ T, some k ≠ last → ∀ z, Inc (enL L) k x z → cn (enL L) (less T k) a x) → off L T a x < fuel →
    ∃ b, onF L (castL T) (tgt : Int) fuel (wayOf L T a x) (x : Int) lastI = some (b, if b = true then wayOf L T a tgt else wayOf L T a x) ∧ (b = true ↔ cn (enL L) (T.filter (fun j => some j != last)) x tgt) := by
  intro fuel
  induction fuel with
  | zero => intro x last lastI _ _ _ h; omega
  | succ fuel ih =>
    intro x last lastI hlast hl hc hoff
    rw [onF]
    by_cases hxt : x = tgt
    · subst hxt
      rw [if_pos rfl]
      exact ⟨true, by simp, by simp only [true_iff]; exact cn_refl⟩
    · rw [if_neg (by omega)]
      have hon : OnOk L T a tgt last x (onF L (castL T) (tgt : Int) fuel) := by
        intro k hk hkl z hi
        have hck := hc k hk hkl z hi
        obtain ⟨b, hb, hbt⟩ := ih z (some k) (k : Int) (fun j _ => ⟨fun h => by rw [show j = k by omega], fun h => by cases h; rfl⟩)
          (fun j hj => by cases hj; exact ⟨hk, x, by rcases hi with ⟨h1, h2⟩ | ⟨h1, h2⟩ <;> first | exact Or.inr ⟨h2, h1⟩ | exact Or.inl ⟨h2, h1⟩⟩)
          (fun j hj hjk p hp => hF.fresh hk hi hck hj (fun e => hjk (by rw [e])) hp) (by have := off_lt hF hk hi hck; omega)
        refine ⟨b, hb, hbt.trans (cn_congr fun d => ?_)⟩
        rw [mem_less, List.mem_filter]
        constructor
        · rintro ⟨h1, h2⟩; exact ⟨h1, by simpa using h2⟩
        · rintro ⟨h1, h2⟩; exact ⟨h1, by simpa using h2⟩
      obtain ⟨b, hb, hbt⟩ := go_spec hF hL lastI hlast hon hc T (fun _ h => h)
      exact ⟨b, hb, hbt.trans (hF.step last hl hxt).symm⟩
/-- The whole search from bus a. -/
theorem on_all (hF : Fo (enL L) T) (hL : GoodL L T) (a tgt : Nat) {fuel : Nat} (hf : T.length < fuel) :
    ∃ b, onF L (castL T) (tgt : Int) fuel (List.replicate L.length 0) (a : Int) (-1) = some (b, if b = true then wayOf L T a tgt else List.replicate L.length 0) ∧ (b = true ↔ cn (enL L) T a tgt) := by
  obtain ⟨b, hb, hbt⟩ := on_spec (a := a) (tgt := tgt) hF hL fuel a none (-1) (fun k _ => ⟨fun h => by omega, fun h => by cases h⟩) (fun j hj => by cases hj) (fun k hk _ z hi => cn_refl) (by
    have : off L T a a ≤ T.length := List.length_filter_le _ _
    omega)
  rw [wayOf_self] at hb
  refine ⟨b, hb, hbt.trans (cn_congr fun d => ?_)⟩
  rw [List.mem_filter]
  exact ⟨fun h => h.1, fun h => ⟨h, rfl⟩⟩
end
end
section
/-- The spanning forest: line by line, each that the lines before it do not join. -/
def trStep (en : Nat → Nat × Nat) (t : List Nat) (k : Nat) : List Nat := if cn en t (en k).1 (en k).2 then t else t ++ [k]
def tr (en : Nat → Nat × Nat) (ks : List Nat) : List Nat := ks.foldl (trStep en) []
section
variable {en : Nat → Nat × Nat} {T ks : List Nat} {a b x y z k : Nat}
theorem tr_nil : tr en [] = [] := rfl
theorem tr_snoc (ks : List Nat) (k : Nat) : tr en (ks ++ [k]) = trStep en (tr en ks) k := by simp [tr]
theorem snoc_ind {P : List Nat → Prop} (h0 : P []) (hs : ∀ ks k, P ks → P (ks ++ [k])) (ks : List Nat) : P ks := by
  have key : ∀ n, ∀ ks : List Nat, ks.length = n → P ks := by
    intro n
    induction n with
    | zero => intro ks h; rw [List.eq_nil_of_length_eq_zero h]; exact h0
    | succ n ih =>
      intro ks h
      have hne : ks ≠ [] := fun e => by rw [e] at h; simp at h
      rw [← List.dropLast_concat_getLast hne]
      exact hs _ _ (ih _ (by rw [List.length_dropLast]; omega))
  exact key _ ks rfl
theorem tr_sub (ks : List Nat) : ∀ k ∈ tr en ks, k ∈ ks := by
  refine snoc_ind (P := fun ks => ∀ k ∈ tr en ks, k ∈ ks) (fun k h => h) (fun ks k ih j hj => ?_) ks
  rw [tr_snoc, trStep] at hj
  split at hj
  · exact List.mem_append_left _ (ih j hj)
  · rcases List.mem_append.1 hj with h | h
    · exact List.mem_append_left _ (ih j h)
    · exact List.mem_append_right _ h
theorem tr_cn (ks : List Nat) : ∀ x y, cn en (tr en ks) x y ↔ cn en ks x y := by
  refine snoc_ind (P := fun ks => ∀ x y, cn en (tr en ks) x y ↔ cn en ks x y) (fun _ _ => Iff.rfl) (fun ks k ih x y => ?_) ks
  rw [tr_snoc, trStep]
  split
  · rename_i hc
    rw [cn_snoc, ih]
    have hc' := (ih _ _).1 hc
    constructor
    · intro h; exact Or.inl h
    · rintro (h | ⟨h1, h2⟩ | ⟨h1, h2⟩)
      · exact h
      · exact (h1.trans hc').trans h2
      · exact (h1.trans hc'.symm).trans h2
  · rw [cn_snoc, cn_snoc, ih, ih, ih, ih, ih]
theorem tr_fo (ks : List Nat) : ks.Nodup → Fo en (tr en ks) := by
  refine snoc_ind (P := fun ks => ks.Nodup → Fo en (tr en ks)) (fun _ => Fo.nil) (fun ks k ih h => ?_) ks
  rw [List.nodup_append] at h
  rw [tr_snoc, trStep]
  split
  · exact ih h.1
  · rename_i hc
    exact (ih h.1).snoc (fun hk => h.2.2 k (tr_sub ks k hk) k (by simp) rfl) hc
theorem tr_pre (ks ls : List Nat) : ∃ more, tr en (ks ++ ls) = tr en ks ++ more ∧ ∀ k ∈ more, k ∈ ls := by
  refine snoc_ind (P := fun ls => ∃ more, tr en (ks ++ ls) = tr en ks ++ more ∧ ∀ k ∈ more, k ∈ ls) ⟨[], by simp, by simp⟩ (fun ls k ih => ?_) ls
  obtain ⟨more, hm, hs⟩ := ih
  rw [← List.append_assoc, tr_snoc, trStep, hm]
  split
  · exact ⟨more, rfl, fun j hj => List.mem_append_left _ (hs j hj)⟩
  · refine ⟨more ++ [k], by rw [List.append_assoc], fun j hj => ?_⟩
    rcases List.mem_append.1 hj with h | h
    · exact List.mem_append_left _ (hs j h)
    · exact List.mem_append_right _ h
theorem tr_mem {ls : List Nat} (hn : (ks ++ k :: ls).Nodup) : k ∈ tr en (ks ++ k :: ls) ↔ ¬ cn en (tr en ks) (en k).1 (en k).2 := by
  have e : ks ++ k :: ls = (ks ++ [k]) ++ ls := by simp
  rw [List.nodup_append] at hn
  have hks : k ∉ ks := fun h => hn.2.2 k h k (List.mem_cons_self ..) rfl
  have hls : k ∉ ls := (List.nodup_cons.1 hn.2.1).1
  obtain ⟨more, hm, hs⟩ := tr_pre (en := en) (ks ++ [k]) ls
  rw [e, hm, tr_snoc, trStep]
  constructor
  · intro h hc
    rw [if_pos hc] at h
    rcases List.mem_append.1 h with h | h
    · exact hks (tr_sub ks k h)
    · exact hls (hs k h)
  · intro hc
    rw [if_neg hc]
    exact List.mem_append_left _ (List.mem_append_right _ (by simp))
theorem tr_sorted (ks : List Nat) : ks.Pairwise (· < ·) → (tr en ks).Pairwise (· < ·) := by
  refine snoc_ind (P := fun ks => ks.Pairwise (· < ·) → (tr en ks).Pairwise (· < ·)) (fun _ => List.Pairwise.nil) (fun ks k ih h => ?_) ks
  rw [List.pairwise_append] at h
  rw [tr_snoc, trStep]
  split
  · exact ih h.1
  · rw [List.pairwise_append]
    exact ⟨ih h.1, List.pairwise_singleton _ _, fun a ha b hb => h.2.2 a (tr_sub ks a ha) b hb⟩
/-- A forest is its own spanning forest. -/
theorem tr_self (ks : List Nat) : Fo en ks → tr en ks = ks := by
  refine snoc_ind (P := fun ks => Fo en ks → tr en ks = ks) (fun _ => rfl) (fun ks k ih h => ?_) ks
  have hnd := h.nodup
  rw [List.nodup_append] at hnd
  have hk : k ∉ ks := fun hk => hnd.2.2 k hk k (by simp) rfl
  have hless : ∀ d, d ∈ less (ks ++ [k]) k ↔ d ∈ ks := by
    intro d; rw [mem_less]; simp only [List.mem_append, List.mem_singleton]
    exact ⟨fun h => h.1.resolve_right h.2, fun hd => ⟨Or.inl hd, fun e => hk (e ▸ hd)⟩⟩
  have hF : Fo en ks := by
    refine ⟨hnd.1, fun j hj hc => h.cut j (List.mem_append_left _ hj) (cn_mono (fun d hd => ?_) hc)⟩
    rw [mem_less] at hd ⊢
    exact ⟨List.mem_append_left _ hd.1, hd.2⟩
  rw [tr_snoc, ih hF, trStep, if_neg]
  intro hc
  exact h.cut k (by simp) ((cn_congr hless).2 hc)
/-! ### how many islands -/
def cnt (f : Nat → Nat) (N : Nat) : Nat := ((List.range N).filter (fun b => f b == b)).length
theorem cnt_succ (f : Nat → Nat) (N : Nat) : cnt f (N + 1) = cnt f N + (if f N = N then 1 else 0) := by
  unfold cnt
  rw [List.range_succ, List.filter_append, List.length_append]
  by_cases h : f N = N <;> simp [h]
theorem cnt_id (N : Nat) : cnt id N = N := by
  induction N with
  | zero => rfl
  | succ N ih => rw [cnt_succ, ih]; simp
theorem cnt_merge {f : Nat → Nat} (hf : Lb f) {e : Nat × Nat} (hne : f e.1 ≠ f e.2) (N : Nat) : cnt (merge f e) N + (if max (f e.1) (f e.2) < N then 1 else 0) = cnt f N := by
  have iM := idem_max (hf e.1).2 (hf e.2).2
  have im := idem_min (hf e.1).2 (hf e.2).2
  have hmg : ∀ x, merge f e x = if f x = max (f e.1) (f e.2) then min (f e.1) (f e.2) else f x := fun x => rfl
  have hlt : min (f e.1) (f e.2) < max (f e.1) (f e.2) := by omega
  generalize max (f e.1) (f e.2) = M at *
  generalize min (f e.1) (f e.2) = m at *
  induction N with
  | zero => simp [cnt]
  | succ N ih =>
    rw [cnt_succ, cnt_succ, hmg]
    by_cases hM : M = N
    · subst hM
      rw [if_neg (by omega)] at ih
      rw [if_pos iM, if_neg (by omega), if_pos (by omega), if_pos iM]; omega
    · have h1 : (if M < N + 1 then 1 else 0 : Nat) = (if M < N then 1 else 0) := by by_cases h : M < N <;> simp [h] <;> omega
      rw [h1]
      by_cases hN : f N = M
      · rw [if_pos hN, if_neg (show ¬ m = N by intro e; subst e; omega), if_neg (show ¬ f N = N by omega)]; omega
      · rw [if_neg hN]; omega
theorem cnt_same {f : Nat → Nat} {e : Nat × Nat} (h : f e.1 = f e.2) (N : Nat) : cnt (merge f e) N = cnt f N := by rw [merge_same h]
/-- One more line: one island less, or none. -/
theorem cnt_snoc (E : List (Nat × Nat)) (e : Nat × Nat) (N : Nat) (h1 : e.1 < N) (h2 : e.2 < N) : cnt (lab (E ++ [e])) N + (if conn E e.1 e.2 then 0 else 1) = cnt (lab E) N := by
  rw [lab_snoc]
  by_cases h : conn E e.1 e.2
  · rw [if_pos h, cnt_same h]; rfl
  · rw [if_neg h]
    have := cnt_merge (lab_lb E) h N
    have a := (lab_lb E e.1).1
    have b := (lab_lb E e.2).1
    rwa [if_pos (by omega)] at this
theorem tr_count (N : Nat) (ks : List Nat) : (∀ k ∈ ks, (en k).1 < N ∧ (en k).2 < N) → (tr en ks).length + cnt (lab (ks.map en)) N = N := by
  refine snoc_ind (P := fun ks => (∀ k ∈ ks, (en k).1 < N ∧ (en k).2 < N) → (tr en ks).length + cnt (lab (ks.map en)) N = N) (fun _ => ?_) (fun ks k ih h => ?_) ks
  · show 0 + cnt (lab []) N = N
    rw [lab_nil, cnt_id]; omega
  · have h1 := ih (fun j hj => h j (List.mem_append_left _ hj))
    have h2 := h k (by simp)
    have h3 := cnt_snoc (ks.map en) (en k) N h2.1 h2.2
    have e : (ks ++ [k]).map en = ks.map en ++ [en k] := by simp
    rw [e, tr_snoc, trStep]
    have hx : cn en (tr en ks) (en k).1 (en k).2 ↔ conn (ks.map en) (en k).1 (en k).2 := tr_cn ks _ _
    by_cases hc : conn (ks.map en) (en k).1 (en k).2
    · rw [if_pos (hx.2 hc)]; rw [if_pos hc] at h3; omega
    · rw [if_neg (fun h => hc (hx.1 h))]; rw [if_neg hc] at h3; simp; omega
/-! ### the way, bus by bus -/
def sumTo (F : Nat → Int) : Nat → Int
  | 0 => 0
  | n + 1 => sumTo F n + F n
theorem sumTo_congr {F G : Nat → Int} : ∀ n, (∀ t, t < n → F t = G t) → sumTo F n = sumTo G n
  | 0, _ => rfl
  | n + 1, h => by rw [sumTo, sumTo, sumTo_congr n (fun t ht => h t (by omega)), h n (by omega)]
theorem sumTo_one {F G : Nat → Int} {k : Nat} : ∀ n, (∀ t, t < n → t ≠ k → F t = G t) → sumTo F n = sumTo G n + (if k < n then F k - G k else 0)
  | 0, _ => by simp [sumTo]
  | n + 1, h => by
    rw [sumTo, sumTo, sumTo_one n (fun t ht => h t (by omega))]
    by_cases hk : k = n
    · subst hk; rw [if_neg (by omega), if_pos (by omega)]; omega
    · rw [h n (by omega) (fun e => hk e.symm)]
      by_cases hkn : k < n
      · rw [if_pos hkn, if_pos (by omega)]; omega
      · rw [if_neg hkn, if_neg (by omega)]; omega
theorem sumTo_zero (n : Nat) : sumTo (fun _ => 0) n = 0 := by
  induction n with
  | zero => rfl
  | succ n ih => rw [sumTo, ih]; rfl
def dl (x y : Nat) : Int := if x = y then 1 else 0
/-- What line t's ends give to bus x. -/
def dd (en : Nat → Nat × Nat) (t x : Nat) : Int := dl (en t).1 x - dl (en t).2 x
/-- The way leaves its first bus once more than it enters it, and enters its last bus once more. -/
theorem W_flow (hF : Fo en T) (n : Nat) (hT : ∀ t ∈ T, t < n) (h : cn en T a b) (x : Nat) : sumTo (fun t => W en T a b t * dd en t x) n = dl a x - dl b x := by
  have hg := lab_const (fun v => ∀ x, sumTo (fun t => W en T a v t * dd en t x) n = dl a x - dl v x) (E := T.map en) (x := a) (y := b) (by
    intro e he
    obtain ⟨k, hk, rfl⟩ := List.mem_map.1 he
    have hstep : ∀ x, sumTo (fun t => W en T a (en k).2 t * dd en t x) n = sumTo (fun t => W en T a (en k).1 t * dd en t x) n + (dl (en k).1 x - dl (en k).2 x) := by
      intro x
      rw [sumTo_one (F := fun t => W en T a (en k).2 t * dd en t x) (G := fun t => W en T a (en k).1 t * dd en t x) (k := k) n (fun t _ ht => by rw [W_other hk (x := (en k).1) (Or.inl ⟨rfl, rfl⟩) ht]), if_pos (hT k hk)]
      have hw : W en T a (en k).2 k - W en T a (en k).1 k = 1 := by
        unfold W
        rw [if_pos hk, if_pos hk, b2i_neg (p := cn en (less T k) (en k).2 (en k).1) (fun h => hF.cut k hk h.symm), b2i_pos (p := cn en (less T k) (en k).1 (en k).1) cn_refl]
        omega
      rw [← Int.sub_mul, hw, Int.one_mul]; rfl
    apply propext
    constructor
    · intro h x; have := hstep x; rw [h x] at this; omega
    · intro h x; have := hstep x; rw [h x] at this; omega) h
  refine hg.mp (fun x => ?_) x
  rw [sumTo_congr (G := fun _ => 0) n (fun t _ => by rw [W_self]; simp), sumTo_zero]; omega
theorem cn_less (hk : k ∈ T) : cn en T x y ↔ cn en (less T k) x y ∨ (cn en (less T k) x (en k).1 ∧ cn en (less T k) (en k).2 y) ∨ (cn en (less T k) x (en k).2 ∧ cn en (less T k) (en k).1 y) := by
  rw [← cn_snoc]
  refine cn_congr fun d => ?_
  rw [List.mem_append, mem_less, List.mem_singleton]
  by_cases h : d = k
  · subst h; simp [hk]
  · simp [h]
/-- A line is on the way if and only if without it the forest does not join the way's ends. -/
theorem W_ne (hF : Fo en T) (hk : k ∈ T) (h : cn en T a b) : W en T a b k ≠ 0 ↔ ¬ cn en (less T k) a b := by
  unfold W
  rw [if_pos hk]
  constructor
  · intro hw hc
    refine hw ?_
    rw [b2i_congr (p := cn en (less T k) b (en k).1) (q := cn en (less T k) a (en k).1) ⟨fun h => hc.trans h, fun h => hc.symm.trans h⟩]; omega
  · intro hc hw
    rcases (cn_less hk).1 h with h1 | ⟨h1, h2⟩ | ⟨h1, h2⟩
    · exact hc h1
    · rw [b2i_pos h1, b2i_neg (p := cn en (less T k) b (en k).1) (fun h3 => hF.cut k hk (h2.trans h3).symm)] at hw; omega
    · rw [b2i_pos (p := cn en (less T k) b (en k).1) h2.symm, b2i_neg (p := cn en (less T k) a (en k).1) (fun h3 => hF.cut k hk (h3.symm.trans h1))] at hw; omega
/-- A line of the spanning forest is used by the way of some line outside it if and only if the other lines join its ends. -/
theorem used_iff (hks : ks.Nodup) (hk : k ∈ tr en ks) : (∃ c ∈ ks, c ∉ tr en ks ∧ W en (tr en ks) (en c).2 (en c).1 k ≠ 0) ↔ cn en (less ks k) (en k).1 (en k).2 := by
  have hF := tr_fo (en := en) ks hks
  have hall : ∀ c ∈ ks, cn en (tr en ks) (en c).2 (en c).1 := fun c hc => (tr_cn ks _ _).2 (cn_line hc).symm
  have hsub : ∀ d ∈ less (tr en ks) k, d ∈ less ks k := fun d hd => by rw [mem_less] at hd ⊢; exact ⟨tr_sub ks d hd.1, hd.2⟩
  constructor
  · rintro ⟨c, hc, hct, hw⟩
    have hn := (W_ne hF hk (hall c hc)).1 hw
    have hcl : c ∈ less ks k := mem_less.2 ⟨hc, fun e => hct (e ▸ hk)⟩
    rcases (cn_less hk).1 (hall c hc) with h1 | ⟨h1, h2⟩ | ⟨h1, h2⟩
    · exact absurd h1 hn
    · exact ((cn_mono hsub h1).symm.trans ((cn_line hcl).symm.trans (cn_mono hsub h2).symm))
    · exact (cn_mono hsub h2).trans ((cn_line hcl).trans (cn_mono hsub h1))
  · intro hc
    by_cases hex : ∃ c ∈ ks, c ∉ tr en ks ∧ W en (tr en ks) (en c).2 (en c).1 k ≠ 0
    · exact hex
    · refine absurd (cn_of (T' := less (tr en ks) k) (fun c hcl => ?_) hc) (hF.cut k hk)
      obtain ⟨hck, hne⟩ := mem_less.1 hcl
      by_cases hct : c ∈ tr en ks
      · exact cn_line (mem_less.2 ⟨hct, hne⟩)
      · by_cases hcn : cn en (less (tr en ks) k) (en c).2 (en c).1
        · exact hcn.symm
        · exact absurd ⟨c, hck, hct, (W_ne hF hk (hall c hck)).2 hcn⟩ hex
end
end
end Go.Proofs.Ytdpgdelimffjpaa.P
