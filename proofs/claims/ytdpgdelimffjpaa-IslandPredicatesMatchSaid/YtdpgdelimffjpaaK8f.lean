/- Texts of this claim, merged: the words that print.sh and the prover's driver wrote, and hand-proved contracts and lemmas, less what this claim does not name. Lean checks them. -/
import Derived.Test.YtdpgdelimffjpaaK8a
import Derived.Test.YtdpgdelimffjpaaK8b
import Derived.Test.YtdpgdelimffjpaaK8c
import Derived.Test.YtdpgdelimffjpaaK8d
import Derived.Test.YtdpgdelimffjpaaK8e
namespace Go.Proofs.Ytdpgdelimffjpaa.P
open Go.RowKit Go.Proofs.YtdpgdelimffjpaaW.PrintWords Go.Proofs.YtdpgdelimffjpaaW.PrintLast Go.Proofs.YtdpgdelimffjpaaW.PrintMore
attribute [local go_sem] max2_int min2_int max_two min_two max_three min_three max_four min_four
set_option linter.unusedVariables false
set_option linter.unusedSimpArgs false
section
/-- Two buses are joined by a list of edges. -/
def conn (E : List (Nat × Nat)) (x y : Nat) : Prop := lab E x = lab E y
instance (E : List (Nat × Nat)) (x y : Nat) : Decidable (conn E x y) := inferInstanceAs (Decidable (lab E x = lab E y))
theorem conn_refl (E : List (Nat × Nat)) (x : Nat) : conn E x x := rfl
theorem conn.symm {E : List (Nat × Nat)} {x y : Nat} (h : conn E x y) : conn E y x := Eq.symm h
theorem conn.trans {E : List (Nat × Nat)} {x y z : Nat} (h : conn E x y) (k : conn E y z) : conn E x z := Eq.trans h k
theorem conn_edge {E : List (Nat × Nat)} {e : Nat × Nat} (h : e ∈ E) : conn E e.1 e.2 := lab_edge h
/-- What joins every edge's ends joins all that the edges join. -/
theorem conn_of {E E' : List (Nat × Nat)} (h : ∀ e ∈ E, conn E' e.1 e.2) {x y : Nat} (k : conn E x y) : conn E' x y := lab_const (lab E') h k
theorem conn_mono {E E' : List (Nat × Nat)} (h : ∀ e ∈ E, e ∈ E') {x y : Nat} (k : conn E x y) : conn E' x y := conn_of (fun e he => conn_edge (h e he)) k
theorem conn_snoc {E : List (Nat × Nat)} {e : Nat × Nat} {x y : Nat} : conn (E ++ [e]) x y ↔ conn E x y ∨ (conn E x e.1 ∧ conn E e.2 y) ∨ (conn E x e.2 ∧ conn E e.1 y) := by
  unfold conn
  rw [lab_snoc]
  unfold merge
  generalize lab E x = fx
  generalize lab E y = fy
  generalize lab E e.1 = f1
  generalize lab E e.2 = f2
  constructor
  · intro h; split at h <;> split at h <;> omega
  · intro h; split <;> split <;> omega
/-- An edge that x does not reach is of no use to x. -/
theorem conn_drop {E E' : List (Nat × Nat)} {e : Nat × Nat} (hE : ∀ d, d ∈ E → d = e ∨ d ∈ E') (hs : ∀ d, d ∈ E' → d ∈ E) (he : e ∈ E) {x y : Nat} (hn : ¬ conn E x e.1) (h : conn E x y) : conn E' x y := by
  have h' : conn (E' ++ [e]) x y := conn_mono (fun d hd => by rcases hE d hd with rfl | h <;> simp_all) h
  have hm : ∀ {u v}, conn E' u v → conn E u v := fun k => conn_mono hs k
  rcases conn_snoc.1 h' with h' | ⟨h', _⟩ | ⟨h', _⟩
  · exact h'
  · exact absurd (hm h') hn
  · exact absurd ((hm h').trans (conn_edge he).symm) hn
/-- A bus that is joined to another has an edge whose other end is joined to it without the bus' own edges. -/
theorem conn_first {E : List (Nat × Nat)} {x y : Nat} (h : conn E x y) (hne : x ≠ y) : ∃ e ∈ E, ∃ z, ((e.1 = x ∧ e.2 = z) ∨ (e.2 = x ∧ e.1 = z)) ∧ conn (E.filter (fun d => d.1 != x && d.2 != x)) z y := by
  have hg := lab_const (fun v => (v = x ∨ ∃ e ∈ E, ∃ z, ((e.1 = x ∧ e.2 = z) ∨ (e.2 = x ∧ e.1 = z)) ∧ conn (E.filter (fun d => d.1 != x && d.2 != x)) z v)) (E := E) (x := x) (y := y) (by
    intro d hd
    apply propext
    by_cases h1 : d.1 = x
    · exact ⟨fun _ => Or.inr ⟨d, hd, d.2, Or.inl ⟨h1, rfl⟩, rfl⟩, fun _ => Or.inl h1⟩
    · by_cases h2 : d.2 = x
      · exact ⟨fun _ => Or.inl h2, fun _ => Or.inr ⟨d, hd, d.1, Or.inr ⟨h2, rfl⟩, rfl⟩⟩
      · have hd0 : conn (E.filter (fun d => d.1 != x && d.2 != x)) d.1 d.2 := conn_edge (List.mem_filter.2 ⟨hd, by simp [h1, h2]⟩)
        constructor
        · rintro (h | ⟨e, he, z, hz, hc⟩)
          · exact absurd h h1
          · exact Or.inr ⟨e, he, z, hz, hc.trans hd0⟩
        · rintro (h | ⟨e, he, z, hz, hc⟩)
          · exact absurd h h2
          · exact Or.inr ⟨e, he, z, hz, hc.trans hd0.symm⟩) h
  have hg2 : (y = x ∨ ∃ e ∈ E, ∃ z, ((e.1 = x ∧ e.2 = z) ∨ (e.2 = x ∧ e.1 = z)) ∧ conn (E.filter (fun d => d.1 != x && d.2 != x)) z y) := hg.mp (Or.inl rfl)
  rcases hg2 with h2 | h2
  · exact absurd h2.symm hne
  · exact h2
end
section
/-- The lines T but k. -/
def less (T : List Nat) (k : Nat) : List Nat := T.filter (fun j => j != k)
theorem mem_less {T : List Nat} {j k : Nat} : j ∈ less T k ↔ j ∈ T ∧ j ≠ k := by simp [less]
/-- Two buses are joined by the lines ks, whose ends en tells. -/
def cn (en : Nat → Nat × Nat) (ks : List Nat) (x y : Nat) : Prop := conn (ks.map en) x y
instance (en : Nat → Nat × Nat) (ks : List Nat) (x y : Nat) : Decidable (cn en ks x y) := inferInstanceAs (Decidable (conn _ x y))
section
variable {en : Nat → Nat × Nat} {T : List Nat} {a x y z k : Nat}
theorem cn_refl : cn en T x x := rfl
theorem cn.symm (h : cn en T x y) : cn en T y x := Eq.symm h
theorem cn.trans (h : cn en T x y) (k : cn en T y z) : cn en T x z := Eq.trans h k
theorem cn_line (h : k ∈ T) : cn en T (en k).1 (en k).2 := conn_edge (List.mem_map_of_mem h)
theorem cn_of {T' : List Nat} (h : ∀ k ∈ T, cn en T' (en k).1 (en k).2) (hc : cn en T x y) : cn en T' x y := conn_of (fun e he => by obtain ⟨k, hk, rfl⟩ := List.mem_map.1 he; exact h k hk) hc
theorem cn_mono {T' : List Nat} (h : ∀ k ∈ T, k ∈ T') (hc : cn en T x y) : cn en T' x y := cn_of (fun _ hk => cn_line (h _ hk)) hc
theorem cn_congr {T' : List Nat} (h : ∀ k, k ∈ T ↔ k ∈ T') : cn en T x y ↔ cn en T' x y := ⟨cn_mono fun k => (h k).1, cn_mono fun k => (h k).2⟩
theorem cn_snoc : cn en (T ++ [k]) x y ↔ cn en T x y ∨ (cn en T x (en k).1 ∧ cn en T (en k).2 y) ∨ (cn en T x (en k).2 ∧ cn en T (en k).1 y) := by
  unfold cn
  rw [List.map_append, List.map_cons, List.map_nil]
  exact conn_snoc
theorem cn_drop {T' : List Nat} (hE : ∀ d, d ∈ T → d = k ∨ d ∈ T') (hs : ∀ d, d ∈ T' → d ∈ T) (hk : k ∈ T) (hn : ¬ cn en T x (en k).1) (h : cn en T x y) : cn en T' x y := by
  refine conn_drop (E := T.map en) (E' := T'.map en) (e := en k) (fun d hd => ?_) (fun d hd => ?_) (List.mem_map_of_mem hk) hn h
  · obtain ⟨j, hj, rfl⟩ := List.mem_map.1 hd
    rcases hE j hj with rfl | h
    · exact Or.inl rfl
    · exact Or.inr (List.mem_map_of_mem h)
  · obtain ⟨j, hj, rfl⟩ := List.mem_map.1 hd
    exact List.mem_map_of_mem (hs j hj)
/-- Line k has the ends x and z. -/
def Inc (en : Nat → Nat × Nat) (k x z : Nat) : Prop := ((en k).1 = x ∧ (en k).2 = z) ∨ ((en k).2 = x ∧ (en k).1 = z)
theorem Inc.cn (h : Inc en k x z) (hk : k ∈ T) : cn en T x z := by
  rcases h with ⟨rfl, rfl⟩ | ⟨rfl, rfl⟩
  · exact cn_line hk
  · exact (cn_line hk).symm
/-- No line joins what the others join: a forest. -/
structure Fo (en : Nat → Nat × Nat) (T : List Nat) : Prop where
  nodup : T.Nodup
  cut : ∀ k ∈ T, ¬ cn en (less T k) (en k).1 (en k).2
theorem Fo.nil : Fo en [] := ⟨List.nodup_nil, fun _ h => absurd h List.not_mem_nil⟩
theorem Fo.snoc (h : Fo en T) (hk : k ∉ T) (hn : ¬ cn en T (en k).1 (en k).2) : Fo en (T ++ [k]) := by
  refine ⟨?_, fun j hj hc => ?_⟩
  · rw [List.nodup_append]
    exact ⟨h.nodup, List.pairwise_singleton _ _, fun a ha b hb e => by simp at hb; subst hb; subst e; exact hk ha⟩
  · rcases List.mem_append.1 hj with hj | hj
    · have hjk : j ≠ k := fun e => hk (e ▸ hj)
      have hl : ∀ d, d ∈ less (T ++ [k]) j ↔ d ∈ less T j ++ [k] := by
        intro d; rw [mem_less]; simp only [List.mem_append, List.mem_singleton, mem_less]
        constructor
        · rintro ⟨h1 | h1, h2⟩
          · exact Or.inl ⟨h1, h2⟩
          · exact Or.inr h1
        · rintro (⟨h1, h2⟩ | h1)
          · exact ⟨Or.inl h1, h2⟩
          · exact ⟨Or.inr h1, fun e => hjk (e.symm.trans h1)⟩
      have hm : ∀ {u v}, cn en (less T j) u v → cn en T u v := fun c => cn_mono (fun d hd => (mem_less.1 hd).1) c
      rcases cn_snoc.1 ((cn_congr hl).1 hc) with hc | ⟨h1, h2⟩ | ⟨h1, h2⟩
      · exact h.cut j hj hc
      · exact hn (((hm h1).symm.trans (cn_line hj)).trans (hm h2).symm)
      · exact hn ((((hm h1).symm.trans (cn_line hj)).trans (hm h2).symm).symm)
    · have e : j = k := by simpa using hj
      subst e
      refine hn ((cn_congr fun d => ?_).1 hc)
      rw [mem_less]; simp only [List.mem_append, List.mem_singleton]
      constructor
      · rintro ⟨h1 | h1, h2⟩
        · exact h1
        · exact absurd h1 h2
      · intro h1; exact ⟨Or.inl h1, fun e => hk (e ▸ h1)⟩
theorem Fo.inc (h : Fo en T) (hk : k ∈ T) (hi : Inc en k x z) : ¬ cn en (less T k) x z := by
  intro hc
  rcases hi with ⟨rfl, rfl⟩ | ⟨rfl, rfl⟩
  · exact h.cut k hk hc
  · exact h.cut k hk hc.symm
/-- What is joined behind line k does without the line by which x was reached. -/
theorem Fo.far (h : Fo en T) {j : Nat} (hk : k ∈ T) (hi : Inc en k x z) (hj : j ∈ T) (hjk : j ≠ k) {p : Nat} (hj2 : Inc en j x p) (hc : cn en (less T k) z y) : cn en (less T j) z y := by
  have hn : ¬ cn en (less T k) z (en j).1 := by
    intro hz
    have hjl : j ∈ less T k := mem_less.2 ⟨hj, hjk⟩
    have : cn en (less T k) x (en j).1 := by
      rcases hj2 with ⟨rfl, rfl⟩ | ⟨rfl, rfl⟩
      · exact cn_refl
      · exact (cn_line hjl).symm
    exact h.inc hk hi (this.trans hz.symm)
  have := cn_drop (T' := less (less T k) j) (fun d hd => (Decidable.em (d = j)).imp id (fun hne => mem_less.2 ⟨hd, hne⟩)) (fun d hd => (mem_less.1 hd).1) (mem_less.2 ⟨hj, hjk⟩) hn hc
  exact cn_mono (fun d hd => mem_less.2 ⟨(mem_less.1 (mem_less.1 hd).1).1, (mem_less.1 hd).2⟩) this
/-- Where a search from x, come by the line 'last', goes on. -/
theorem Fo.step (h : Fo en T) (last : Option Nat) (hl : ∀ j, last = some j → j ∈ T ∧ ∃ p, Inc en j x p) (hne : x ≠ y) :
    cn en (T.filter (fun j => some j != last)) x y ↔ ∃ k ∈ T, some k ≠ last ∧ ∃ z, Inc en k x z ∧ cn en (less T k) z y := by
  constructor
  · intro hc
    obtain ⟨e, he, z, hz, hc2⟩ := conn_first hc hne
    obtain ⟨k, hk, rfl⟩ := List.mem_map.1 he
    have hk2 := List.mem_filter.1 hk
    refine ⟨k, hk2.1, by simpa using hk2.2, z, hz, ?_⟩
    refine conn_mono (fun d hd => ?_) hc2
    obtain ⟨hd1, hd2⟩ := List.mem_filter.1 hd
    obtain ⟨j, hj, rfl⟩ := List.mem_map.1 hd1
    refine List.mem_map_of_mem (mem_less.2 ⟨(List.mem_filter.1 hj).1, fun e => ?_⟩)
    subst e
    simp only [Bool.and_eq_true, bne_iff_ne, ne_eq] at hd2
    rcases hz with ⟨h1, _⟩ | ⟨h1, _⟩
    · exact hd2.1 h1
    · exact hd2.2 h1
  · rintro ⟨k, hk, hkl, z, hi, hc⟩
    have hkm : k ∈ T.filter (fun j => some j != last) := List.mem_filter.2 ⟨hk, by simpa using hkl⟩
    refine (hi.cn hkm).trans ?_
    cases last with
    | none => exact cn_mono (fun d hd => List.mem_filter.2 ⟨(mem_less.1 hd).1, rfl⟩) hc
    | some j =>
      obtain ⟨hj, p, hp⟩ := hl j rfl
      have := h.far hk hi hj (fun e => hkl (by rw [e])) hp hc
      exact cn_mono (fun d hd => List.mem_filter.2 ⟨(mem_less.1 hd).1, by have := (mem_less.1 hd).2; simpa using this⟩) this
/-- The signed use of line t on the way from a to x. -/
def b2i (p : Prop) [Decidable p] : Int := if p then 1 else 0
def W (en : Nat → Nat × Nat) (T : List Nat) (a x t : Nat) : Int := if t ∈ T then b2i (cn en (less T t) a (en t).1) - b2i (cn en (less T t) x (en t).1) else 0
end
end
section
/-- One try of a line: it is written down, and wiped where the search behind it fails. -/
def stepF (on : List Int → Int → Int → Option (Bool × List Int)) (way : List Int) (k next sign : Int) : Option (Bool × List Int) :=
  (on (way.set k.toNat sign) next k).bind fun r => some (r.1, if r.1 = true then r.2 else r.2.set k.toNat 0)
def goF (on : List Int → Int → Int → Option (Bool × List Int)) (L : List S37) (at_ last : Int) : List Int → List Int → Option (Bool × List Int)
  | [], way => some (false, way)
  | k :: ks, way =>
    if k = last then goF on L at_ last ks way
    else if (rd_T37 L k).f0 = at_ then
      (stepF on way k (rd_T37 L k).f1 1).bind fun r => if r.1 = true then some (true, r.2) else
        if (rd_T37 L k).f1 = at_ then (stepF on r.2 k (rd_T37 L k).f0 (-1)).bind fun r => if r.1 = true then some (true, r.2) else goF on L at_ last ks r.2
        else goF on L at_ last ks r.2
    else if (rd_T37 L k).f1 = at_ then (stepF on way k (rd_T37 L k).f0 (-1)).bind fun r => if r.1 = true then some (true, r.2) else goF on L at_ last ks r.2
    else goF on L at_ last ks way
/-- The search, with rounds. -/
def onF (L : List S37) (T : List Int) (tgt : Int) : Nat → List Int → Int → Int → Option (Bool × List Int)
  | 0, _, _, _ => none
  | k + 1, way, at_, last => if at_ = tgt then some (true, way) else goF (onF L T tgt k) L at_ last T way
def enL (L : List S37) (k : Nat) : Nat × Nat := ((rd_T37 L (k : Int)).f0.toNat, (rd_T37 L (k : Int)).f1.toNat)
def castL (T : List Nat) : List Int := T.map (fun (k : Nat) => (k : Int))
def wayOf (L : List S37) (T : List Nat) (a x : Nat) : List Int := (List.range L.length).map (W (enL L) T a x)
structure GoodL (L : List S37) (T : List Nat) : Prop where
  lt : ∀ k ∈ T, k < L.length
  f0 : ∀ k ∈ T, (rd_T37 L (k : Int)).f0 = (((enL L k).1 : Nat) : Int)
  f1 : ∀ k ∈ T, (rd_T37 L (k : Int)).f1 = (((enL L k).2 : Nat) : Int)
  ne : ∀ k ∈ T, (enL L k).1 ≠ (enL L k).2
section
variable {L : List S37} {T : List Nat} {a x z k tgt : Nat}
def OnOk (L : List S37) (T : List Nat) (a tgt : Nat) (last : Option Nat) (x : Nat) (on : List Int → Int → Int → Option (Bool × List Int)) : Prop :=
  ∀ k ∈ T, some k ≠ last → ∀ z, Inc (enL L) k x z → ∃ b, on (wayOf L T a z) (z : Int) (k : Int) = some (b, if b = true then wayOf L T a tgt else wayOf L T a z) ∧ (b = true ↔ cn (enL L) (less T k) z tgt)
/-- How many lines of the forest are not on the way. -/
def off (L : List S37) (T : List Nat) (a x : Nat) : Nat := (T.filter (fun t => W (enL L) T a x t == 0)).length
end
end
section
/-- The spanning forest: line by line, each that the lines before it do not join. -/
def trStep (en : Nat → Nat × Nat) (t : List Nat) (k : Nat) : List Nat := if cn en t (en k).1 (en k).2 then t else t ++ [k]
def tr (en : Nat → Nat × Nat) (ks : List Nat) : List Nat := ks.foldl (trStep en) []
section
variable {en : Nat → Nat × Nat} {T ks : List Nat} {a b x y z k : Nat}
/-! ### how many islands -/
def cnt (f : Nat → Nat) (N : Nat) : Nat := ((List.range N).filter (fun b => f b == b)).length
/-! ### the way, bus by bus -/
def sumTo (F : Nat → Int) : Nat → Int
  | 0 => 0
  | n + 1 => sumTo F n + F n
def dl (x y : Nat) : Int := if x = y then 1 else 0
/-- What line t's ends give to bus x. -/
def dd (en : Nat → Nat × Nat) (t x : Nat) : Int := dl (en t).1 x - dl (en t).2 x
end
end
end Go.Proofs.Ytdpgdelimffjpaa.P

namespace Go.Proofs.Ytdpgdelimffjpaa.P
open Go.RowKit Go.Proofs.YtdpgdelimffjpaaW.PrintWords Go.Proofs.YtdpgdelimffjpaaW.PrintLast Go.Proofs.YtdpgdelimffjpaaW.PrintMore
attribute [local go_sem] max2_int min2_int max_two min_two max_three min_three max_four min_four
set_option linter.unusedVariables false
set_option linter.unusedSimpArgs false
theorem line_ok {b : Int} {L : List S37} (h : chk b L = 0) {k : Nat} (hk : k < L.length) : ∃ u v : Nat, (rd_T37 L (k : Int)).f0 = (u : Int) ∧ (rd_T37 L (k : Int)).f1 = (v : Int) ∧ (u : Int) < b ∧ (v : Int) < b ∧ u ≠ v ∧ enL L k = (u, v) := by
  have hl := (chk_ok h).2.2.2 L[k] (List.getElem_mem hk)
  have hr : rd_T37 L (k : Int) = L[k] := by simp [rd_T37, List.getD_eq_getElem?_getD, hk]
  unfold okLine at hl
  simp only [Bool.and_eq_true, decide_eq_true_eq, bne_iff_ne] at hl
  refine ⟨L[k].f0.toNat, L[k].f1.toNat, ?_, ?_, ?_, ?_, ?_, ?_⟩
  · rw [hr]; omega
  · rw [hr]; omega
  · omega
  · omega
  · omega
  · unfold enL; rw [hr]
theorem edges_en (L : List S37) (out : List Int) : edges L out = (inn L out).map (enL L) := rfl
end Go.Proofs.Ytdpgdelimffjpaa.P

namespace Go.Proofs.Ytdpgdelimffjpaa.P
open Go.RowKit Go.Proofs.YtdpgdelimffjpaaW.PrintWords Go.Proofs.YtdpgdelimffjpaaW.PrintLast Go.Proofs.YtdpgdelimffjpaaW.PrintMore
attribute [local go_sem] max2_int min2_int max_two min_two max_three min_three max_four min_four   -- for this text's walks alone
set_option linter.unusedVariables false
set_option linter.unusedSimpArgs false

theorem eqA37 (d : Nat) (w : World) (x0 y0 : Int) (x1 y1 : Int) (x2 y2 : Int) (x3 y3 : Int) :
  (Op.equalIn (d + 2) 37 (.agg #[.int .i64 x0, .int .i64 x1, .int .i64 x2, .int .i64 x3]) (.agg #[.int .i64 y0, .int .i64 y1, .int .i64 y2, .int .i64 y3])).run Try.prog w = .ok (x0 == y0 && (x1 == y1 && (x2 == y2 && (x3 == y3)))) w := by
 refine eqA_of Try.underlying37 (by kernel_rfl) ?_
 refine eqf_cons (by rfl) (by go_simp; rfl) (by go_simp; rfl) (by go_simp) ?_
 refine eqf_cons (by rfl) (by go_simp; rfl) (by go_simp; rfl) (by go_simp) ?_
 refine eqf_cons (by rfl) (by go_simp; rfl) (by go_simp; rfl) (by go_simp) ?_
 exact eqf_last (by rfl) (by go_simp; rfl) (by go_simp; rfl) (by go_simp)
end Go.Proofs.Ytdpgdelimffjpaa.P

namespace Go.Proofs.Ytdpgdelimffjpaa.P
open Go.RowKit Go.Proofs.YtdpgdelimffjpaaW.PrintWords Go.Proofs.YtdpgdelimffjpaaW.PrintLast Go.Proofs.YtdpgdelimffjpaaW.PrintMore
attribute [local go_sem] max2_int min2_int max_two min_two max_three min_three max_four min_four   -- for this text's walks alone
set_option linter.unusedVariables false
set_option linter.unusedSimpArgs false

attribute [local go_sem high] eqA37
/-! ### api_Line: function 104 -/
def api_Line.l0 : Nat → List (S37) → List (S37) → Int → Int → Option (Bool)
 | 0, _, _, _, _ => none
 | k + 1, x0, x1, x12, x13 => if x13 < x12 then (if 0 ≤ x13 then (if x13 < (x0.length : Int) then (if x13 < (x1.length : Int) then (if (!(((rd_T37 x0 x13).f0) == ((rd_T37 x1 x13).f0)) || (!(((rd_T37 x0 x13).f1) == ((rd_T37 x1 x13).f1)) || (!(((rd_T37 x0 x13).f2) == ((rd_T37 x1 x13).f2)) || (!(((rd_T37 x0 x13).f3) == ((rd_T37 x1 x13).f3)))))) = true then (some false) else (api_Line.l0 k x0 x1 x12 (wrap64 (x13 + 1)))) else (none)) else (none)) else (none)) else (some true)
def api_Line.f (k : Nat) (l0 : List (S37)) (l1 : List (S37)) : Option (Bool) := if (l0.length : Int) = (l1.length : Int) then (api_Line.l0 k l0 l1 (l0.length : Int) 0) else (some false)
end Go.Proofs.Ytdpgdelimffjpaa.P

namespace Go.Proofs.Ytdpgdelimffjpaa.P
open Go.RowKit Go.Proofs.YtdpgdelimffjpaaW.PrintWords Go.Proofs.YtdpgdelimffjpaaW.PrintLast Go.Proofs.YtdpgdelimffjpaaW.PrintMore
attribute [local go_sem] max2_int min2_int max_two min_two max_three min_three max_four min_four   -- for this text's walks alone
set_option linter.unusedVariables false
set_option linter.unusedSimpArgs false

/-! ### net_Equal: function 78 -/
def net_Equal.f (k : Nat) (a0_0 : Int) (l0_1 : List (S37)) (a1_0 : Int) (l1_1 : List (S37)) : Option (Bool) := if a0_0 = a1_0 then ((api_Line.f k l0_1 l1_1).bind fun t1506 => (some t1506)) else (some false)
end Go.Proofs.Ytdpgdelimffjpaa.P

namespace Go.Proofs.Ytdpgdelimffjpaa.P
open Go.RowKit Go.Proofs.YtdpgdelimffjpaaW.PrintWords Go.Proofs.YtdpgdelimffjpaaW.PrintLast Go.Proofs.YtdpgdelimffjpaaW.PrintMore
attribute [local go_sem] max2_int min2_int max_two min_two max_three min_three max_four min_four
set_option linter.unusedVariables false
set_option linter.unusedSimpArgs false
theorem rd_T37_nat {L : List S37} {i : Nat} (h : i < L.length) : rd_T37 L (i : Int) = L[i] := by
  simp [rd_T37, List.getD_eq_getElem?_getD, h]
end Go.Proofs.Ytdpgdelimffjpaa.P

namespace Go.Proofs.Ytdpgdelimffjpaa.P
open Go.RowKit Go.Proofs.YtdpgdelimffjpaaW.PrintWords Go.Proofs.YtdpgdelimffjpaaW.PrintLast Go.Proofs.YtdpgdelimffjpaaW.PrintMore
attribute [local go_sem] max2_int min2_int max_two min_two max_three min_three max_four min_four
set_option linter.unusedVariables false
set_option linter.unusedSimpArgs false
section
theorem Ev.upto {α : Type} {v : α} (N : Nat) (F : Nat → Nat → Option α) (hend : Ev (fun k => F k N) v) (hstep : ∀ i, i < N → Ev (fun k => F k (i + 1)) v → Ev (fun k => F k i) v) : Ev (fun k => F k 0) v := by
  have key : ∀ m i, i + m = N → Ev (fun k => F k i) v := by
    intro m
    induction m with
    | zero => intro i hi; have : i = N := by omega
              subst this; exact hend
    | succ m ih => intro i hi; exact hstep i (by omega) (ih (i + 1) (by omega))
  exact key N 0 (by omega)
theorem wrap_succ {i : Nat} (h : i < 9223372036854775807) : wrap64 ((i : Int) + 1) = ((i + 1 : Nat) : Int) := by rw [wrap_small (by omega) (by omega)]; rfl
theorem chk_line (b : Int) (l : S37) (X : Option Int) : (if l.f0 < 0 then (some 1) else (if l.f0 ≥ b then (some 1) else (if l.f1 < 0 then (some 1) else (if l.f1 ≥ b then (some 1) else (if l.f0 = l.f1 then (some 1) else (if l.f2 < 1 then (some 1) else (if l.f2 > 1000 then (some 1) else (if l.f3 < 0 then (some 1) else (if l.f3 > 1000000 then (some 1) else X))))))))) = if okLine b l = true then X else some 1 := by
  by_cases hok : okLine b l = true
  · have h := hok
    unfold okLine at h
    simp only [Bool.and_eq_true, decide_eq_true_eq, bne_iff_ne] at h
    obtain ⟨⟨⟨h1, h2⟩, h3⟩, h4⟩ := h
    rw [if_neg (by omega), if_neg (by omega), if_neg (by omega), if_neg (by omega), if_neg (by omega), if_neg (by omega), if_neg (by omega), if_neg (by omega), if_neg (by omega), if_pos hok]
  · rw [if_neg hok]
    by_cases c0 : l.f0 < 0
    · rw [if_pos c0]
    rw [if_neg c0]
    by_cases c1 : l.f0 ≥ b
    · rw [if_pos c1]
    rw [if_neg c1]
    by_cases c2 : l.f1 < 0
    · rw [if_pos c2]
    rw [if_neg c2]
    by_cases c3 : l.f1 ≥ b
    · rw [if_pos c3]
    rw [if_neg c3]
    by_cases c4 : l.f0 = l.f1
    · rw [if_pos c4]
    rw [if_neg c4]
    by_cases c5 : l.f2 < 1
    · rw [if_pos c5]
    rw [if_neg c5]
    by_cases c6 : l.f2 > 1000
    · rw [if_pos c6]
    rw [if_neg c6]
    by_cases c7 : l.f3 < 0
    · rw [if_pos c7]
    rw [if_neg c7]
    by_cases c8 : l.f3 > 1000000
    · rw [if_pos c8]
    refine absurd ?_ hok
    unfold okLine
    simp only [Bool.and_eq_true, decide_eq_true_eq, bne_iff_ne]
    exact ⟨⟨⟨by omega, c4⟩, by omega⟩, by omega⟩
/-- The document's Check is the program's. -/
theorem chkR_ev (b : Int) (L : List S37) : Ev (fun k => pylonref14_Check.f k b L) (chk b L) := by
  by_cases hb : b < 1 ∨ 6 < b
  · refine Ev.eq (G := fun k => pylonref14_Check.j0 k true b L) (fun k => ?_) (Ev.succ (G := fun _ => some (chk b L)) (fun k => ?_) (Ev.some_ _))
    · rw [pylonref14_Check.f]
      by_cases h : b < 1
      · rw [if_pos h]
      · rw [if_neg h, decide_eq_true (by omega)]
    · rw [pylonref14_Check.j0, if_pos rfl, chk, if_pos hb]
  · refine Ev.eq (G := fun k => pylonref14_Check.j0 k false b L) (fun k => ?_) ?_
    · rw [pylonref14_Check.f, if_neg (by omega), decide_eq_false (by omega)]
    · by_cases hl : 10 < L.length
      · refine Ev.succ (G := fun _ => some (chk b L)) (fun k => ?_) (Ev.some_ _)
        rw [pylonref14_Check.j0, if_neg (by simp), if_pos (by omega), chk, if_neg hb, if_pos hl]
      · refine Ev.succ (G := fun k => pylonref14_Check.l0 k 0 b L) (fun k => ?_) ?_
        · rw [pylonref14_Check.j0, if_neg (by simp), if_neg (by omega)]
        · have hv : chk b L = if L.all (okLine b) then 0 else 1 := by rw [chk, if_neg hb, if_neg hl]
          have key : ∀ m i, i + m = L.length → Ev (fun k => pylonref14_Check.l0 k (i : Int) b L) (if (L.drop i).all (okLine b) then 0 else 1) := by
            intro m
            induction m with
            | zero =>
              intro i hi
              rw [List.drop_eq_nil_of_le (by omega)]
              refine Ev.succ (G := fun _ => some 0) (fun k => ?_) (Ev.some_ _)
              rw [pylonref14_Check.l0, if_neg (by omega)]
            | succ m ih =>
              intro i hi
              have hil : i < L.length := by omega
              have hnext := ih (i + 1) (by omega)
              rw [List.drop_eq_getElem_cons hil, List.all_cons, ← rd_T37_nat hil]
              refine Ev.succ (G := fun k => if okLine b (rd_T37 L (i : Int)) = true then pylonref14_Check.l0 k ((i + 1 : Nat) : Int) b L else some 1) (fun k => ?_) ?_
              · rw [pylonref14_Check.l0, if_pos (by omega), if_pos (by omega), wrap_succ (by omega), chk_line]
              · by_cases hok : okLine b (rd_T37 L (i : Int)) = true
                · rw [hok, Bool.true_and]
                  exact Ev.eq (fun k => if_pos rfl) hnext
                · rw [Bool.eq_false_iff.mpr hok, Bool.false_and]
                  exact Ev.eq (G := fun _ => some 1) (fun k => if_neg (by simp)) (Ev.some_ _)
          rw [hv]
          exact key L.length 0 (by omega)
def ltAll (n : Nat) (l : List Int) : Bool := decide (∀ x ∈ l, x < (n : Int))
theorem ltAll_cons (n : Nat) (x : Int) (l : List Int) : ltAll n (x :: l) = (decide (x < (n : Int)) && ltAll n l) := by
  unfold ltAll
  rw [Bool.eq_iff_iff]
  simp only [Bool.and_eq_true, decide_eq_true_eq, List.forall_mem_cons]
/-- The document's Outs is the program's. -/
theorem outsR_ev (b : Int) (L : List S37) (out : List Int) (ho : out.length ≤ 1000000) : Ev (fun k => pylonref14_Outs.f k b L out) (outsV b L out) := by
  refine Ev.bind (chkR_ev b L) ?_
  by_cases hc : chk b L = 0
  · refine Ev.eq (G := fun k => pylonref14_Outs.l0 k out 0 b L) (fun k => if_pos hc) ?_
    have hv : outsV b L out = if (risesFrom (-1) out && ltAll L.length out) = true then 0 else 1 := by rw [outsV, if_pos hc]; rfl
    have key : ∀ m i, i + m = out.length → ∀ last : Int, -1 ≤ last → (0 < i → last = rd out ((i - 1 : Nat) : Int)) → (i = 0 → last = -1) → Ev (fun k => pylonref14_Outs.l0 k out (i : Int) b L) (if (risesFrom last (out.drop i) && ltAll L.length (out.drop i)) = true then 0 else 1) := by
      intro m
      induction m with
      | zero =>
        intro i hi last _ _ _
        rw [List.drop_eq_nil_of_le (by omega)]
        refine Ev.succ (G := fun _ => some 0) (fun k => ?_) (Ev.some_ _)
        rw [pylonref14_Outs.l0, if_neg (by omega)]
      | succ m ih =>
        intro i hi last hl0 hl1 hl2
        have hil : i < out.length := by omega
        have hx := rd_nat out i hil
        rw [List.drop_eq_getElem_cons hil, ← hx]
        have hval : (risesFrom last (rd out (i : Int) :: out.drop (i + 1)) && ltAll L.length (rd out (i : Int) :: out.drop (i + 1))) = (decide (last < rd out (i : Int)) && decide (rd out (i : Int) < (L.length : Int)) && (risesFrom (rd out (i : Int)) (out.drop (i + 1)) && ltAll L.length (out.drop (i + 1)))) := by
          rw [risesFrom, ltAll_cons]
          cases decide (last < rd out (i : Int)) <;> cases decide (rd out (i : Int) < (L.length : Int)) <;> cases risesFrom (rd out (i : Int)) (out.drop (i + 1)) <;> rfl
        rw [hval]
        by_cases c : last < rd out (i : Int) ∧ rd out (i : Int) < (L.length : Int)
        · rw [decide_eq_true c.1, decide_eq_true c.2, Bool.true_and, Bool.true_and]
          refine Ev.succ (fun k => ?_) (ih (i + 1) (by omega) (rd out (i : Int)) (by omega) (fun _ => rfl) (fun h => by omega))
          rw [pylonref14_Outs.l0, if_pos (by omega), if_pos (by omega), if_neg (by omega), if_neg (by omega), wrap_succ (by omega)]
          by_cases hi0 : i = 0
          · subst hi0; rw [if_neg (by omega)]
          · have hw : wrap64 ((i : Int) - 1) = ((i - 1 : Nat) : Int) := by rw [wrap_small (by omega) (by omega)]; omega
            rw [if_pos (by omega), hw, if_pos (by omega), if_pos (by omega), if_neg (by rw [← hl1 (by omega)]; omega)]
        · have e : (decide (last < rd out (i : Int)) && decide (rd out (i : Int) < (L.length : Int))) = false := by
            rw [Bool.eq_false_iff]; intro h; simp only [Bool.and_eq_true, decide_eq_true_eq] at h; exact c h
          rw [e, Bool.false_and]
          refine Ev.succ (G := fun _ => some 1) (fun k => ?_) (Ev.some_ _)
          rw [pylonref14_Outs.l0, if_pos (by omega), if_pos (by omega)]
          by_cases h1 : rd out (i : Int) < 0
          · rw [if_pos h1]
          rw [if_neg h1]
          by_cases h2 : rd out (i : Int) ≥ (L.length : Int)
          · rw [if_pos h2]
          rw [if_neg h2]
          by_cases hi0 : i = 0
          · have := hl2 hi0; omega
          · have hw : wrap64 ((i : Int) - 1) = ((i - 1 : Nat) : Int) := by rw [wrap_small (by omega) (by omega)]; omega
            rw [if_pos (by omega), hw, if_pos (by omega), if_pos (by omega), if_pos (by rw [← hl1 (by omega)]; omega)]
    have := key out.length 0 (by omega) (-1) (by omega) (fun h => by omega) (fun _ => rfl)
    rw [hv]; exact this
  · have hv : outsV b L out = chk b L := by rw [outsV, if_neg hc]
    rw [hv]
    exact Ev.eq (G := fun _ => some (chk b L)) (fun k => if_neg hc) (Ev.some_ _)
theorem hasR_ev (l : List Int) (x : Int) (hl : l.length ≤ 1000000) : Ev (fun k => pylonref14_Has.f k l x) (decide (x ∈ l)) := by
  have key : ∀ m i, i + m = l.length → (∀ j (hj : j < l.length), j < i → l[j] ≠ x) → Ev (fun k => pylonref14_Has.l0 k l x (i : Int)) (decide (x ∈ l)) := by
    intro m
    induction m with
    | zero =>
      intro i hi hno
      have hn : x ∉ l := by
        intro hm
        obtain ⟨j, hj, e⟩ := List.getElem_of_mem hm
        exact hno j hj (by omega) e
      refine Ev.succ (G := fun _ => some (decide (x ∈ l))) (fun k => ?_) (Ev.some_ _)
      rw [pylonref14_Has.l0, if_neg (by omega), decide_eq_false hn]
    | succ m ih =>
      intro i hi hno
      have hil : i < l.length := by omega
      by_cases he : l[i] = x
      · have hm : x ∈ l := by rw [← he]; exact List.getElem_mem hil
        refine Ev.succ (G := fun _ => some (decide (x ∈ l))) (fun k => ?_) (Ev.some_ _)
        rw [pylonref14_Has.l0, if_pos (by omega), if_pos (by omega), rd_nat l i hil, if_pos he, decide_eq_true hm]
      · refine Ev.succ (fun k => ?_) (ih (i + 1) (by omega) (fun j hj hji => ?_))
        · rw [pylonref14_Has.l0, if_pos (by omega), if_pos (by omega), rd_nat l i hil, if_neg he, wrap_small (by omega) (by omega)]; rfl
        · by_cases h : j = i
          · subst h; exact he
          · exact hno j hj (by omega)
  exact key l.length 0 (by omega) (fun j _ h => absurd h (Nat.not_lt_zero _))
/-- The numbers below n that are not in l. -/
def coN (l : List Int) (n : Nat) : List Int := ((List.range n).filter (fun (k : Nat) => !l.contains (k : Int))).map (fun (k : Nat) => (k : Int))
theorem coN_succ (l : List Int) (n : Nat) : coN l (n + 1) = if (n : Int) ∈ l then coN l n else coN l n ++ [(n : Int)] := by
  unfold coN
  rw [List.range_succ, List.filter_append, List.map_append]
  by_cases h : (n : Int) ∈ l
  · rw [if_pos h]; simp [h]
  · rw [if_neg h]; simp [h]
theorem coN_len (l : List Int) (n : Nat) : (coN l n).length ≤ n := by
  unfold coN
  rw [List.length_map]
  have := List.length_filter_le (fun (k : Nat) => !l.contains (k : Int)) (List.range n)
  rwa [List.length_range] at this
theorem inR_ev (b : Int) (L : List S37) (l : List Int) (hl : l.length ≤ 1000000) (hL : L.length ≤ 1000000) : Ev (fun k => pylonref14_In.f k b L l) (inL L l) := by
  refine Ev.upto L.length (fun k i => pylonref14_In.l0 k l (coN l i) (i : Int) b L) ?_ fun i hi h => ?_
  · refine Ev.succ (G := fun _ => some (coN l L.length)) (fun k => ?_) (Ev.some_ _)
    rw [pylonref14_In.l0, if_neg (by omega)]
  · have hc := coN_len l i
    have hs := coN_succ l i
    refine Ev.succ (G := fun k => (pylonref14_Has.f k l (i : Int)).bind fun t => (if t = true then (pylonref14_In.l0 k l (coN l i) (wrap64 ((i : Int) + 1)) b L) else (if (coN l i).length < 17592186044416 then (pylonref14_In.l0 k l (coN l i ++ [(i : Int)]) (wrap64 ((i : Int) + 1)) b L) else (none)))) (fun k => ?_) ?_
    · rw [pylonref14_In.l0, if_pos (by omega)]
    · refine Ev.bind (hasR_ev l (i : Int) hl) (Ev.eq (fun k => ?_) h)
      rw [wrap_succ (by omega)]
      by_cases hm : (i : Int) ∈ l
      · rw [decide_eq_true hm, if_pos rfl, hs, if_pos hm]
      · rw [decide_eq_false hm, if_neg (by simp), if_pos (by omega), hs, if_neg hm]
end
end Go.Proofs.Ytdpgdelimffjpaa.P

namespace Go.Proofs.Ytdpgdelimffjpaa.P
open Go.RowKit Go.Proofs.YtdpgdelimffjpaaW.PrintWords Go.Proofs.YtdpgdelimffjpaaW.PrintLast Go.Proofs.YtdpgdelimffjpaaW.PrintMore
attribute [local go_sem] max2_int min2_int max_two min_two max_three min_three max_four min_four
set_option linter.unusedVariables false
set_option linter.unusedSimpArgs false
section
/-- One line's step of the search: where one end is reached, both are. -/
def rlx (f : Nat → Bool) (e : Nat × Nat) : Nat → Bool := fun x => if ((f e.1 || f e.2) && (x == e.1 || x == e.2)) = true then true else f x
def pss (E : List (Nat × Nat)) (f : Nat → Bool) : Nat → Bool := E.foldl rlx f
def itr (E : List (Nat × Nat)) (f : Nat → Bool) : Nat → (Nat → Bool)
  | 0 => f
  | r + 1 => pss E (itr E f r)
def cntF (f : Nat → Bool) : Nat → Nat
  | 0 => 0
  | n + 1 => cntF f n + (if f n = true then 1 else 0)
theorem cntF_le (f : Nat → Bool) : ∀ n, cntF f n ≤ n
  | 0 => Nat.le_refl _
  | n + 1 => by have := cntF_le f n; rw [cntF]; split <;> omega
theorem cntF_mono {f g : Nat → Bool} (h : ∀ x, f x = true → g x = true) : ∀ n, cntF f n ≤ cntF g n
  | 0 => Nat.le_refl _
  | n + 1 => by
    have := cntF_mono h n
    rw [cntF, cntF]
    by_cases hf : f n = true
    · rw [if_pos hf, if_pos (h n hf)]; omega
    · rw [if_neg hf]; split <;> omega
theorem cntF_lt {f g : Nat → Bool} (h : ∀ x, f x = true → g x = true) {x : Nat} (hf : f x = false) (hg : g x = true) : ∀ n, x < n → cntF f n < cntF g n
  | 0, hx => by omega
  | n + 1, hx => by
    rw [cntF, cntF]
    by_cases e : x = n
    · subst e
      have := cntF_mono h x
      rw [hf, hg, if_neg (by simp), if_pos rfl]; omega
    · have := cntF_lt h hf hg n (by omega)
      by_cases hfn : f n = true
      · rw [if_pos hfn, if_pos (h n hfn)]; omega
      · rw [if_neg hfn]; split <;> omega
theorem rlx_mono {f : Nat → Bool} {e : Nat × Nat} {x : Nat} (h : f x = true) : rlx f e x = true := by unfold rlx; split <;> trivial
theorem pss_mono (E : List (Nat × Nat)) : ∀ {f : Nat → Bool} {x : Nat}, f x = true → pss E f x = true := by
  induction E with
  | nil => intro f x h; exact h
  | cons e E ih => intro f x h; exact ih (f := rlx f e) (rlx_mono h)
theorem rlx_same {f : Nat → Bool} {e : Nat × Nat} (h : f e.1 = f e.2) : rlx f e = f := by
  funext x
  unfold rlx
  split
  · rename_i hc
    rw [Bool.and_eq_true, Bool.or_eq_true, Bool.or_eq_true, beq_iff_eq, beq_iff_eq] at hc
    rcases hc with ⟨h1, h2⟩
    have h3 : f e.1 = true := by
      rcases h1 with h1 | h1
      · exact h1
      · rw [h]; exact h1
    rcases h2 with rfl | rfl
    · exact h3.symm
    · rw [← h]; exact h3.symm
  · rfl
theorem pss_same {f : Nat → Bool} : ∀ {E : List (Nat × Nat)}, (∀ e ∈ E, f e.1 = f e.2) → pss E f = f := by
  intro E
  induction E with
  | nil => intro _; rfl
  | cons e E ih =>
    intro h
    show pss E (rlx f e) = f
    rw [rlx_same (h e (List.mem_cons_self ..))]
    exact ih (fun d hd => h d (List.mem_cons_of_mem _ hd))
theorem pss_edge : ∀ {E : List (Nat × Nat)} {f : Nat → Bool} {e : Nat × Nat}, e ∈ E → (f e.1 = true ∨ f e.2 = true) → pss E f e.1 = true ∧ pss E f e.2 = true := by
  intro E
  induction E with
  | nil => intro f e h; cases h
  | cons d E ih =>
    intro f e he h
    rcases List.mem_cons.1 he with rfl | he
    · have h1 : (f e.1 || f e.2) = true := by rw [Bool.or_eq_true]; exact h
      exact ⟨pss_mono E (by unfold rlx; rw [if_pos (by rw [h1]; simp)]), pss_mono E (by unfold rlx; rw [if_pos (by rw [h1]; simp)])⟩
    · exact ih (f := rlx f d) he (h.imp rlx_mono rlx_mono)
theorem itr_stable {E : List (Nat × Nat)} {f : Nat → Bool} {N : Nat} (hE : ∀ e ∈ E, e.1 < N ∧ e.2 < N) : ∀ r, (∀ e ∈ E, itr E f r e.1 = itr E f r e.2) ∨ cntF f N + r ≤ cntF (itr E f r) N
  | 0 => Or.inr (Nat.le_refl _)
  | r + 1 => by
    rcases itr_stable (f := f) hE r with h | h
    · refine Or.inl fun e he => ?_
      show pss E (itr E f r) e.1 = pss E (itr E f r) e.2
      rw [pss_same h]; exact h e he
    · by_cases hs : ∀ e ∈ E, itr E f r e.1 = itr E f r e.2
      · refine Or.inl fun e he => ?_
        show pss E (itr E f r) e.1 = pss E (itr E f r) e.2
        rw [pss_same hs]; exact hs e he
      · refine Or.inr ?_
        obtain ⟨e, he⟩ := Classical.not_forall.1 hs
        obtain ⟨hm, hne⟩ := Classical.not_imp.1 he
        obtain ⟨b1, b2⟩ := hE e hm
        have key : ∃ x, x < N ∧ itr E f r x = false ∧ pss E (itr E f r) x = true := by
          cases h1 : itr E f r e.1 with
          | true =>
            cases h2 : itr E f r e.2 with
            | true => exact absurd (h1.trans h2.symm) hne
            | false => exact ⟨e.2, b2, h2, (pss_edge hm (Or.inl h1)).2⟩
          | false =>
            cases h2 : itr E f r e.2 with
            | true => exact ⟨e.1, b1, h1, (pss_edge hm (Or.inr h2)).1⟩
            | false => exact absurd (h1.trans h2.symm) hne
        obtain ⟨x, hx, hx1, hx2⟩ := key
        have := cntF_lt (f := itr E f r) (g := pss E (itr E f r)) (fun y hy => pss_mono E hy) hx1 hx2 N hx
        show cntF f N + (r + 1) ≤ cntF (pss E (itr E f r)) N
        omega
theorem rlx_conn {E : List (Nat × Nat)} {a : Nat} {f : Nat → Bool} {e : Nat × Nat} (he : e ∈ E) (h : ∀ x, f x = true → conn E a x) : ∀ x, rlx f e x = true → conn E a x := by
  intro x hx
  unfold rlx at hx
  split at hx
  · rename_i hc
    rw [Bool.and_eq_true, Bool.or_eq_true, Bool.or_eq_true, beq_iff_eq, beq_iff_eq] at hc
    obtain ⟨h1, h2⟩ := hc
    have h3 : conn E a e.1 ∧ conn E a e.2 := by
      rcases h1 with h1 | h1
      · exact ⟨h _ h1, (h _ h1).trans (conn_edge he)⟩
      · exact ⟨(h _ h1).trans (conn_edge he).symm, h _ h1⟩
    rcases h2 with rfl | rfl
    · exact h3.1
    · exact h3.2
  · exact h x hx
theorem fold_conn {E : List (Nat × Nat)} {a : Nat} : ∀ (D : List (Nat × Nat)) (f : Nat → Bool), (∀ e ∈ D, e ∈ E) → (∀ x, f x = true → conn E a x) → ∀ x, pss D f x = true → conn E a x := by
  intro D
  induction D with
  | nil => intro f _ h; exact h
  | cons d D ih => intro f hd h; exact ih (rlx f d) (fun e he => hd e (List.mem_cons_of_mem _ he)) (rlx_conn (hd d (List.mem_cons_self ..)) h)
theorem itr_conn {E : List (Nat × Nat)} {a : Nat} {f : Nat → Bool} (h : ∀ x, f x = true → conn E a x) : ∀ r x, itr E f r x = true → conn E a x
  | 0 => h
  | r + 1 => fold_conn E _ (fun _ he => he) (itr_conn h r)
theorem itr_mono {E : List (Nat × Nat)} {f : Nat → Bool} {x : Nat} (h : f x = true) : ∀ r, itr E f r x = true
  | 0 => h
  | r + 1 => pss_mono E (itr_mono h r)
/-- The search from bus a over the edges E ends with a's island. -/
theorem reach_conn {E : List (Nat × Nat)} {N a : Nat} (hE : ∀ e ∈ E, e.1 < N ∧ e.2 < N) (ha : a < N) (x : Nat) : itr E (fun y => y == a) N x = decide (conn E a x) := by
  have h0 : 0 < cntF (fun y => y == a) N := by
    have := cntF_lt (f := fun _ => false) (g := fun y => y == a) (fun _ h => by cases h) (x := a) rfl (by simp) N ha
    omega
  have hst : ∀ e ∈ E, itr E (fun y => y == a) N e.1 = itr E (fun y => y == a) N e.2 := by
    rcases itr_stable (f := fun y => y == a) hE N with h | h
    · exact h
    · have := cntF_le (itr E (fun y => y == a) N) N; omega
  rw [Bool.eq_iff_iff, decide_eq_true_iff]
  constructor
  · exact itr_conn (fun y hy => by rw [beq_iff_eq] at hy; rw [hy]; exact conn_refl E a) N x
  · intro h
    have := lab_const (itr E (fun y => y == a) N) hst h
    rw [← this]; exact itr_mono (by simp) N
end
end Go.Proofs.Ytdpgdelimffjpaa.P

namespace Go.Proofs.Ytdpgdelimffjpaa.P
open Go.RowKit Go.Proofs.YtdpgdelimffjpaaW.PrintWords Go.Proofs.YtdpgdelimffjpaaW.PrintLast Go.Proofs.YtdpgdelimffjpaaW.PrintMore
attribute [local go_sem] max2_int min2_int max_two min_two max_three min_three max_four min_four
set_option linter.unusedVariables false
set_option linter.unusedSimpArgs false
section
/-- A list of booleans told by a function. -/
def blist (N : Nat) (f : Nat → Bool) : List Bool := (List.range N).map f
theorem blist_len (N : Nat) (f : Nat → Bool) : (blist N f).length = N := by simp [blist]
theorem rd_blist {N : Nat} {f : Nat → Bool} {x : Nat} (h : x < N) : rdOf false (blist N f) (x : Int) = f x := by
  unfold rdOf blist
  rw [Int.toNat_natCast, List.getD_eq_getElem?_getD, List.getElem?_map, List.getElem?_range h]; rfl
theorem blist_congr {N : Nat} {f g : Nat → Bool} (h : ∀ x, x < N → f x = g x) : blist N f = blist N g := by
  unfold blist
  exact List.map_congr_left fun x hx => h x (List.mem_range.1 hx)
theorem blist_set {N : Nat} {f : Nat → Bool} {u v : Nat} (h : (f u || f v) = true) : ((blist N f).set u true).set v true = blist N (rlx f (u, v)) := by
  unfold blist
  apply List.ext_getElem
  · simp
  · intro i h1 h2
    rw [List.getElem_set, List.getElem_set, List.getElem_map, List.getElem_map, List.getElem_range]
    show (if v = i then true else if u = i then true else f i) = (if ((f u || f v) && (i == u || i == v)) = true then true else f i)
    rw [h, Bool.true_and]
    by_cases hv : v = i
    · subst hv; simp
    · by_cases hu : u = i
      · subst hu; simp
      · have e1 : (i == u) = false := beq_eq_false_iff_ne.2 fun e => hu e.symm
        have e2 : (i == v) = false := beq_eq_false_iff_ne.2 fun e => hv e.symm
        rw [if_neg hv, if_neg hu, e1, e2]; simp
theorem rlx_none {f : Nat → Bool} {u v : Nat} (h : (f u || f v) = false) : rlx f (u, v) = f := by
  funext x
  unfold rlx
  rw [h, Bool.false_and, if_neg (by simp)]
theorem pss_snoc (E : List (Nat × Nat)) (e : Nat × Nat) (f : Nat → Bool) : pss (E ++ [e]) f = rlx (pss E f) e := by simp [pss]
theorem blist_start {N a : Nat} : (List.replicate N false).set a true = blist N (fun y => y == a) := by
  unfold blist
  apply List.ext_getElem
  · simp
  · intro i h1 h2
    rw [List.getElem_set, List.getElem_replicate, List.getElem_map, List.getElem_range]
    by_cases h : a = i
    · subst h; simp
    · rw [if_neg h]; exact (beq_eq_false_iff_ne.2 fun e => h e.symm).symm
theorem rd_inL {L : List S37} {out : List Int} {i : Nat} (h : i < (inn L out).length) : rd (inL L out) (i : Int) = (((inn L out)[i] : Nat) : Int) := by
  rw [rd_nat _ i (by rw [inL_len]; exact h)]; simp [inL]
theorem edges_len (L : List S37) (out : List Int) : (edges L out).length = (inn L out).length := by simp [edges]
/-- The i-th line in service, with its ends. -/
theorem in_line {N : Nat} {L : List S37} {out : List Int} (h : outsV (N : Int) L out = 0) {i : Nat} (hi : i < (inn L out).length) : ∃ (k : Nat) (u v : Nat), rd (inL L out) (i : Int) = (k : Int) ∧ k < L.length ∧ (rd_T37 L (k : Int)).f0 = (u : Int) ∧ (rd_T37 L (k : Int)).f1 = (v : Int) ∧ u < N ∧ v < N ∧ u ≠ v ∧ (edges L out)[i]? = some (u, v) ∧ k = (inn L out)[i] ∧ enL L k = (u, v) := by
  have hm := mem_inn.1 (List.getElem_mem hi)
  obtain ⟨u, v, h0, h1, h2, h3, h4, h5⟩ := line_ok (outsV_ok h).1 hm.1
  refine ⟨(inn L out)[i], u, v, rd_inL hi, hm.1, h0, h1, by omega, by omega, h4, ?_, rfl, h5⟩
  rw [edges_en, List.getElem?_map, List.getElem?_eq_getElem hi]
  show some (enL L (inn L out)[i]) = _
  rw [h5]
theorem edges_lt' {N : Nat} {L : List S37} {out : List Int} (h : outsV (N : Int) L out = 0) {e : Nat × Nat} (he : e ∈ edges L out) : e.1 < N ∧ e.2 < N := by
  obtain ⟨i, hi, rfl⟩ := List.getElem_of_mem he
  obtain ⟨k, u, v, _, _, _, _, h1, h2, _, h3, _, _⟩ := in_line h (i := i) (by rw [← edges_len]; exact hi)
  rw [List.getElem?_eq_getElem hi] at h3
  rw [Option.some.inj h3]
  exact ⟨h1, h2⟩
/-- The document's search reaches the bus' island. -/
theorem reachR_ev {N : Nat} {L : List S37} {out : List Int} (h : outsV (N : Int) L out = 0) {a : Nat} (ha : a < N) : Ev (fun k => pylonref15_reach.f k (N : Int) L out (a : Int)) (blist N (fun x => decide (conn (edges L out) a x))) := by
  have hb := outs_bus h
  have hol := outsV_len h
  have hil := inL_len L out
  have hil2 := inn_len L out
  have hel := edges_len L out
  have hround : ∀ (f : Nat → Bool) (r : Int) (v : List Bool), Ev (fun k => pylonref15_reach.l0 k (blist N (pss (edges L out) f)) (inL L out) (wrap64 (r + 1)) (N : Int) L) v → Ev (fun k => pylonref15_reach.l1 k (blist N f) (inL L out) r 0 (N : Int) L) v := by
    intro f r v hv
    refine Ev.upto (inn L out).length (fun k i => pylonref15_reach.l1 k (blist N (pss ((edges L out).take i) f)) (inL L out) r (i : Int) (N : Int) L) ?_ fun i hi hnext => ?_
    · refine Ev.succ (fun k => ?_) hv
      rw [pylonref15_reach.l1, if_neg (by omega), List.take_of_length_le (by omega)]
    · obtain ⟨k, u, w, h1, h2, h3, h4, h5, h6, h7, h8, _, _⟩ := in_line h hi
      have htk : (edges L out).take (i + 1) = (edges L out).take i ++ [(u, w)] := by
        rw [List.take_add_one, h8]; rfl
      rw [htk, pss_snoc] at hnext
      generalize pss ((edges L out).take i) f = g at hnext ⊢
      have hgl := blist_len N g
      have hu : rdOf false (blist N g) (u : Int) = g u := rd_blist h5
      have hw : rdOf false (blist N g) (w : Int) = g w := rd_blist h6
      refine Ev.succ (fun k => ?_) hnext
      rw [pylonref15_reach.l1, if_pos (by omega), if_pos (by omega), h1, if_pos (by omega), if_pos (by omega), h3, h4, if_pos (by omega), if_pos (by omega), hu, hw, wrap_succ (by omega)]
      simp only [Int.toNat_natCast]
      by_cases c : g u = true
      · rw [if_pos c, if_pos (by omega), if_pos (by omega), blist_set (by rw [c]; rfl)]
      · rw [if_neg c, if_pos (by omega), if_pos (by omega)]
        by_cases c2 : g w = true
        · rw [if_pos c2, blist_set (by rw [c2]; simp)]
        · rw [if_neg c2, rlx_none (by rw [Bool.eq_false_iff.mpr c, Bool.eq_false_iff.mpr c2]; rfl)]
  have hall : Ev (fun k => pylonref15_reach.l0 k (blist N (fun y => y == a)) (inL L out) 0 (N : Int) L) (blist N (itr (edges L out) (fun y => y == a) N)) := by
    refine Ev.upto N (fun k r => pylonref15_reach.l0 k (blist N (itr (edges L out) (fun y => y == a) r)) (inL L out) (r : Int) (N : Int) L) ?_ fun r hr hnext => ?_
    · refine Ev.succ (G := fun _ => some (blist N (itr (edges L out) (fun y => y == a) N))) (fun k => ?_) (Ev.some_ _)
      rw [pylonref15_reach.l0, if_neg (by omega)]
    · refine Ev.succ (fun k => ?_) (hround (itr (edges L out) (fun y => y == a) r) (r : Int) _ (by rw [wrap_succ (by omega)]; exact hnext))
      rw [pylonref15_reach.l0, if_pos (by omega)]
  have e : blist N (fun x => decide (conn (edges L out) a x)) = blist N (itr (edges L out) (fun y => y == a) N) := blist_congr fun x hx => (reach_conn (fun e he => edges_lt' h he) ha x).symm
  rw [e]
  refine Ev.eq (G := fun k => (pylonref14_In.f k (N : Int) L out).bind fun t => pylonref15_reach.l0 k (blist N (fun y => y == a)) t 0 (N : Int) L) (fun k => ?_) (Ev.bind (inR_ev _ _ _ (by omega) (by omega)) hall)
  rw [pylonref15_reach.f, if_pos (by omega), if_pos (by omega), Option.bind_some, if_pos (by omega), if_pos (by simp; omega)]
  simp only [Int.toNat_natCast]
  rw [blist_start]
/-- The place of a reference bus among them. -/
theorem refs_prefix (f : Nat → Nat) (n : Nat) : ∀ m, ∃ more, refsOf f (n + m) = refsOf f n ++ more
  | 0 => ⟨[], by simp⟩
  | m + 1 => by
    obtain ⟨more, h⟩ := refs_prefix f n m
    rw [← Nat.add_assoc, refsOf_succ, h]
    by_cases hf : f (n + m) = n + m
    · rw [if_pos hf]; exact ⟨more ++ [((n + m : Nat) : Int)], by rw [List.append_assoc]⟩
    · rw [if_neg hf]; exact ⟨more, rfl⟩
theorem refs_at {f : Nat → Nat} {N b : Nat} (hb : b < N) (h : f b = b) : (refsOf f N)[(refsOf f b).length]? = some (b : Int) := by
  obtain ⟨more, hm⟩ := refs_prefix f (b + 1) (N - (b + 1))
  rw [show b + 1 + (N - (b + 1)) = N by omega, refsOf_succ, if_pos h] at hm
  rw [hm, List.append_assoc, List.getElem?_append_right (Nat.le_refl _), Nat.sub_self]; rfl
theorem refs_mem' {f : Nat → Nat} (hf : Lb f) {N b : Nat} (hb : b < N) : ((f b : Nat) : Int) ∈ refsOf f N := by
  unfold refsOf
  refine List.mem_map.2 ⟨f b, List.mem_filter.2 ⟨List.mem_range.2 (by have := (hf b).1; omega), ?_⟩, rfl⟩
  simpa using (hf b).2
theorem refs_pair (f : Nat → Nat) (N : Nat) : (refsOf f N).Pairwise (· < ·) := by
  unfold refsOf
  rw [List.pairwise_map]
  refine (List.Pairwise.filter _ List.pairwise_lt_range).imp ?_
  intro a b h; omega
theorem isl_ref {f : Nat → Nat} (hf : Lb f) {N b : Nat} (hb : b < N) (h : f b = b) : isl f N b = (((refsOf f b).length : Nat) : Int) := by
  have hm := refs_mem' hf hb
  rw [isl, idx, if_pos hm, h]
  rw [h] at hm
  have h1 := refs_at hb h
  have h2 := List.getElem_idxOf (List.idxOf_lt_length_iff.2 hm)
  obtain ⟨h3, h4⟩ := List.getElem?_eq_some_iff.1 h1
  have hp := List.pairwise_iff_getElem.1 (refs_pair f N)
  have hlt := List.idxOf_lt_length_iff.2 hm
  rcases Nat.lt_trichotomy ((refsOf f N).idxOf (b : Int)) (refsOf f b).length with hc | hc | hc
  · have := hp _ _ hlt h3 hc; omega
  · omega
  · have := hp _ _ h3 hlt hc; omega
theorem isl_lab {f : Nat → Nat} (hf : Lb f) (N b : Nat) : isl f N (f b) = isl f N b := by
  unfold isl; rw [(hf b).2]
def ofPart (f : Nat → Nat) (N b : Nat) : List Int := (List.range N).map (fun x => if x < b then isl f N x else 0)
theorem ofPart_len (f : Nat → Nat) (N b : Nat) : (ofPart f N b).length = N := by simp [ofPart]
theorem ofPart_set (f : Nat → Nat) (N b : Nat) : (ofPart f N b).set b (isl f N b) = ofPart f N (b + 1) := by
  unfold ofPart
  apply List.ext_getElem
  · simp
  · intro i h1 h2
    rw [List.getElem_set, List.getElem_map, List.getElem_map, List.getElem_range]
    by_cases h : b = i
    · subst h; rw [if_pos rfl, if_pos (by omega)]
    · rw [if_neg h]
      by_cases h3 : i < b
      · rw [if_pos h3, if_pos (by omega)]
      · rw [if_neg h3, if_neg (by omega)]
theorem ofPart_all (f : Nat → Nat) (N : Nat) : ofPart f N N = islOf f N N := by
  unfold ofPart islOf
  exact List.map_congr_left fun x hx => if_pos (List.mem_range.1 hx)
theorem ofPart_zero (f : Nat → Nat) (N : Nat) : List.replicate N (0 : Int) = ofPart f N 0 := by
  unfold ofPart
  apply List.ext_getElem
  · simp
  · intro i h1 h2; simp
theorem rd_ofPart {f : Nat → Nat} {N b x : Nat} (hx : x < N) (hb : x < b) : rd (ofPart f N b) (x : Int) = isl f N x := by
  rw [rd_nat _ x (by rw [ofPart_len]; exact hx)]; simp [ofPart, hb]
theorem ofR_ok {b : Int} {L : List S37} {out : List Int} (h : outsV b L out = 0) : Ev (fun k => pylonref15_Of.f k b L out) (islOf (lab (edges L out)) b.toNat b.toNat, 0) := by
  have hb := outs_bus h
  have hol := outsV_len h
  obtain ⟨N, rfl⟩ := Int.eq_ofNat_of_zero_le (show 0 ≤ b by omega)
  rw [Int.toNat_natCast]
  have hf := lab_lb (edges L out)
  have hconn : ∀ x y, conn (edges L out) x y ↔ lab (edges L out) x = lab (edges L out) y := fun x y => Iff.rfl
  have hreach := fun a (ha : a < N) => reachR_ev h ha
  obtain ⟨f, hfe⟩ : ∃ f, f = lab (edges L out) := ⟨_, rfl⟩
  have hloop : Ev (fun k => pylonref15_Of.l0 k out (List.replicate N (0 : Int)) 0 0 (N : Int) L) (islOf f N N, 0) := by
    rw [ofPart_zero f N]
    refine Ev.upto N (fun k i => pylonref15_Of.l0 k out (ofPart f N i) (((refsOf f i).length : Nat) : Int) (i : Int) (N : Int) L) ?_ fun i hi hnext => ?_
    · refine Ev.succ (G := fun _ => some (ofPart f N N, 0)) (fun k => ?_) (by rw [ofPart_all]; exact Ev.some_ _)
      rw [pylonref15_Of.l0, if_neg (by omega)]
    · refine Ev.succ (G := fun k => (pylonref15_reach.f k (N : Int) L out (i : Int)).bind fun t => pylonref15_Of.l1 k out (ofPart f N i) (((refsOf f i).length : Nat) : Int) (i : Int) t 0 (N : Int) L) (fun k => by rw [pylonref15_Of.l0, if_pos (by omega)]) (Ev.bind (hreach i hi) ?_)
      rw [← hfe] at hf hconn
      have hbl := blist_len N (fun x => decide (conn (edges L out) i x))
      have hrb : ∀ x, x < N → rdOf false (blist N (fun x => decide (conn (edges L out) i x))) (x : Int) = decide (f i = f x) := by
        intro x hx
        rw [rd_blist hx, decide_eq_decide, hconn, hfe]
      have hopl := ofPart_len f N i
      have hfi := (hf i).1
      have hrl := refsOf_len f i
      have hrs := refsOf_succ f i
      refine Ev.upto (f i) (fun k j => pylonref15_Of.l1 k out (ofPart f N i) (((refsOf f i).length : Nat) : Int) (i : Int) (blist N (fun x => decide (conn (edges L out) i x))) (j : Int) (N : Int) L) ?_ fun j hj hnext2 => ?_
      · refine Ev.succ (fun k => ?_) hnext
        rw [pylonref15_Of.l1, if_pos (by omega), if_pos (by omega), hrb _ (by omega), decide_eq_true (hf i).2.symm, if_pos rfl, wrap_succ (i := i) (by omega)]
        by_cases c : f i = i
        · rw [if_pos (by omega), if_pos (by omega), if_pos (by omega), Int.toNat_natCast, wrap_succ (by omega)]
          have e1 := isl_ref hf hi c
          rw [hrs, if_pos c, ← ofPart_set, e1, List.length_append, List.length_singleton]
        · have e1 : rd (ofPart f N i) ((f i : Nat) : Int) = isl f N i := by rw [rd_ofPart (by omega) (by omega), isl_lab hf]
          rw [if_neg (by omega), if_pos (by omega), if_pos (by omega), if_pos (by omega), Int.toNat_natCast, e1, ofPart_set, hrs, if_neg c]
      · refine Ev.succ (fun k => ?_) hnext2
        have hne : ¬ f i = f j := fun e => by have := (hf j).1; omega
        rw [pylonref15_Of.l1, if_pos (by omega), if_pos (by omega), hrb _ (by omega), decide_eq_false hne, if_neg (by simp), wrap_succ (by omega)]
  rw [← hfe]
  refine Ev.eq (G := fun k => (pylonref14_Outs.f k (N : Int) L out).bind fun t => (if t = 0 then (if 0 ≤ (N : Int) then (if (N : Int).toNat ≤ 35184372088832 then (pylonref15_Of.l0 k out (List.replicate (N : Int).toNat 0) 0 0 (N : Int) L) else (none)) else (none)) else (some (([] : List Int), t)))) (fun k => rfl) (Ev.bind (outsR_ev _ _ _ (by omega)) ?_)
  rw [h]
  refine Ev.eq (fun k => ?_) hloop
  rw [if_pos rfl, if_pos (by omega), if_pos (by omega), Int.toNat_natCast]
theorem ofR_bad {b : Int} {L : List S37} {out : List Int} (ho : out.length ≤ 1000000) (h : outsV b L out ≠ 0) : Ev (fun k => pylonref15_Of.f k b L out) ([], outsV b L out) :=
  Ev.bind (outsR_ev _ _ _ ho) (Ev.eq (G := fun _ => some ([], outsV b L out)) (fun k => if_neg h) (Ev.some_ _))
end
end Go.Proofs.Ytdpgdelimffjpaa.P

namespace Go.Proofs.Ytdpgdelimffjpaa.P
open Go.RowKit Go.Proofs.YtdpgdelimffjpaaW.PrintWords Go.Proofs.YtdpgdelimffjpaaW.PrintLast Go.Proofs.YtdpgdelimffjpaaW.PrintMore
attribute [local go_sem] max2_int min2_int max_two min_two max_three min_three max_four min_four
set_option linter.unusedVariables false
set_option linter.unusedSimpArgs false
section
theorem islOf_lenC (f : Nat → Nat) (N n : Nat) : (islOf f N n).length = n := by simp [islOf]
theorem rd_islOfC (f : Nat → Nat) (N n x : Nat) (hx : x < n) : rd (islOf f N n) (x : Int) = isl f N x := by
  rw [rd_nat _ x (by rw [islOf_lenC]; exact hx)]; simp [islOf]
theorem joinedR_in {N : Nat} {L : List S37} {out : List Int} (h : outsV (N : Int) L out = 0) {x y : Nat} (hx : x < N) (hy : y < N) : Ev (fun k => pylonref15_Joined.f k (N : Int) L out (x : Int) (y : Int)) (decide (conn (edges L out) x y), 0) := by
  have hof := ofR_ok h
  rw [Int.toNat_natCast] at hof
  have hl := islOf_lenC (lab (edges L out)) N N
  refine Ev.bind hof (Ev.eq (G := fun _ => some (decide (conn (edges L out) x y), 0)) (fun k => ?_) (Ev.some_ _))
  rw [if_pos rfl, if_neg (by omega), if_neg (by omega), if_neg (by omega), if_neg (by omega), if_pos (by omega), if_pos (by simp only []; omega), if_pos (by omega), if_pos (by simp only []; omega)]
  rw [rd_islOfC _ _ _ _ hx, rd_islOfC _ _ _ _ hy]
  have e : (isl (lab (edges L out)) N x == isl (lab (edges L out)) N y) = decide (conn (edges L out) x y) := by
    rw [Bool.eq_iff_iff, beq_iff_eq, decide_eq_true_eq, isl_eq (lab_lb _) hx hy]; exact Iff.rfl
  rw [e]
/-- Joined and Connected are alike. -/
theorem joined_alike (b : Int) (L : List S37) (out : List Int) (x y : Int) (ho : out.length ≤ 1000000) : ∃ r e, island_Connected.f b L out x y = some (r, e) ∧ Ev (fun k => pylonref15_Joined.f k b L out x y) (r, e) := by
  by_cases h : outsV b L out = 0
  · have hb := outs_bus h
    obtain ⟨N, rfl⟩ := Int.eq_ofNat_of_zero_le (show 0 ≤ b by omega)
    have hl : (labsOf (lab (edges L out)) N).length = N := labsOf_len _ _
    have hst := stands_ok h
    rw [Int.toNat_natCast] at hst
    by_cases hx : x < 0 ∨ x ≥ (N : Int) ∨ y < 0 ∨ y ≥ (N : Int)
    · refine ⟨false, 1, ?_, Ev.bind (ofR_ok h) (Ev.eq (G := fun _ => some (false, 1)) (fun k => ?_) (Ev.some_ _))⟩
      · rw [island_Connected.f, hst, Option.bind_some, if_pos rfl]
        simp only [hl]
        by_cases c1 : x < 0
        · rw [if_pos c1]
        rw [if_neg c1]
        by_cases c2 : x ≥ (N : Int)
        · rw [if_pos c2]
        rw [if_neg c2]
        by_cases c3 : y < 0
        · rw [if_pos c3]
        rw [if_neg c3, if_pos (by omega)]
      · rw [if_pos rfl]
        by_cases c1 : x < 0
        · rw [if_pos c1]
        rw [if_neg c1]
        by_cases c2 : x ≥ (N : Int)
        · rw [if_pos c2]
        rw [if_neg c2]
        by_cases c3 : y < 0
        · rw [if_pos c3]
        rw [if_neg c3, if_pos (by omega)]
    · obtain ⟨x, rfl⟩ := Int.eq_ofNat_of_zero_le (show 0 ≤ x by omega)
      obtain ⟨y, rfl⟩ := Int.eq_ofNat_of_zero_le (show 0 ≤ y by omega)
      have hx' : x < N := by omega
      have hy' : y < N := by omega
      refine ⟨decide (conn (edges L out) x y), 0, ?_, joinedR_in h hx' hy'⟩
      rw [island_Connected.f, hst, Option.bind_some, if_pos rfl, if_neg (by omega), if_neg (by simp only [hl]; omega), if_neg (by omega), if_neg (by simp only [hl]; omega), if_pos (by omega), if_pos (by simp only [hl]; omega), if_pos (by omega), if_pos (by simp only [hl]; omega)]
      rw [rd_labsOf _ _ _ hx', rd_labsOf _ _ _ hy']
      have e : (((lab (edges L out) x : Nat) : Int) == ((lab (edges L out) y : Nat) : Int)) = decide (conn (edges L out) x y) := by
        rw [Bool.eq_iff_iff, beq_iff_eq, decide_eq_true_eq]; unfold conn; omega
      rw [e]
  · refine ⟨false, outsV b L out, ?_, Ev.bind (ofR_bad ho h) (Ev.eq (G := fun _ => some (false, outsV b L out)) (fun k => if_neg h) (Ev.some_ _))⟩
    rw [island_Connected.f, stands_bad h, Option.bind_some, if_neg h]
end
end Go.Proofs.Ytdpgdelimffjpaa.P

namespace Go.Proofs.Ytdpgdelimffjpaa.P
open Go.RowKit Go.Proofs.YtdpgdelimffjpaaW.PrintWords Go.Proofs.YtdpgdelimffjpaaW.PrintLast Go.Proofs.YtdpgdelimffjpaaW.PrintMore
attribute [local go_sem] max2_int min2_int max_two min_two max_three min_three max_four min_four
set_option linter.unusedVariables false
set_option linter.unusedSimpArgs false
section
theorem atR (l : List Int) (u : Nat) : pylonref15_at.f l (u : Int) = some (rd l (u : Int)) := by
  rw [pylonref15_at.f]
  by_cases h : (u : Int) < (l.length : Int)
  · rw [if_pos h, if_pos (by omega)]
  · rw [if_neg h]
    congr 1
    simp only [rd, Int.toNat_natCast, List.getD_eq_getElem?_getD]
    rw [List.getElem?_eq_none (by omega)]; rfl
/-- Alike is Consistent. -/
theorem alike_ev (b : Int) (L : List S37) (out ls : List Int) (ho : out.length ≤ 1000000) : ∃ r e, island_Consistent.f b L out ls = some (r, e) ∧ Ev (fun k => pylonref15_Alike.f k b L out ls) (r, e) := by
  by_cases h : outsV b L out = 0
  · have hb := outs_bus h
    have hol := outsV_len h
    obtain ⟨N, rfl⟩ := Int.eq_ofNat_of_zero_le (show 0 ≤ b by omega)
    by_cases hlong : (N : Int) < (ls.length : Int)
    · refine ⟨false, 5, by rw [island_Consistent.f, if_pos h, if_pos hlong], ?_⟩
      have ho' := outsR_ev (N : Int) L out ho
      rw [h] at ho'
      exact Ev.bind ho' (Ev.eq (G := fun _ => some (false, 5)) (fun k => by rw [if_pos rfl, if_pos hlong]) (Ev.some_ _))
    · refine ⟨(edges L out).all (fun e => rd ls (e.1 : Int) == rd ls (e.2 : Int)), 0, by rw [island_Consistent.f, if_pos h, if_neg hlong], ?_⟩
      have ho' := outsR_ev (N : Int) L out ho
      rw [h] at ho'
      refine Ev.bind ho' (Ev.eq (fun k => by rw [if_pos rfl, if_neg hlong]) (Ev.bind (inR_ev _ _ _ (by omega) (by omega)) ?_))
      have hil := inL_len L out
      have hel := edges_len L out
      have hil2 := inn_len L out
      have key : ∀ m i, i + m = (inn L out).length → Ev (fun k => pylonref15_Alike.l0 k ls (inL L out) (i : Int) (N : Int) L) (((edges L out).drop i).all (fun e => rd ls (e.1 : Int) == rd ls (e.2 : Int)), 0) := by
        intro m
        induction m with
        | zero =>
          intro i hi
          rw [List.drop_eq_nil_of_le (by omega)]
          refine Ev.succ (G := fun _ => some (true, 0)) (fun k => ?_) (Ev.some_ _)
          rw [pylonref15_Alike.l0, if_neg (by omega)]
        | succ m ih =>
          intro i hi
          obtain ⟨k, u, w, h1, h2, h3, h4, h5, h6, h7, h8, _, _⟩ := in_line h (i := i) (by omega)
          have hei : i < (edges L out).length := by omega
          rw [List.getElem?_eq_getElem hei] at h8
          rw [List.drop_eq_getElem_cons hei, Option.some.inj h8, List.all_cons]
          have hnext := ih (i + 1) (by omega)
          refine Ev.succ (G := fun k => if rd ls (u : Int) = rd ls (w : Int) then pylonref15_Alike.l0 k ls (inL L out) ((i + 1 : Nat) : Int) (N : Int) L else some (false, 0)) (fun j => ?_) ?_
          · rw [pylonref15_Alike.l0, if_pos (by omega), if_pos (by omega), h1, if_pos (by omega), if_pos (by omega), h3, h4, atR, Option.bind_some, atR, Option.bind_some, wrap_succ (by omega)]
          · by_cases c : rd ls (u : Int) = rd ls (w : Int)
            · rw [beq_iff_eq.2 c, Bool.true_and]; exact Ev.eq (fun k => if_pos c) hnext
            · rw [beq_eq_false_iff_ne.2 c, Bool.false_and]; exact Ev.eq (G := fun _ => some (false, 0)) (fun k => if_neg c) (Ev.some_ _)
      exact key (inn L out).length 0 (by omega)
  · refine ⟨false, outsV b L out, by rw [island_Consistent.f, if_neg h], Ev.bind (outsR_ev _ _ _ ho) (Ev.eq (G := fun _ => some (false, outsV b L out)) (fun k => if_neg h) (Ev.some_ _))⟩
end
end Go.Proofs.Ytdpgdelimffjpaa.P

namespace Go.Proofs.Ytdpgdelimffjpaa.P
open Go.RowKit Go.Proofs.YtdpgdelimffjpaaW.PrintWords Go.Proofs.YtdpgdelimffjpaaW.PrintLast Go.Proofs.YtdpgdelimffjpaaW.PrintMore
attribute [local go_sem] max2_int min2_int max_two min_two max_three min_three max_four min_four
set_option linter.unusedVariables false
set_option linter.unusedSimpArgs false
theorem IslandPredicatesMatch_true (b : Int) (L : List S37) (l1 l2 : List Int) (a3 a4 : Int) : ∃ k, pylonlaw15_IslandPredicatesMatch.f k b L l1 l2 a3 a4 = some true := by
  apply Ev.tell
  obtain ⟨r, hr, hx⟩ := long_f b L [l1, l2] (by simp)
  have haw : Ev (fun _ : Nat => (pylonlaw15_awake.f).bind fun t => (some t)) true := Ev.some_ _
  refine Ev.bind hr ?_
  cases r with
  | true => exact haw
  | false =>
    obtain ⟨_, hl⟩ := hx rfl
    have h1 : l1.length ≤ 100 := hl l1 (by simp)
    have h2 : l2.length ≤ 100 := hl l2 (by simp)
    obtain ⟨r1, e1, hc, hj⟩ := joined_alike b L l1 a3 a4 (by omega)
    obtain ⟨r2, e2, hco, hal⟩ := alike_ev b L l1 l2 (by omega)
    refine Ev.eq (fun k => by rw [if_neg (by simp), if_pos (by simp; omega), Option.bind_some, hc, Option.bind_some, List.nil_append]) (Ev.bind hj ?_)
    refine Ev.eq (fun k => by rw [hco, Option.bind_some]) (Ev.bind hal ?_)
    refine Ev.eq (fun k => by rw [if_pos (by simp), if_pos rfl, if_pos (by simp), if_pos rfl]) (Ev.bind (ints_ev l2 l2 (by omega)) ?_)
    refine Ev.eq (fun k => by rw [if_pos (by simp)]) haw
end Go.Proofs.Ytdpgdelimffjpaa.P
