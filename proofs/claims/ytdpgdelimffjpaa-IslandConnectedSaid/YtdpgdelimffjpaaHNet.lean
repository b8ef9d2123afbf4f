import Derived.Test.YtdpgdelimffjpaaFBase
import Derived.Lib.SmallJoins
import Derived.Deep.Slices
import Derived.Deep.Fields
import Derived.ChangeSame
import Derived.WalkKit
import Derived.ProofKit
import Derived.OpenShut
import Derived.ChangeOld
namespace Go.Proofs.Ytdpgdelimffjpaa.P
open Go.RowKit Go.Proofs.YtdpgdelimffjpaaW.PrintWords Go.Proofs.YtdpgdelimffjpaaW.PrintLast Go.Proofs.YtdpgdelimffjpaaW.PrintMore
attribute [local go_sem] max2_int min2_int max_two min_two max_three min_three max_four min_four
set_option linter.unusedVariables false
set_option linter.unusedSimpArgs false
open Go.Joins Go.ChangeShapes Go.WideShapes Go.Deep
section
variable {H : Type} {enc : TypeId × Value → H} {W : World} {base : Nat} {spare : Nat → Bool} {held : Bool}
theorem list4 {α : Type} : ∀ xs : List α, xs.length = 4 → ∃ a b c d, xs = [a, b, c, d]
  | [a, b, c, d], _ => ⟨a, b, c, d, rfl⟩
/-- The four cells of one line. -/
theorem open_line {fuel : Nat} {cs : List Value} {x : DataW H × List MemPlace} (h : DataW.trod enc Try.prog W base spare held fuel 37 cs = some x) : ∃ l : S37, cs = [.int .i64 l.f0, .int .i64 l.f1, .int .i64 l.f2, .int .i64 l.f3] := by
  obtain ⟨xs, n, _, _, hlen, hxl, hf⟩ := DataW.trod_struct Try.underlying37 h
  have hc37 : Try.prog.cellsOf 37 = 4 := by kernel_rfl
  have hc3 : Try.prog.cellsOf 3 = 1 := by kernel_rfl
  have hc2 : Try.prog.cellsOf 2 = 1 := by kernel_rfl
  rw [hc37] at hlen
  have h0 : DataW.trod enc Try.prog W base spare held n 3 ((cs.drop 0).take (Try.prog.cellsOf 3)) = xs[0]? := hf 0 _ rfl
  have h1 : DataW.trod enc Try.prog W base spare held n 3 ((cs.drop 1).take (Try.prog.cellsOf 3)) = xs[1]? := hf 1 _ rfl
  have h2 : DataW.trod enc Try.prog W base spare held n 2 ((cs.drop 2).take (Try.prog.cellsOf 2)) = xs[2]? := hf 2 _ rfl
  have h3 : DataW.trod enc Try.prog W base spare held n 2 ((cs.drop 3).take (Try.prog.cellsOf 2)) = xs[3]? := hf 3 _ rfl
  rw [hc3] at h0 h1
  rw [hc2] at h2 h3
  have hx4 : xs.length = 4 := hxl
  obtain ⟨x0, x1, x2, x3, rfl⟩ := list4 xs hx4
  obtain ⟨a, b, c, d, rfl⟩ := list4 cs hlen
  obtain ⟨n0, e0, _, _⟩ := DataW.trod_int Try.underlying3 h0
  obtain ⟨n1, e1, _, _⟩ := DataW.trod_int Try.underlying3 h1
  obtain ⟨n2, e2, _, _⟩ := DataW.trod_int Try.underlying2 h2
  obtain ⟨n3, e3, _, _⟩ := DataW.trod_int Try.underlying2 h3
  cases e0; cases e1; cases e2; cases e3
  exact ⟨⟨n0, n1, n2, n3⟩, rfl⟩
/-- A slice of lines that comes in. -/
theorem open_lines {fuel : Nat} {v : Value} {x : DataW H × List MemPlace} (h : DataW.trod enc Try.prog W base spare held fuel 22 [v] = some x) : ∃ (A : Option Addr) (c : Nat) (L : List S37), v = .slice A L.length c ∧ L.length ≤ c ∧ Kd.C k37 W A L.length L := by
  have hc37 : Try.prog.cellsOf 37 = 4 := by kernel_rfl
  rcases open_slice Try.underlying22 h with ⟨hcs, _⟩ | ⟨a, len, cap, m, n, D, Pl, hcs, _, hl, hm, hmm, _, hi⟩
  · cases hcs
    exact ⟨none, 0, [], rfl, Nat.le_refl _, Kd.C_nil _ _⟩
  · cases hcs
    have hlm : len ≤ m := by rw [hmm]; split <;> omega
    have hline : ∀ i, i < len → ∃ l : S37, ∀ j u, ([.int .i64 l.f0, .int .i64 l.f1, .int .i64 l.f2, .int .i64 l.f3] : List Value)[j]? = some u → W.cell? (a.add (i * 4 + j)) = some u := by
      intro i hil
      obtain ⟨cs', hc, ht⟩ := hi i (by omega)
      rw [hc37] at hc
      obtain ⟨l, hl4⟩ := open_line ht
      obtain ⟨_, hcl, hat⟩ := World.cells?_some hc
      refine ⟨l, fun j u hj => ?_⟩
      rw [hl4] at hcl hat
      have hj4 : j < 4 := by
        rcases Nat.lt_or_ge j 4 with h | h
        · exact h
        · rw [List.getElem?_eq_none (by simpa using h)] at hj; cases hj
      have e := hat j hj4
      rw [← Go.Deep.add_add, e, ← hj]
    have hinh : Inhabited S37 := ⟨z37⟩
    obtain ⟨f, hf⟩ := choose_lt hline
    have hll : ((List.range len).map f).length = len := by simp
    refine ⟨some a, cap, (List.range len).map f, by rw [hll], by rw [hll]; exact hl, ?_⟩
    refine ⟨rfl, by rw [hll]; have : maxLen ≤ 9223372036854775807 := by decide
                    omega, fun _ => ⟨a, rfl, fun j p hj => ?_⟩⟩
    have hjl : j < len := by
      rcases Nat.lt_or_ge j len with h | h
      · exact h
      · rw [List.getElem?_eq_none (by simpa using h)] at hj; cases hj
    rw [List.getElem?_map, List.getElem?_range hjl] at hj
    cases hj
    exact ⟨_, rfl, k37_mk _ _, hf j hjl⟩
set_option maxRecDepth 100000 in
/-- A network that comes in. -/
theorem open_net {r : Reach} {b0 : Nat} {v : Value} {d : DataW H} {p : List MemPlace} (hv : Value.okWide Try.prog W r b0 24 v) (h : DataW.Trod enc Try.prog W base spare held 24 v d p) : ∃ (b : Int) (A : Option Addr) (c : Nat) (L : List S37), v = .agg #[.int .i64 b, .slice A L.length c] ∧ L.length ≤ c ∧ Kd.C k37 W A L.length L ∧ (Lit.int .i64 b).wf = true := by
  obtain ⟨v0, v1, y0, y1, n, rfl, _, _, h0, h1⟩ := open_agg2 Try.underlying24 (by kernel_rfl) (by kernel_rfl) hv h
  obtain ⟨b, e0, _, hw⟩ := DataW.trod_int Try.underlying3 h0
  cases e0
  obtain ⟨A, c, L, rfl, hc, hC⟩ := open_lines h1
  exact ⟨b, A, c, L, rfl, hc, hC, hw⟩
end
section
variable {H : Type} {enc : TypeId × Value → H} {W : World} {base : Nat} {spare : Nat → Bool} {held : Bool}
theorem list1 {α : Type} : ∀ xs : List α, xs.length = 1 → ∃ a, xs = [a]
  | [a], _ => ⟨a, rfl⟩
set_option maxRecDepth 100000 in
/-- A list of ints that comes in. -/
theorem open_intl {r : Reach} {b0 : Nat} {v : Value} {d : DataW H} {p : List MemPlace} (hv : Value.okWide Try.prog W r b0 25 v) (h : DataW.Trod enc Try.prog W base spare held 25 v d p) : ∃ (A : Option Addr) (c : Nat) (l : List Int), v = .slice A l.length c ∧ l.length ≤ c ∧ Kd.C (Kd.int .i64) W A l.length l := by
  have hc3 : Try.prog.cellsOf 3 = 1 := by kernel_rfl
  obtain ⟨A0, n0, c0, rfl⟩ := okWide_slice Try.underlying25 hv
  obtain ⟨fuel, hf⟩ := h
  have hf' : DataW.trod enc Try.prog W base spare held fuel 25 [.slice A0 n0 c0] = some (d, p) := hf
  rcases open_slice Try.underlying25 hf' with ⟨hcs, _⟩ | ⟨a, len, cap, m, n, D, Pl, hcs, _, hl, hm, hmm, _, hi⟩
  · cases hcs
    exact ⟨none, 0, [], rfl, Nat.le_refl _, Kd.C_nil _ _⟩
  · cases hcs
    have hlm : n0 ≤ m := by rw [hmm]; split <;> omega
    have hint : ∀ i, i < n0 → ∃ x : Int, W.cell? (a.add i) = some (.int .i64 x) := by
      intro i hil
      obtain ⟨cs', hc, ht⟩ := hi i (by omega)
      rw [hc3] at hc
      obtain ⟨x, hx, _, _⟩ := DataW.trod_int Try.underlying3 ht
      obtain ⟨_, hcl, hat⟩ := World.cells?_some hc
      refine ⟨x, ?_⟩
      have e := hat 0 (by omega)
      rw [hx, Go.Deep.add_add, Nat.mul_one, Nat.add_zero] at e
      exact e
    have hinh : Inhabited Int := ⟨0⟩
    obtain ⟨f, hf2⟩ := choose_lt hint
    have hll : ((List.range n0).map f).length = n0 := by simp
    refine ⟨some a, c0, (List.range n0).map f, by rw [hll], by rw [hll]; exact hl, ?_⟩
    refine Kd.C_of_reads (d := (0 : Int)) ⟨rfl, by rw [hll]; have : maxLen ≤ 9223372036854775807 := by decide
                                                   omega, fun _ => ⟨a, rfl, fun j hj => ?_⟩⟩
    rw [hll] at hj
    rw [hf2 j hj, List.getD_eq_getElem?_getD, List.getElem?_map, List.getElem?_range hj]
    rfl
end
end Go.Proofs.Ytdpgdelimffjpaa.P
