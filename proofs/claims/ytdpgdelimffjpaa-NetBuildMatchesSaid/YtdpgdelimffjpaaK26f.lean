/- Texts of this claim, merged: the words that print.sh and the prover's driver wrote, and hand-proved contracts and lemmas, less what this claim does not name. Lean checks them. -/
import Derived.Lib.SmallJoins
import Derived.Deep.Slices
import Derived.Deep.Fields
import Derived.ChangeSame
import Derived.WalkKit
import Derived.ProofKit
import Derived.OpenShut
import Derived.ChangeOld
import Derived.Test.YtdpgdelimffjpaaRows
import Derived.KernelRfl
import Derived.JoinedOf
import Derived.Outline
import Derived.Lib.Hide
import Derived.Deep.QuietTactic
import Derived.BigQuiet
import Derived.BigRegion
import Derived.Test.YtdpgdelimffjpaaK26a
import Derived.Test.YtdpgdelimffjpaaK26b
import Derived.Test.YtdpgdelimffjpaaK26c
import Derived.Test.YtdpgdelimffjpaaK26d
import Derived.Test.YtdpgdelimffjpaaK26e
namespace Go.Proofs.Ytdpgdelimffjpaa.P
open Go.RowKit Go.Proofs.YtdpgdelimffjpaaW.PrintWords Go.Proofs.YtdpgdelimffjpaaW.PrintLast Go.Proofs.YtdpgdelimffjpaaW.PrintMore
attribute [local go_sem] max2_int min2_int max_two min_two max_three min_three max_four min_four
set_option linter.unusedVariables false
set_option linter.unusedSimpArgs false
section
open Go.Joins Go.ChangeShapes Go.WideShapes Go.Deep
section
variable {H : Type} {enc : TypeId × Value → H} {W : World} {base : Nat} {spare : Nat → Bool} {held : Bool}
theorem list4 {α : Type} : ∀ xs : List α, xs.length = 4 → ∃ a b c d, xs = [a, b, c, d]
  | [a, b, c, d], _ => ⟨a, b, c, d, rfl⟩
/-- The four cells of one line. -/
theorem open_line {fuel : Nat} {cs : List Value} {x : DataW H × List MemPlace} (h : DataW.trod enc Try.prog W base spare held fuel 37 cs = some x) : ∃ l : S37, cs = [.int .i64 l.f0, .int .i64 l.f1, .int .i64 l.f2, .int .i64 l.f3] := by
  obtain ⟨xs, n, _, _, hlen, hxl, hf⟩ := DataW.trod_struct Try.underlying37 h
  have hc37 : Try.prog.cellsOf 37 = 4 := by kernel_rfl
  have hc3 : Try.prog.cellsOf 3 = 1 := by kernel_rfl
  have hc2 : Try.prog.cellsOf 2 = 1 := by kernel_rfl
  rw [hc37] at hlen
  have h0 : DataW.trod enc Try.prog W base spare held n 3 ((cs.drop 0).take (Try.prog.cellsOf 3)) = xs[0]? := hf 0 _ rfl
  have h1 : DataW.trod enc Try.prog W base spare held n 3 ((cs.drop 1).take (Try.prog.cellsOf 3)) = xs[1]? := hf 1 _ rfl
  have h2 : DataW.trod enc Try.prog W base spare held n 2 ((cs.drop 2).take (Try.prog.cellsOf 2)) = xs[2]? := hf 2 _ rfl
  have h3 : DataW.trod enc Try.prog W base spare held n 2 ((cs.drop 3).take (Try.prog.cellsOf 2)) = xs[3]? := hf 3 _ rfl
  rw [hc3] at h0 h1
  rw [hc2] at h2 h3
  have hx4 : xs.length = 4 := hxl
  obtain ⟨x0, x1, x2, x3, rfl⟩ := list4 xs hx4
  obtain ⟨a, b, c, d, rfl⟩ := list4 cs hlen
  obtain ⟨n0, e0, _, _⟩ := DataW.trod_int Try.underlying3 h0
  obtain ⟨n1, e1, _, _⟩ := DataW.trod_int Try.underlying3 h1
  obtain ⟨n2, e2, _, _⟩ := DataW.trod_int Try.underlying2 h2
  obtain ⟨n3, e3, _, _⟩ := DataW.trod_int Try.underlying2 h3
  cases e0; cases e1; cases e2; cases e3
  exact ⟨⟨n0, n1, n2, n3⟩, rfl⟩
/-- A slice of lines that comes in. -/
theorem open_lines {fuel : Nat} {v : Value} {x : DataW H × List MemPlace} (h : DataW.trod enc Try.prog W base spare held fuel 22 [v] = some x) : ∃ (A : Option Addr) (c : Nat) (L : List S37), v = .slice A L.length c ∧ L.length ≤ c ∧ Kd.C k37 W A L.length L := by
  have hc37 : Try.prog.cellsOf 37 = 4 := by kernel_rfl
  rcases open_slice Try.underlying22 h with ⟨hcs, _⟩ | ⟨a, len, cap, m, n, D, Pl, hcs, _, hl, hm, hmm, _, hi⟩
  · cases hcs
    exact ⟨none, 0, [], rfl, Nat.le_refl _, Kd.C_nil _ _⟩
  · cases hcs
    have hlm : len ≤ m := by rw [hmm]; split <;> omega
    have hline : ∀ i, i < len → ∃ l : S37, ∀ j u, ([.int .i64 l.f0, .int .i64 l.f1, .int .i64 l.f2, .int .i64 l.f3] : List Value)[j]? = some u → W.cell? (a.add (i * 4 + j)) = some u := by
      intro i hil
      obtain ⟨cs', hc, ht⟩ := hi i (by omega)
      rw [hc37] at hc
      obtain ⟨l, hl4⟩ := open_line ht
      obtain ⟨_, hcl, hat⟩ := World.cells?_some hc
      refine ⟨l, fun j u hj => ?_⟩
      rw [hl4] at hcl hat
      have hj4 : j < 4 := by
        rcases Nat.lt_or_ge j 4 with h | h
        · exact h
        · rw [List.getElem?_eq_none (by simpa using h)] at hj; cases hj
      have e := hat j hj4
      rw [← Go.Deep.add_add, e, ← hj]
    have hinh : Inhabited S37 := ⟨z37⟩
    obtain ⟨f, hf⟩ := choose_lt hline
    have hll : ((List.range len).map f).length = len := by simp
    refine ⟨some a, cap, (List.range len).map f, by rw [hll], by rw [hll]; exact hl, ?_⟩
    refine ⟨rfl, by rw [hll]; have : maxLen ≤ 9223372036854775807 := by decide
                    omega, fun _ => ⟨a, rfl, fun j p hj => ?_⟩⟩
    have hjl : j < len := by
      rcases Nat.lt_or_ge j len with h | h
      · exact h
      · rw [List.getElem?_eq_none (by simpa using h)] at hj; cases hj
    rw [List.getElem?_map, List.getElem?_range hjl] at hj
    cases hj
    exact ⟨_, rfl, k37_mk _ _, hf j hjl⟩
set_option maxRecDepth 100000 in
/-- A network that comes in. -/
theorem open_net {r : Reach} {b0 : Nat} {v : Value} {d : DataW H} {p : List MemPlace} (hv : Value.okWide Try.prog W r b0 24 v) (h : DataW.Trod enc Try.prog W base spare held 24 v d p) : ∃ (b : Int) (A : Option Addr) (c : Nat) (L : List S37), v = .agg #[.int .i64 b, .slice A L.length c] ∧ L.length ≤ c ∧ Kd.C k37 W A L.length L ∧ (Lit.int .i64 b).wf = true := by
  obtain ⟨v0, v1, y0, y1, n, rfl, _, _, h0, h1⟩ := open_agg2 Try.underlying24 (by kernel_rfl) (by kernel_rfl) hv h
  obtain ⟨b, e0, _, hw⟩ := DataW.trod_int Try.underlying3 h0
  cases e0
  obtain ⟨A, c, L, rfl, hc, hC⟩ := open_lines h1
  exact ⟨b, A, c, L, rfl, hc, hC, hw⟩
end
section
variable {H : Type} {enc : TypeId × Value → H} {W : World} {base : Nat} {spare : Nat → Bool} {held : Bool}
set_option maxRecDepth 100000 in
/-- A list of ints that comes in. -/
theorem open_intl {r : Reach} {b0 : Nat} {v : Value} {d : DataW H} {p : List MemPlace} (hv : Value.okWide Try.prog W r b0 25 v) (h : DataW.Trod enc Try.prog W base spare held 25 v d p) : ∃ (A : Option Addr) (c : Nat) (l : List Int), v = .slice A l.length c ∧ l.length ≤ c ∧ Kd.C (Kd.int .i64) W A l.length l := by
  have hc3 : Try.prog.cellsOf 3 = 1 := by kernel_rfl
  obtain ⟨A0, n0, c0, rfl⟩ := okWide_slice Try.underlying25 hv
  obtain ⟨fuel, hf⟩ := h
  have hf' : DataW.trod enc Try.prog W base spare held fuel 25 [.slice A0 n0 c0] = some (d, p) := hf
  rcases open_slice Try.underlying25 hf' with ⟨hcs, _⟩ | ⟨a, len, cap, m, n, D, Pl, hcs, _, hl, hm, hmm, _, hi⟩
  · cases hcs
    exact ⟨none, 0, [], rfl, Nat.le_refl _, Kd.C_nil _ _⟩
  · cases hcs
    have hlm : n0 ≤ m := by rw [hmm]; split <;> omega
    have hint : ∀ i, i < n0 → ∃ x : Int, W.cell? (a.add i) = some (.int .i64 x) := by
      intro i hil
      obtain ⟨cs', hc, ht⟩ := hi i (by omega)
      rw [hc3] at hc
      obtain ⟨x, hx, _, _⟩ := DataW.trod_int Try.underlying3 ht
      obtain ⟨_, hcl, hat⟩ := World.cells?_some hc
      refine ⟨x, ?_⟩
      have e := hat 0 (by omega)
      rw [hx, Go.Deep.add_add, Nat.mul_one, Nat.add_zero] at e
      exact e
    have hinh : Inhabited Int := ⟨0⟩
    obtain ⟨f, hf2⟩ := choose_lt hint
    have hll : ((List.range n0).map f).length = n0 := by simp
    refine ⟨some a, c0, (List.range n0).map f, by rw [hll], by rw [hll]; exact hl, ?_⟩
    refine Kd.C_of_reads (d := (0 : Int)) ⟨rfl, by rw [hll]; have : maxLen ≤ 9223372036854775807 := by decide
                                                   omega, fun _ => ⟨a, rfl, fun j hj => ?_⟩⟩
    rw [hll] at hj
    rw [hf2 j hj, List.getD_eq_getElem?_getD, List.getElem?_map, List.getElem?_range hj]
    rfl
end
end
section
set_option maxRecDepth 100000
set_option linter.unusedSimpArgs false
def headNums : List Nat := [104, 97, 114, 110, 101, 115, 115, 32, 48, 97, 48, 51, 98, 100, 102, 102, 48, 48, 50, 49, 101, 101, 102, 100, 56, 56, 55, 53, 98, 57, 51, 50, 53, 53, 99, 99, 57, 52, 54, 102, 98, 55, 48, 51, 52, 97, 52, 55, 55, 98, 54, 50, 97, 57, 101, 56, 52, 54, 98, 98, 100, 51, 53, 48, 57, 102, 98, 56, 53, 101, 98, 101, 32, 99, 117, 116, 32, 97, 116, 32, 112, 121, 108, 111, 110, 47, 112, 121, 108, 111, 110, 108, 97, 119, 49, 53, 46, 73, 115, 108, 97, 110, 100, 67, 111, 110, 110, 101, 99, 116, 101, 100, 32, 112, 121, 108, 111, 110, 47, 112, 121, 108, 111, 110, 108, 97, 119, 49, 53, 46, 73, 115, 108, 97, 110, 100, 82, 101, 118, 101, 114, 115, 101, 32, 112, 121, 108, 111, 110, 47, 112, 121, 108, 111, 110, 108, 97, 119, 49, 53, 46, 73, 115, 108, 97, 110, 100, 76, 97, 98, 101, 108, 108, 105, 110, 103, 32, 112, 121, 108, 111, 110, 47, 112, 121, 108, 111, 110, 108, 97, 119, 49, 53, 46, 73, 115, 108, 97, 110, 100, 77, 97, 116, 99, 104, 101, 115, 32, 112, 121, 108, 111, 110, 47, 112, 121, 108, 111, 110, 108, 97, 119, 49, 53, 46, 73, 115, 108, 97, 110, 100, 78, 117, 109, 98, 101, 114, 105, 110, 103, 32, 112, 121, 108, 111, 110, 47, 112, 121, 108, 111, 110, 108, 97, 119, 49, 53, 46, 73, 115, 108, 97, 110, 100, 80, 114, 101, 100, 105, 99, 97, 116, 101, 115, 77, 97, 116, 99, 104, 32, 112, 121, 108, 111, 110, 47, 112, 121, 108, 111, 110, 108, 97, 119, 49, 53, 46, 73, 115, 108, 97, 110, 100, 79, 117, 116, 97, 103, 101, 32, 112, 121, 108, 111, 110, 47, 112, 121, 108, 111, 110, 108, 97, 119, 49, 53, 46, 73, 115, 108, 97, 110, 100, 69, 120, 97, 109, 112, 108, 101, 115, 32, 112, 121, 108, 111, 110, 47, 112, 121, 108, 111, 110, 108, 97, 119, 49, 54, 46, 84, 114, 101, 101, 77, 97, 116, 99, 104, 101, 115, 32, 112, 121, 108, 111, 110, 47, 112, 121, 108, 111, 110, 108, 97, 119, 49, 54, 46, 84, 114, 101, 101, 66, 114, 105, 100, 103, 101, 115, 32, 112, 121, 108, 111, 110, 47, 112, 121, 108, 111, 110, 108, 97, 119, 49, 54, 46, 84, 114, 101, 101, 80, 97, 116, 104, 77, 97, 116, 99, 104, 101, 115, 32, 112, 121, 108, 111, 110, 47, 112, 121, 108, 111, 110, 108, 97, 119, 49, 54, 46, 84, 114, 101, 101, 69, 120, 97, 109, 112, 108, 101, 115, 32, 112, 121, 108, 111, 110, 47, 112, 121, 108, 111, 110, 108, 97, 119, 49, 54, 46, 84, 114, 101, 101, 71, 114, 101, 101, 100, 121, 32, 112, 121, 108, 111, 110, 47, 112, 121, 108, 111, 110, 108, 97, 119, 49, 54, 46, 84, 114, 101, 101, 66, 97, 108, 97, 110, 99, 101, 32, 112, 121, 108, 111, 110, 47, 112, 121, 108, 111, 110, 108, 97, 119, 49, 54, 46, 84, 114, 101, 101, 67, 121, 99, 108, 101, 115, 32, 112, 121, 108, 111, 110, 47, 112, 121, 108, 111, 110, 108, 97, 119, 49, 54, 46, 84, 114, 101, 101, 83, 112, 97, 110, 110, 105, 110, 103, 32, 112, 121, 108, 111, 110, 47, 112, 121, 108, 111, 110, 108, 97, 119, 49, 52, 46, 78, 101, 116, 77, 97, 116, 99, 104, 101, 115, 32, 112, 121, 108, 111, 110, 47, 112, 121, 108, 111, 110, 108, 97, 119, 49, 52, 46, 78, 101, 116, 85, 110, 105, 111, 110, 77, 97, 116, 99, 104, 101, 115, 32, 112, 121, 108, 111, 110, 47, 112, 121, 108, 111, 110, 108, 97, 119, 49, 52, 46, 78, 101, 116, 80, 97, 114, 116, 105, 116, 105, 111, 110, 32, 112, 121, 108, 111, 110, 47, 112, 121, 108, 111, 110, 108, 97, 119, 49, 52, 46, 78, 101, 116, 69, 110, 100, 112, 111, 105, 110, 116, 115, 32, 112, 121, 108, 111, 110, 47, 112, 121, 108, 111, 110, 108, 97, 119, 49, 52, 46, 78, 101, 116, 85, 110, 105, 111, 110, 32, 112, 121, 108, 111, 110, 47, 112, 121, 108, 111, 110, 108, 97, 119, 49, 52, 46, 78, 101, 116, 69, 120, 97, 109, 112, 108, 101, 115, 32, 112, 121, 108, 111, 110, 47, 112, 121, 108, 111, 110, 108, 97, 119, 49, 52, 46, 78, 101, 116, 83, 116, 114, 105, 112, 32, 112, 121, 108, 111, 110, 47, 112, 121, 108, 111, 110, 108, 97, 119, 49, 52, 46, 78, 101, 116, 66, 117, 105, 108, 100, 77, 97, 116, 99, 104, 101, 115, 32, 112, 121, 108, 111, 110, 47, 112, 121, 108, 111, 110, 108, 97, 119, 49, 52, 46, 78, 101, 116, 82, 101, 118, 101, 114, 115, 101]
theorem headOf : Try.prog.initOrder = String.ofList (headNums.map Char.ofNat) := by kernel_rfl
theorem headList : Try.prog.initOrder.toList = headNums.map Char.ofNat := by rw [headOf, String.toList_ofList]
def headTail : List (List Nat) := [[97, 116], [112, 121, 108, 111, 110, 47, 112, 121, 108, 111, 110, 108, 97, 119, 49, 53, 46, 73, 115, 108, 97, 110, 100, 67, 111, 110, 110, 101, 99, 116, 101, 100], [112, 121, 108, 111, 110, 47, 112, 121, 108, 111, 110, 108, 97, 119, 49, 53, 46, 73, 115, 108, 97, 110, 100, 82, 101, 118, 101, 114, 115, 101], [112, 121, 108, 111, 110, 47, 112, 121, 108, 111, 110, 108, 97, 119, 49, 53, 46, 73, 115, 108, 97, 110, 100, 76, 97, 98, 101, 108, 108, 105, 110, 103], [112, 121, 108, 111, 110, 47, 112, 121, 108, 111, 110, 108, 97, 119, 49, 53, 46, 73, 115, 108, 97, 110, 100, 77, 97, 116, 99, 104, 101, 115], [112, 121, 108, 111, 110, 47, 112, 121, 108, 111, 110, 108, 97, 119, 49, 53, 46, 73, 115, 108, 97, 110, 100, 78, 117, 109, 98, 101, 114, 105, 110, 103], [112, 121, 108, 111, 110, 47, 112, 121, 108, 111, 110, 108, 97, 119, 49, 53, 46, 73, 115, 108, 97, 110, 100, 80, 114, 101, 100, 105, 99, 97, 116, 101, 115, 77, 97, 116, 99, 104], [112, 121, 108, 111, 110, 47, 112, 121, 108, 111, 110, 108, 97, 119, 49, 53, 46, 73, 115, 108, 97, 110, 100, 79, 117, 116, 97, 103, 101], [112, 121, 108, 111, 110, 47, 112, 121, 108, 111, 110, 108, 97, 119, 49, 53, 46, 73, 115, 108, 97, 110, 100, 69, 120, 97, 109, 112, 108, 101, 115], [112, 121, 108, 111, 110, 47, 112, 121, 108, 111, 110, 108, 97, 119, 49, 54, 46, 84, 114, 101, 101, 77, 97, 116, 99, 104, 101, 115], [112, 121, 108, 111, 110, 47, 112, 121, 108, 111, 110, 108, 97, 119, 49, 54, 46, 84, 114, 101, 101, 66, 114, 105, 100, 103, 101, 115], [112, 121, 108, 111, 110, 47, 112, 121, 108, 111, 110, 108, 97, 119, 49, 54, 46, 84, 114, 101, 101, 80, 97, 116, 104, 77, 97, 116, 99, 104, 101, 115], [112, 121, 108, 111, 110, 47, 112, 121, 108, 111, 110, 108, 97, 119, 49, 54, 46, 84, 114, 101, 101, 69, 120, 97, 109, 112, 108, 101, 115], [112, 121, 108, 111, 110, 47, 112, 121, 108, 111, 110, 108, 97, 119, 49, 54, 46, 84, 114, 101, 101, 71, 114, 101, 101, 100, 121], [112, 121, 108, 111, 110, 47, 112, 121, 108, 111, 110, 108, 97, 119, 49, 54, 46, 84, 114, 101, 101, 66, 97, 108, 97, 110, 99, 101], [112, 121, 108, 111, 110, 47, 112, 121, 108, 111, 110, 108, 97, 119, 49, 54, 46, 84, 114, 101, 101, 67, 121, 99, 108, 101, 115], [112, 121, 108, 111, 110, 47, 112, 121, 108, 111, 110, 108, 97, 119, 49, 54, 46, 84, 114, 101, 101, 83, 112, 97, 110, 110, 105, 110, 103], [112, 121, 108, 111, 110, 47, 112, 121, 108, 111, 110, 108, 97, 119, 49, 52, 46, 78, 101, 116, 77, 97, 116, 99, 104, 101, 115], [112, 121, 108, 111, 110, 47, 112, 121, 108, 111, 110, 108, 97, 119, 49, 52, 46, 78, 101, 116, 85, 110, 105, 111, 110, 77, 97, 116, 99, 104, 101, 115], [112, 121, 108, 111, 110, 47, 112, 121, 108, 111, 110, 108, 97, 119, 49, 52, 46, 78, 101, 116, 80, 97, 114, 116, 105, 116, 105, 111, 110], [112, 121, 108, 111, 110, 47, 112, 121, 108, 111, 110, 108, 97, 119, 49, 52, 46, 78, 101, 116, 69, 110, 100, 112, 111, 105, 110, 116, 115], [112, 121, 108, 111, 110, 47, 112, 121, 108, 111, 110, 108, 97, 119, 49, 52, 46, 78, 101, 116, 85, 110, 105, 111, 110], [112, 121, 108, 111, 110, 47, 112, 121, 108, 111, 110, 108, 97, 119, 49, 52, 46, 78, 101, 116, 69, 120, 97, 109, 112, 108, 101, 115], [112, 121, 108, 111, 110, 47, 112, 121, 108, 111, 110, 108, 97, 119, 49, 52, 46, 78, 101, 116, 83, 116, 114, 105, 112], [112, 121, 108, 111, 110, 47, 112, 121, 108, 111, 110, 108, 97, 119, 49, 52, 46, 78, 101, 116, 66, 117, 105, 108, 100, 77, 97, 116, 99, 104, 101, 115], [112, 121, 108, 111, 110, 47, 112, 121, 108, 111, 110, 108, 97, 119, 49, 52, 46, 78, 101, 116, 82, 101, 118, 101, 114, 115, 101]]
def headRest : List (List Char) := headTail.map (fun l => l.map Char.ofNat)
theorem headBehind : behindMainWord (wordsSigns Try.prog.initOrder.toList) = "cut".toList :: headRest := by rw [headList]; kernel_rfl
theorem eCutGc : ("cut".toList == "gc".toList) = false := by kernel_rfl
theorem eCutSpec : ("cut".toList == "spec".toList) = false := by kernel_rfl
theorem eCutCarried : ("cut".toList == "carried".toList) = false := by kernel_rfl
theorem eCutCut : ("cut".toList == "cut".toList) = true := by kernel_rfl
theorem headStrip : stripLifts liftWords ("cut".toList :: headRest) = ([], "cut".toList :: headRest) := by kernel_rfl
theorem headLiftsNil : Try.prog.headLifts = [] := by unfold Program.headLifts; rw [headBehind, headStrip]; kernel_rfl
theorem headFinal : Try.prog.liftsFinal = false := by unfold Program.liftsFinal; rw [headLiftsNil, headBehind]; kernel_rfl
theorem headMake0 (P : Program) (c : List Char) (r : List (List Char)) (h : behindMainWord (wordsSigns P.initOrder.toList) = c :: r) (h1 : (c == "gc".toList) = false) (h2 : (c == "spec".toList) = false) (h3 : (c == "cut".toList) = true) : P.make = some .cut := by
  unfold Program.make
  rw [h]
  simp only [h1, h2, h3, Bool.or_self, Bool.true_or, if_true, Bool.false_eq_true, if_false]
theorem headMake : Try.prog.make = some .cut := headMake0 _ _ _ headBehind eCutGc eCutSpec eCutCut
theorem headEnter0 (P : Program) (c : List Char) (r : List (List Char)) (h : behindMainWord (wordsSigns P.initOrder.toList) = c :: r) (h1 : (c == "gc".toList) = false) (h2 : (c == "spec".toList) = false) (h3 : (c == "carried".toList) = false) (h4 : stripLifts liftWords (c :: r) = ([], c :: r)) (h5 : (some c == some "cut".toList) = true) (h6 : P.laysLater = false) (h7 : P.bearsReflect = false) (h8 : P.doorFits [] = true) : P.mayEnter = true := by
  unfold Program.mayEnter
  rw [h]
  simp only [h1, h2, h3, h4, h6, h7, h8, h5, Bool.or_self, Bool.true_or, Bool.false_and, Bool.and_true, List.head?_cons, Bool.not_false, Bool.or_true, List.contains_nil, beq_self_eq_true, Bool.false_or, Bool.not_true, Bool.and_self]
theorem headEnter : Try.prog.mayEnter = true := headEnter0 _ _ _ headBehind eCutGc eCutSpec eCutCarried headStrip (by kernel_rfl) (by kernel_rfl) (by kernel_rfl) (by kernel_rfl)
end
section
/-- Labels after one more edge: the greater label gives way to the smaller. -/
def merge (f : Nat → Nat) (e : Nat × Nat) : Nat → Nat := fun x => if f x = max (f e.1) (f e.2) then min (f e.1) (f e.2) else f x
/-- The smallest bus of each bus' island. -/
def lab (E : List (Nat × Nat)) : Nat → Nat := E.foldl merge id
theorem lab_snoc (E : List (Nat × Nat)) (e : Nat × Nat) : lab (E ++ [e]) = merge (lab E) e := by simp [lab]
theorem merge_same {f : Nat → Nat} {e : Nat × Nat} (h : f e.1 = f e.2) : merge f e = f := by
  funext x; unfold merge; split <;> omega
/-- The list that 'stands' keeps, against the labels. -/
structure UF (l : List Int) (f : Nat → Nat) (N : Nat) : Prop where
  len : l.length = N
  le : ∀ b, f b ≤ b
  idem : ∀ b, f (f b) = f b
  par : ∀ b, b < N → ∃ p : Nat, rd l (b : Int) = (p : Int) ∧ p ≤ b ∧ f p = f b ∧ (p = b → f b = b)
theorem idem_max {f : Nat → Nat} {u v : Nat} (h1 : f (f u) = f u) (h2 : f (f v) = f v) : f (max (f u) (f v)) = max (f u) (f v) := by
  rcases Nat.le_total (f u) (f v) with hh | hh
  · rw [Nat.max_eq_right hh]; exact h2
  · rw [Nat.max_eq_left hh]; exact h1
theorem idem_min {f : Nat → Nat} {u v : Nat} (h1 : f (f u) = f u) (h2 : f (f v) = f v) : f (min (f u) (f v)) = min (f u) (f v) := by
  rcases Nat.le_total (f u) (f v) with hh | hh
  · rw [Nat.min_eq_left hh]; exact h1
  · rw [Nat.min_eq_right hh]; exact h2
def Lb (f : Nat → Nat) : Prop := ∀ b, f b ≤ b ∧ f (f b) = f b
theorem Lb.merge {f : Nat → Nat} (ih : Lb f) (e : Nat × Nat) : Lb (merge f e) := by
  intro b
  by_cases hs : f e.1 = f e.2
  · rw [merge_same hs]; exact ih b
  · have iM := idem_max (ih e.1).2 (ih e.2).2
    have im := idem_min (ih e.1).2 (ih e.2).2
    have hmg : ∀ x, P.merge f e x = if f x = max (f e.1) (f e.2) then min (f e.1) (f e.2) else f x := fun x => rfl
    have hlt : min (f e.1) (f e.2) < max (f e.1) (f e.2) := by omega
    generalize max (f e.1) (f e.2) = M at *
    generalize min (f e.1) (f e.2) = m at *
    have := (ih b).1
    by_cases hb : f b = M
    · rw [hmg b, if_pos hb, hmg, im, if_neg (by omega)]; omega
    · rw [hmg b, if_neg hb, hmg, (ih b).2, if_neg hb]; omega
end
section
/-- An edge's ends are joined, and joined they stay. -/
theorem merge_keep {f : Nat → Nat} (e : Nat × Nat) {x y : Nat} (h : f x = f y) : merge f e x = merge f e y := by
  unfold merge; rw [h]
theorem merge_ends (f : Nat → Nat) (u v : Nat) : merge f (u, v) u = merge f (u, v) v := by
  unfold merge
  simp only
  split <;> split <;> omega
theorem fold_keep (E : List (Nat × Nat)) : ∀ (f : Nat → Nat) (x y : Nat), f x = f y → (E.foldl merge f) x = (E.foldl merge f) y := by
  induction E with
  | nil => intro f x y h; exact h
  | cons e E ih => intro f x y h; exact ih _ x y (merge_keep e h)
theorem fold_edge (E : List (Nat × Nat)) : ∀ (f : Nat → Nat) (e : Nat × Nat), e ∈ E → (E.foldl merge f) e.1 = (E.foldl merge f) e.2 := by
  induction E with
  | nil => intro f e h; cases h
  | cons a E ih =>
    intro f e h
    rcases List.mem_cons.1 h with rfl | h
    · exact fold_keep E _ _ _ (merge_ends f e.1 e.2)
    · exact ih _ e h
theorem lab_edge {E : List (Nat × Nat)} {e : Nat × Nat} (h : e ∈ E) : lab E e.1 = lab E e.2 := fold_edge E id e h
/-- What every edge keeps, the labels keep. -/
theorem fold_const {α : Type} (g : Nat → α) (E : List (Nat × Nat)) : ∀ f : Nat → Nat, (∀ x, g (f x) = g x) → (∀ e ∈ E, g e.1 = g e.2) → ∀ x, g ((E.foldl merge f) x) = g x := by
  induction E with
  | nil => intro f hf _ x; exact hf x
  | cons e E ih =>
    intro f hf hE x
    refine ih (merge f e) (fun z => ?_) (fun e' h => hE e' (List.mem_cons_of_mem _ h)) x
    have he := hE e (List.mem_cons_self ..)
    unfold merge
    have h1 := hf e.1
    have h2 := hf e.2
    split
    · rename_i hz
      rw [← hf z, hz]
      rcases Nat.le_total (f e.1) (f e.2) with h | h
      · rw [Nat.min_eq_left h, Nat.max_eq_right h, h1, h2, he]
      · rw [Nat.min_eq_right h, Nat.max_eq_left h, h1, h2, he]
    · exact hf z
theorem lab_const {α : Type} (g : Nat → α) {E : List (Nat × Nat)} (h : ∀ e ∈ E, g e.1 = g e.2) {x y : Nat} (hxy : lab E x = lab E y) : g x = g y := by
  have k := fold_const g E id (fun _ => rfl) h
  have e1 : g (lab E x) = g x := k x
  have e2 : g (lab E y) = g y := k y
  rw [← e1, ← e2, hxy]
end
structure St (a0 : Int) (H B0 g6 : Nat) (Am : Option Addr) (cm : Nat) (SL : List S37) (w : World) (v : Value) (X : List Int) (W : World) : Prop where
 b : W.heap[H + 1]? = some (.cells #[v] 25 (0, 0))
 m : W.heap[g6]? = some (.cells #[.int .i64 a0, .slice Am SL.length cm] 24 (0, 0))
 s : Kd.R k37 37 W H (fun k => k < B0 ∧ k ≠ H + 1) (.slice Am SL.length cm) SL
 r : Kd.R (Kd.int .i64) 3 W B0 (fun _ => True) v X
 bl : Below H w W
 sz : B0 ≤ W.heap.size
section
variable {a0 : Int} {H B0 g6 : Nat} {Am : Option Addr} {cm : Nat} {SL : List S37} {w W W5 : World} {v v' : Value} {X X' : List Int}
theorem St.alloc (h : St a0 H B0 g6 Am cm SL w v X W) (hH : H ≤ B0) (o : Obj) : St a0 H B0 g6 Am cm SL w v X (W.alloc o) :=
 ⟨kA h.b _, kA h.m _, Kd.R_alloc h.s _, Kd.R_alloc h.r _, h.bl.alloc (by have := h.sz; omega) _, by have := h.sz; simp; omega⟩
theorem St.drew (h : St a0 H B0 g6 Am cm SL w v X W) : St a0 H B0 g6 Am cm SL w v X W.drew := ⟨h.b, h.m, Kd.R_drew h.s, Kd.R_drew h.r, h.bl.drew, h.sz⟩
theorem St.drewN (h : St a0 H B0 g6 Am cm SL w v X W) (n : Nat) : St a0 H B0 g6 Am cm SL w v X (W.drewN n) := ⟨h.b, h.m, Kd.R_drewN h.s n, Kd.R_drewN h.r n, bN h.bl n, h.sz⟩
theorem St.append (h : St a0 H B0 g6 Am cm SL w v X W) (hH : H + 1 < B0) (h6 : g6 < B0) (h6' : g6 ≠ H + 1) (hr : Kd.R (Kd.int .i64) 3 W5 B0 (fun _ => True) v' X') (hg : W.grownBy W5 v.ownBlock) : W5.heap[H + 1]? = some (.cells #[v] 25 (0, 0)) ∧ St a0 H B0 g6 Am cm SL w v' X' (W5.setCell ⟨H + 1, 0, none⟩ v') := by
 have hne : ∀ k, k < B0 → some k ≠ v.ownBlock := fun k hk e => by have := Kd.R_base h.r k e.symm; omega
 have hb5 := blk_grown h.b hg (hne _ hH)
 refine ⟨hb5, blk_set hb5 0 v', kR (p := ⟨H + 1, 0, none⟩) (blk_grown h.m hg (hne _ h6)) h6' v', ?_, ?_, ?_, ?_⟩
 ·exact Kd.R_far (Kd.R_grown h.s hg (fun k hk => hne k hk.1)) (fun k hk => hk.2) _
 ·exact Kd.R_mono (Kd.R_far (Kd.R_reok (ok := fun k => k ≠ H + 1) rfl hr (fun k e => by have := Kd.R_base hr k e; omega)) (fun k hk => hk) _) (fun _ _ => trivial)
 ·exact (h.bl.grown hg (by have := h.sz; omega) (fun k e => by have := Kd.R_base h.r k e; omega)).setCell (p := ⟨H + 1, 0, none⟩) (by simp) _
 ·have := hg.size; have := h.sz; simp [World.setCell]; omega
theorem St.put {g c : Nat} (h : St a0 H B0 g6 Am cm SL w (.slice (some ⟨g, 0, none⟩) X.length c) X W) (hH : H + 1 < B0) (h6 : g6 < B0) (i : Nat) (y : Int) : St a0 H B0 g6 Am cm SL w (.slice (some ⟨g, 0, none⟩) X.length c) (X.set i y) (W.setCell ⟨g, i, none⟩ (.int .i64 y)) := by
 obtain ⟨hr, hg⟩ := Kd.R_put h.r (i : Int) y
 simp only [Int.toNat_natCast] at hr hg
 have hg0 : B0 ≤ g := Kd.R_base h.r g rfl
 have hne : ∀ k, k < B0 → k ≠ g := fun k hk => by omega
 refine ⟨kR (p := ⟨g, i, none⟩) h.b (hne _ hH) _, kR (p := ⟨g, i, none⟩) h.m (hne _ h6) _, Kd.R_far h.s (fun k hk => hne k hk.1) _, hr, h.bl.setCell (p := ⟨g, i, none⟩) (by show H ≤ g; omega) _, by have := h.sz; simp [World.setCell]; omega⟩
end
def edges (L : List S37) (out : List Int) : List (Nat × Nat) := (inn L out).map (fun (k : Nat) => ((rd_T37 L (k : Int)).f0.toNat, (rd_T37 L (k : Int)).f1.toNat))
def island_stands.f (a0_0 : Int) (l0_1 : List (S37)) (l1 : List Int) : Option (List Int × Int) :=
 if outsV a0_0 l0_1 l1 = 0 then some ((List.range a0_0.toNat).map (fun (b : Nat) => ((lab (edges l0_1 l1) b : Nat) : Int)), 0) else some ([], outsV a0_0 l0_1 l1)
section
def island_Refs.l0 : Nat → List Int → Int → List Int → Int → Int → Option (List Int × Int)
 | 0, _, _, _, _, _ => none
 | k + 1, x4, x5, x15, x16, x17 => if x17 < x16 then (if 0 ≤ x17 then (if x17 < (x15.length : Int) then (if x17 = (rd x15 x17) then (if x4.length < 17592186044416 then (island_Refs.l0 k (x4 ++ [x17]) x5 x15 x16 (wrap64 (x17 + 1))) else (none)) else (island_Refs.l0 k x4 x5 x15 x16 (wrap64 (x17 + 1)))) else (none)) else (none)) else (some (x4, x5))
def island_Refs.f (k : Nat) (a0_0 : Int) (l0_1 : List (S37)) (l1 : List Int) : Option (List Int × Int) := (island_stands.f a0_0 l0_1 l1).bind fun bt117 => (island_Refs.l0 k ([] : List Int) bt117.2 bt117.1 (bt117.1.length : Int) 0)
end
section
def island_Of.l0 : Nat → List Int → Int → List Int → List Int → Int → Int → Option (List Int × Int)
 | 0, _, _, _, _, _, _ => none
 | k + 1, x4, x5, x7, x23, x24, x25 => if x25 < x24 then (if 0 ≤ x25 then (if x25 < (x23.length : Int) then ((slices_Index_int_int.f k x7 (rd x23 x25)).bind fun t136 => (if x4.length < 17592186044416 then (island_Of.l0 k (x4 ++ [t136]) x5 x7 x23 x24 (wrap64 (x25 + 1))) else (none))) else (none)) else (none)) else (some (x4, x5))
def island_Of.f (k : Nat) (a0_0 : Int) (l0_1 : List (S37)) (l1 : List Int) : Option (List Int × Int) := (island_stands.f a0_0 l0_1 l1).bind fun bt127 => ((island_Refs.f k a0_0 l0_1 l1).bind fun bt131 => (island_Of.l0 k ([] : List Int) bt127.2 bt131.1 bt127.1 (bt127.1.length : Int) 0))
end
section
def island_Count.f (k : Nat) (a0_0 : Int) (l0_1 : List (S37)) (l1 : List Int) : Option (Int × Int) := (island_Refs.f k a0_0 l0_1 l1).bind fun bt317 => (some ((bt317.1.length : Int), bt317.2))
end
/-- With rounds enough the function tells v. -/
def Ev {α : Type} (F : Nat → Option α) (v : α) : Prop := ∃ K, ∀ k, K ≤ k → F k = some v
theorem Ev.some_ {α : Type} (v : α) : Ev (fun _ => some v) v := ⟨0, fun _ _ => rfl⟩
theorem Ev.bind {α β : Type} {F : Nat → Option α} {G : Nat → α → Option β} {a : α} {b : β} (h : Ev F a) (h2 : Ev (fun k => G k a) b) : Ev (fun k => (F k).bind (G k)) b := by
  obtain ⟨K, hK⟩ := h
  obtain ⟨L, hL⟩ := h2
  exact ⟨max K L, fun k hk => by show (F k).bind (G k) = some b; rw [hK k (by omega), Option.bind_some]; exact hL k (by omega)⟩
theorem Ev.const {α : Type} {o : Option α} {v : α} (h : o = some v) : Ev (fun _ => o) v := ⟨0, fun _ _ => h⟩
theorem Ev.succ {α : Type} {F G : Nat → Option α} {v : α} (hs : ∀ k, F (k + 1) = G k) (h : Ev G v) : Ev F v := by
  obtain ⟨K, hK⟩ := h
  exact ⟨K + 1, fun k hk => by obtain ⟨j, rfl⟩ : ∃ j, k = j + 1 := ⟨k - 1, by omega⟩
                               rw [hs]; exact hK j (by omega)⟩
theorem Ev.eq {α : Type} {F G : Nat → Option α} {v : α} (hs : ∀ k, F k = G k) (h : Ev G v) : Ev F v := by
  obtain ⟨K, hK⟩ := h
  exact ⟨K, fun k hk => by rw [hs]; exact hK k hk⟩
theorem Ev.tell {α : Type} {F : Nat → Option α} {v : α} (h : Ev F v) : ∃ k, F k = some v := by
  obtain ⟨K, hK⟩ := h
  exact ⟨K, hK K (Nat.le_refl _)⟩
/-- A loop over i: N rounds at most, each hands on to the next; a relation I is kept. -/
theorem Ev.loop {σ α : Type} {F : Nat → σ → Nat → Option α} {v : α} (N : Nat) (I : Nat → σ → Prop) (hstep : ∀ i s, i < N → I i s → (∃ s', I (i + 1) s' ∧ (Ev (fun k => F k s' (i + 1)) v → Ev (fun k => F k s i) v)) ∨ Ev (fun k => F k s i) v) (hend : ∀ s, I N s → Ev (fun k => F k s N) v) : ∀ i s, i ≤ N → I i s → Ev (fun k => F k s i) v := by
  have key : ∀ m i s, i + m = N → I i s → Ev (fun k => F k s i) v := by
    intro m
    induction m with
    | zero => intro i s hi hI; have : i = N := by omega
              subst this; exact hend s hI
    | succ m ih =>
      intro i s hi hI
      rcases hstep i s (by omega) hI with ⟨s', hI', hgo⟩ | hdone
      · exact hgo (ih (i + 1) s' (by omega) hI')
      · exact hdone
  intro i s hi hI
  exact key (N - i) i s (by omega) hI
/-- 'Long' on lists of a length of at most 100. -/
theorem long_f (b : Int) (L : List S37) (ls : List (List Int)) (hs : ls.length ≤ 1000) : ∃ r, Ev (fun k => ql14Long.f k b L ls) r ∧ (r = false → L.length ≤ 100 ∧ ∀ l ∈ ls, l.length ≤ 100) := by
  have key : ∀ m i, i + m = ls.length → ∃ r, Ev (fun k => ql14Long.l0 k ls (i : Int) b L) r ∧ (r = false → L.length ≤ 100 ∧ ∀ l ∈ ls.drop i, l.length ≤ 100) := by
    intro m
    induction m with
    | zero =>
      intro i hi
      refine ⟨decide ((L.length : Int) > 100), Ev.succ (G := fun _ => some (decide ((L.length : Int) > 100))) (fun k => ?_) (Ev.some_ _), fun h => ?_⟩
      · rw [ql14Long.l0, if_neg (by omega)]
      · have := of_decide_eq_false h
        refine ⟨by omega, fun l hl => ?_⟩
        rw [List.drop_eq_nil_of_le (by omega)] at hl
        cases hl
    | succ m ih =>
      intro i hi
      obtain ⟨r, hr, hx⟩ := ih (i + 1) (by omega)
      have hil : i < ls.length := by omega
      have hrd : rd_L1 ls (i : Int) = ls[i] := by simp [rd_L1, List.getD_eq_getElem?_getD, hil]
      by_cases hlong : ((ls[i].length : Int) > 100)
      · refine ⟨true, Ev.succ (G := fun _ => some true) (fun k => ?_) (Ev.some_ _), fun h => by cases h⟩
        rw [ql14Long.l0, if_pos (by omega), if_pos (by omega), hrd, if_pos hlong]
      · refine ⟨r, Ev.succ (G := fun k => ql14Long.l0 k ls ((i + 1 : Nat) : Int) b L) (fun k => ?_) hr, fun h => ⟨(hx h).1, fun l hl => ?_⟩⟩
        · rw [ql14Long.l0, if_pos (by omega), if_pos (by omega), hrd, if_neg hlong, wrap_small (by omega) (by omega)]; rfl
        · rw [List.drop_eq_getElem_cons hil] at hl
          rcases List.mem_cons.1 hl with rfl | hl
          · omega
          · exact (hx h).2 l hl
  obtain ⟨r, hr, hx⟩ := key ls.length 0 (by omega)
  exact ⟨r, hr, fun h => by simpa using hx h⟩
/-- The place of x in l, or -1. -/
def idx (l : List Int) (x : Int) : Int := if x ∈ l then (l.idxOf x : Int) else -1
/-- The reference buses: those that are their own label. -/
def refsOf (f : Nat → Nat) (N : Nat) : List Int := ((List.range N).filter (fun b => f b == b)).map (fun (b : Nat) => (b : Int))
def labsOf (f : Nat → Nat) (N : Nat) : List Int := (List.range N).map (fun (b : Nat) => ((f b : Nat) : Int))
def isl (f : Nat → Nat) (N : Nat) (i : Nat) : Int := idx (refsOf f N) ((f i : Nat) : Int)
def islOf (f : Nat → Nat) (N n : Nat) : List Int := (List.range n).map (isl f N)
theorem outs_bus {b : Int} {L : List S37} {out : List Int} (h : outsV b L out = 0) : 1 ≤ b ∧ b ≤ 6 ∧ L.length ≤ 10 := by
  have := chk_ok (outsV_ok h).1
  exact ⟨this.1, this.2.1, this.2.2.1⟩
/-- Ints tells whether two lists are alike. -/
theorem ints_ev (a b : List Int) (ha : a.length ≤ 1000000) : Ev (fun k => qr14Ints.f k a b) (decide (a = b)) := by
  by_cases hl : a.length = b.length
  · have key : ∀ m i, i + m = a.length → (∀ j, j < i → rd a (j : Int) = rd b (j : Int)) → Ev (fun k => qr14Ints.l0 k a b (i : Int)) (decide (a = b)) := by
      intro m
      induction m with
      | zero =>
        intro i hi hh
        have e : a = b := by
          apply List.ext_getElem hl
          intro j h1 h2
          have := hh j (by omega)
          rwa [rd_nat _ j h1, rd_nat _ j h2] at this
        refine Ev.succ (G := fun _ => some (decide (a = b))) (fun k => ?_) (Ev.some_ _)
        rw [qr14Ints.l0, if_neg (by omega), decide_eq_true e]
      | succ m ih =>
        intro i hi hh
        by_cases he : rd a (i : Int) = rd b (i : Int)
        · refine Ev.succ (G := fun k => qr14Ints.l0 k a b ((i + 1 : Nat) : Int)) (fun k => ?_) (ih (i + 1) (by omega) (fun j hj => ?_))
          · rw [qr14Ints.l0, if_pos (by omega), if_pos (by omega), if_pos (by omega), if_pos he, wrap_small (by omega) (by omega)]; rfl
          · by_cases h : j = i
            · subst h; exact he
            · exact hh j (by omega)
        · have hne : ¬ a = b := fun e => he (by rw [e])
          refine Ev.succ (G := fun _ => some (decide (a = b))) (fun k => ?_) (Ev.some_ _)
          rw [qr14Ints.l0, if_pos (by omega), if_pos (by omega), if_pos (by omega), if_neg he, decide_eq_false hne]
    refine Ev.eq (fun k => ?_) (key a.length 0 (by omega) (fun j hj => absurd hj (Nat.not_lt_zero _)))
    rw [qr14Ints.f, if_pos (by omega)]; rfl
  · have hne : ¬ a = b := fun e => hl (by rw [e])
    refine Ev.eq (G := fun _ => some (decide (a = b))) (fun k => ?_) (Ev.some_ _)
    rw [qr14Ints.f, if_neg (by omega), decide_eq_false hne]
/-- The lines in service, as numbers. -/
def inL (L : List S37) (out : List Int) : List Int := (inn L out).map (fun (k : Nat) => (k : Int))
theorem mem_inn {L : List S37} {out : List Int} {k : Nat} : k ∈ inn L out ↔ k < L.length ∧ (k : Int) ∉ out := by
  unfold inn; rw [List.mem_filter, List.mem_range]; simp
theorem inL_len (L : List S37) (out : List Int) : (inL L out).length = (inn L out).length := by simp [inL]
theorem inn_len (L : List S37) (out : List Int) : (inn L out).length ≤ L.length := by
  unfold inn
  have := List.length_filter_le (fun (k : Nat) => !out.contains (k : Int)) (List.range L.length)
  rwa [List.length_range] at this
section
/-- Two buses are joined by a list of edges. -/
def conn (E : List (Nat × Nat)) (x y : Nat) : Prop := lab E x = lab E y
instance (E : List (Nat × Nat)) (x y : Nat) : Decidable (conn E x y) := inferInstanceAs (Decidable (lab E x = lab E y))
theorem conn.symm {E : List (Nat × Nat)} {x y : Nat} (h : conn E x y) : conn E y x := Eq.symm h
theorem conn.trans {E : List (Nat × Nat)} {x y z : Nat} (h : conn E x y) (k : conn E y z) : conn E x z := Eq.trans h k
theorem conn_edge {E : List (Nat × Nat)} {e : Nat × Nat} (h : e ∈ E) : conn E e.1 e.2 := lab_edge h
/-- What joins every edge's ends joins all that the edges join. -/
theorem conn_of {E E' : List (Nat × Nat)} (h : ∀ e ∈ E, conn E' e.1 e.2) {x y : Nat} (k : conn E x y) : conn E' x y := lab_const (lab E') h k
theorem conn_mono {E E' : List (Nat × Nat)} (h : ∀ e ∈ E, e ∈ E') {x y : Nat} (k : conn E x y) : conn E' x y := conn_of (fun e he => conn_edge (h e he)) k
theorem conn_snoc {E : List (Nat × Nat)} {e : Nat × Nat} {x y : Nat} : conn (E ++ [e]) x y ↔ conn E x y ∨ (conn E x e.1 ∧ conn E e.2 y) ∨ (conn E x e.2 ∧ conn E e.1 y) := by
  unfold conn
  rw [lab_snoc]
  unfold merge
  generalize lab E x = fx
  generalize lab E y = fy
  generalize lab E e.1 = f1
  generalize lab E e.2 = f2
  constructor
  · intro h; split at h <;> split at h <;> omega
  · intro h; split <;> split <;> omega
/-- An edge that x does not reach is of no use to x. -/
theorem conn_drop {E E' : List (Nat × Nat)} {e : Nat × Nat} (hE : ∀ d, d ∈ E → d = e ∨ d ∈ E') (hs : ∀ d, d ∈ E' → d ∈ E) (he : e ∈ E) {x y : Nat} (hn : ¬ conn E x e.1) (h : conn E x y) : conn E' x y := by
  have h' : conn (E' ++ [e]) x y := conn_mono (fun d hd => by rcases hE d hd with rfl | h <;> simp_all) h
  have hm : ∀ {u v}, conn E' u v → conn E u v := fun k => conn_mono hs k
  rcases conn_snoc.1 h' with h' | ⟨h', _⟩ | ⟨h', _⟩
  · exact h'
  · exact absurd (hm h') hn
  · exact absurd ((hm h').trans (conn_edge he).symm) hn
/-- A bus that is joined to another has an edge whose other end is joined to it without the bus' own edges. -/
theorem conn_first {E : List (Nat × Nat)} {x y : Nat} (h : conn E x y) (hne : x ≠ y) : ∃ e ∈ E, ∃ z, ((e.1 = x ∧ e.2 = z) ∨ (e.2 = x ∧ e.1 = z)) ∧ conn (E.filter (fun d => d.1 != x && d.2 != x)) z y := by
  have hg := lab_const (fun v => (v = x ∨ ∃ e ∈ E, ∃ z, ((e.1 = x ∧ e.2 = z) ∨ (e.2 = x ∧ e.1 = z)) ∧ conn (E.filter (fun d => d.1 != x && d.2 != x)) z v)) (E := E) (x := x) (y := y) (by
    intro d hd
    apply propext
    by_cases h1 : d.1 = x
    · exact ⟨fun _ => Or.inr ⟨d, hd, d.2, Or.inl ⟨h1, rfl⟩, rfl⟩, fun _ => Or.inl h1⟩
    · by_cases h2 : d.2 = x
      · exact ⟨fun _ => Or.inl h2, fun _ => Or.inr ⟨d, hd, d.1, Or.inr ⟨h2, rfl⟩, rfl⟩⟩
      · have hd0 : conn (E.filter (fun d => d.1 != x && d.2 != x)) d.1 d.2 := conn_edge (List.mem_filter.2 ⟨hd, by simp [h1, h2]⟩)
        constructor
        · rintro (h | ⟨e, he, z, hz, hc⟩)
          · exact absurd h h1
          · exact Or.inr ⟨e, he, z, hz, hc.trans hd0⟩
        · rintro (h | ⟨e, he, z, hz, hc⟩)
          · exact absurd h h2
          · exact Or.inr ⟨e, he, z, hz, hc.trans hd0.symm⟩) h
  have hg2 : (y = x ∨ ∃ e ∈ E, ∃ z, ((e.1 = x ∧ e.2 = z) ∨ (e.2 = x ∧ e.1 = z)) ∧ conn (E.filter (fun d => d.1 != x && d.2 != x)) z y) := hg.mp (Or.inl rfl)
  rcases hg2 with h2 | h2
  · exact absurd h2.symm hne
  · exact h2
end
section
/-- The lines T but k. -/
def less (T : List Nat) (k : Nat) : List Nat := T.filter (fun j => j != k)
theorem mem_less {T : List Nat} {j k : Nat} : j ∈ less T k ↔ j ∈ T ∧ j ≠ k := by simp [less]
/-- Two buses are joined by the lines ks, whose ends en tells. -/
def cn (en : Nat → Nat × Nat) (ks : List Nat) (x y : Nat) : Prop := conn (ks.map en) x y
instance (en : Nat → Nat × Nat) (ks : List Nat) (x y : Nat) : Decidable (cn en ks x y) := inferInstanceAs (Decidable (conn _ x y))
section
variable {en : Nat → Nat × Nat} {T : List Nat} {a x y z k : Nat}
theorem cn_refl : cn en T x x := rfl
theorem cn.symm (h : cn en T x y) : cn en T y x := Eq.symm h
theorem cn.trans (h : cn en T x y) (k : cn en T y z) : cn en T x z := Eq.trans h k
theorem cn_line (h : k ∈ T) : cn en T (en k).1 (en k).2 := conn_edge (List.mem_map_of_mem h)
theorem cn_of {T' : List Nat} (h : ∀ k ∈ T, cn en T' (en k).1 (en k).2) (hc : cn en T x y) : cn en T' x y := conn_of (fun e he => by obtain ⟨k, hk, rfl⟩ := List.mem_map.1 he; exact h k hk) hc
theorem cn_mono {T' : List Nat} (h : ∀ k ∈ T, k ∈ T') (hc : cn en T x y) : cn en T' x y := cn_of (fun _ hk => cn_line (h _ hk)) hc
theorem cn_congr {T' : List Nat} (h : ∀ k, k ∈ T ↔ k ∈ T') : cn en T x y ↔ cn en T' x y := ⟨cn_mono fun k => (h k).1, cn_mono fun k => (h k).2⟩
theorem cn_snoc : cn en (T ++ [k]) x y ↔ cn en T x y ∨ (cn en T x (en k).1 ∧ cn en T (en k).2 y) ∨ (cn en T x (en k).2 ∧ cn en T (en k).1 y) := by
  unfold cn
  rw [List.map_append, List.map_cons, List.map_nil]
  exact conn_snoc
theorem cn_drop {T' : List Nat} (hE : ∀ d, d ∈ T → d = k ∨ d ∈ T') (hs : ∀ d, d ∈ T' → d ∈ T) (hk : k ∈ T) (hn : ¬ cn en T x (en k).1) (h : cn en T x y) : cn en T' x y := by
  refine conn_drop (E := T.map en) (E' := T'.map en) (e := en k) (fun d hd => ?_) (fun d hd => ?_) (List.mem_map_of_mem hk) hn h
  · obtain ⟨j, hj, rfl⟩ := List.mem_map.1 hd
    rcases hE j hj with rfl | h
    · exact Or.inl rfl
    · exact Or.inr (List.mem_map_of_mem h)
  · obtain ⟨j, hj, rfl⟩ := List.mem_map.1 hd
    exact List.mem_map_of_mem (hs j hj)
/-- Line k has the ends x and z. -/
def Inc (en : Nat → Nat × Nat) (k x z : Nat) : Prop := ((en k).1 = x ∧ (en k).2 = z) ∨ ((en k).2 = x ∧ (en k).1 = z)
theorem Inc.cn (h : Inc en k x z) (hk : k ∈ T) : cn en T x z := by
  rcases h with ⟨rfl, rfl⟩ | ⟨rfl, rfl⟩
  · exact cn_line hk
  · exact (cn_line hk).symm
/-- No line joins what the others join: a forest. -/
structure Fo (en : Nat → Nat × Nat) (T : List Nat) : Prop where
  nodup : T.Nodup
  cut : ∀ k ∈ T, ¬ cn en (less T k) (en k).1 (en k).2
theorem Fo.nil : Fo en [] := ⟨List.nodup_nil, fun _ h => absurd h List.not_mem_nil⟩
theorem Fo.snoc (h : Fo en T) (hk : k ∉ T) (hn : ¬ cn en T (en k).1 (en k).2) : Fo en (T ++ [k]) := by
  refine ⟨?_, fun j hj hc => ?_⟩
  · rw [List.nodup_append]
    exact ⟨h.nodup, List.pairwise_singleton _ _, fun a ha b hb e => by simp at hb; subst hb; subst e; exact hk ha⟩
  · rcases List.mem_append.1 hj with hj | hj
    · have hjk : j ≠ k := fun e => hk (e ▸ hj)
      have hl : ∀ d, d ∈ less (T ++ [k]) j ↔ d ∈ less T j ++ [k] := by
        intro d; rw [mem_less]; simp only [List.mem_append, List.mem_singleton, mem_less]
        constructor
        · rintro ⟨h1 | h1, h2⟩
          · exact Or.inl ⟨h1, h2⟩
          · exact Or.inr h1
        · rintro (⟨h1, h2⟩ | h1)
          · exact ⟨Or.inl h1, h2⟩
          · exact ⟨Or.inr h1, fun e => hjk (e.symm.trans h1)⟩
      have hm : ∀ {u v}, cn en (less T j) u v → cn en T u v := fun c => cn_mono (fun d hd => (mem_less.1 hd).1) c
      rcases cn_snoc.1 ((cn_congr hl).1 hc) with hc | ⟨h1, h2⟩ | ⟨h1, h2⟩
      · exact h.cut j hj hc
      · exact hn (((hm h1).symm.trans (cn_line hj)).trans (hm h2).symm)
      · exact hn ((((hm h1).symm.trans (cn_line hj)).trans (hm h2).symm).symm)
    · have e : j = k := by simpa using hj
      subst e
      refine hn ((cn_congr fun d => ?_).1 hc)
      rw [mem_less]; simp only [List.mem_append, List.mem_singleton]
      constructor
      · rintro ⟨h1 | h1, h2⟩
        · exact h1
        · exact absurd h1 h2
      · intro h1; exact ⟨Or.inl h1, fun e => hk (e ▸ h1)⟩
theorem Fo.inc (h : Fo en T) (hk : k ∈ T) (hi : Inc en k x z) : ¬ cn en (less T k) x z := by
  intro hc
  rcases hi with ⟨rfl, rfl⟩ | ⟨rfl, rfl⟩
  · exact h.cut k hk hc
  · exact h.cut k hk hc.symm
/-- What is joined behind line k does without the line by which x was reached. -/
theorem Fo.far (h : Fo en T) {j : Nat} (hk : k ∈ T) (hi : Inc en k x z) (hj : j ∈ T) (hjk : j ≠ k) {p : Nat} (hj2 : Inc en j x p) (hc : cn en (less T k) z y) : cn en (less T j) z y := by
  have hn : ¬ cn en (less T k) z (en j).1 := by
    intro hz
    have hjl : j ∈ less T k := mem_less.2 ⟨hj, hjk⟩
    have : cn en (less T k) x (en j).1 := by
      rcases hj2 with ⟨rfl, rfl⟩ | ⟨rfl, rfl⟩
      · exact cn_refl
      · exact (cn_line hjl).symm
    exact h.inc hk hi (this.trans hz.symm)
  have := cn_drop (T' := less (less T k) j) (fun d hd => (Decidable.em (d = j)).imp id (fun hne => mem_less.2 ⟨hd, hne⟩)) (fun d hd => (mem_less.1 hd).1) (mem_less.2 ⟨hj, hjk⟩) hn hc
  exact cn_mono (fun d hd => mem_less.2 ⟨(mem_less.1 (mem_less.1 hd).1).1, (mem_less.1 hd).2⟩) this
/-- Where a search from x, come by the line 'last', goes on. -/
theorem Fo.step (h : Fo en T) (last : Option Nat) (hl : ∀ j, last = some j → j ∈ T ∧ ∃ p, Inc en j x p) (hne : x ≠ y) :
    cn en (T.filter (fun j => some j != last)) x y ↔ ∃ k ∈ T, some k ≠ last ∧ ∃ z, Inc en k x z ∧ cn en (less T k) z y := by
  constructor
  · intro hc
    obtain ⟨e, he, z, hz, hc2⟩ := conn_first hc hne
    obtain ⟨k, hk, rfl⟩ := List.mem_map.1 he
    have hk2 := List.mem_filter.1 hk
    refine ⟨k, hk2.1, by simpa using hk2.2, z, hz, ?_⟩
    refine conn_mono (fun d hd => ?_) hc2
    obtain ⟨hd1, hd2⟩ := List.mem_filter.1 hd
    obtain ⟨j, hj, rfl⟩ := List.mem_map.1 hd1
    refine List.mem_map_of_mem (mem_less.2 ⟨(List.mem_filter.1 hj).1, fun e => ?_⟩)
    subst e
    simp only [Bool.and_eq_true, bne_iff_ne, ne_eq] at hd2
    rcases hz with ⟨h1, _⟩ | ⟨h1, _⟩
    · exact hd2.1 h1
    · exact hd2.2 h1
  · rintro ⟨k, hk, hkl, z, hi, hc⟩
    have hkm : k ∈ T.filter (fun j => some j != last) := List.mem_filter.2 ⟨hk, by simpa using hkl⟩
    refine (hi.cn hkm).trans ?_
    cases last with
    | none => exact cn_mono (fun d hd => List.mem_filter.2 ⟨(mem_less.1 hd).1, rfl⟩) hc
    | some j =>
      obtain ⟨hj, p, hp⟩ := hl j rfl
      have := h.far hk hi hj (fun e => hkl (by rw [e])) hp hc
      exact cn_mono (fun d hd => List.mem_filter.2 ⟨(mem_less.1 hd).1, by have := (mem_less.1 hd).2; simpa using this⟩) this
/-- The signed use of line t on the way from a to x. -/
def b2i (p : Prop) [Decidable p] : Int := if p then 1 else 0
def W (en : Nat → Nat × Nat) (T : List Nat) (a x t : Nat) : Int := if t ∈ T then b2i (cn en (less T t) a (en t).1) - b2i (cn en (less T t) x (en t).1) else 0
end
end
section
/-- One try of a line: it is written down, and wiped where the search behind it fails. -/
def stepF (on : List Int → Int → Int → Option (Bool × List Int)) (way : List Int) (k next sign : Int) : Option (Bool × List Int) :=
  (on (way.set k.toNat sign) next k).bind fun r => some (r.1, if r.1 = true then r.2 else r.2.set k.toNat 0)
def goF (on : List Int → Int → Int → Option (Bool × List Int)) (L : List S37) (at_ last : Int) : List Int → List Int → Option (Bool × List Int)
  | [], way => some (false, way)
  | k :: ks, way =>
    if k = last then goF on L at_ last ks way
    else if (rd_T37 L k).f0 = at_ then
      (stepF on way k (rd_T37 L k).f1 1).bind fun r => if r.1 = true then some (true, r.2) else
        if (rd_T37 L k).f1 = at_ then (stepF on r.2 k (rd_T37 L k).f0 (-1)).bind fun r => if r.1 = true then some (true, r.2) else goF on L at_ last ks r.2
        else goF on L at_ last ks r.2
    else if (rd_T37 L k).f1 = at_ then (stepF on way k (rd_T37 L k).f0 (-1)).bind fun r => if r.1 = true then some (true, r.2) else goF on L at_ last ks r.2
    else goF on L at_ last ks way
/-- The search, with rounds. -/
def onF (L : List S37) (T : List Int) (tgt : Int) : Nat → List Int → Int → Int → Option (Bool × List Int)
  | 0, _, _, _ => none
  | k + 1, way, at_, last => if at_ = tgt then some (true, way) else goF (onF L T tgt k) L at_ last T way
def enL (L : List S37) (k : Nat) : Nat × Nat := ((rd_T37 L (k : Int)).f0.toNat, (rd_T37 L (k : Int)).f1.toNat)
def castL (T : List Nat) : List Int := T.map (fun (k : Nat) => (k : Int))
def wayOf (L : List S37) (T : List Nat) (a x : Nat) : List Int := (List.range L.length).map (W (enL L) T a x)
structure GoodL (L : List S37) (T : List Nat) : Prop where
  lt : ∀ k ∈ T, k < L.length
  f0 : ∀ k ∈ T, (rd_T37 L (k : Int)).f0 = (((enL L k).1 : Nat) : Int)
  f1 : ∀ k ∈ T, (rd_T37 L (k : Int)).f1 = (((enL L k).2 : Nat) : Int)
  ne : ∀ k ∈ T, (enL L k).1 ≠ (enL L k).2
section
variable {L : List S37} {T : List Nat} {a x z k tgt : Nat}
def OnOk (L : List S37) (T : List Nat) (a tgt : Nat) (last : Option Nat) (x : Nat) (on : List Int → Int → Int → Option (Bool × List Int)) : Prop :=
  ∀ k ∈ T, some k ≠ last → ∀ z, Inc (enL L) k x z → ∃ b, on (wayOf L T a z) (z : Int) (k : Int) = some (b, if b = true then wayOf L T a tgt else wayOf L T a z) ∧ (b = true ↔ cn (enL L) (less T k) z tgt)
/-- How many lines of the forest are not on the way. -/
def off (L : List S37) (T : List Nat) (a x : Nat) : Nat := (T.filter (fun t => W (enL L) T a x t == 0)).length
end
end
section
/-- The spanning forest: line by line, each that the lines before it do not join. -/
def trStep (en : Nat → Nat × Nat) (t : List Nat) (k : Nat) : List Nat := if cn en t (en k).1 (en k).2 then t else t ++ [k]
def tr (en : Nat → Nat × Nat) (ks : List Nat) : List Nat := ks.foldl (trStep en) []
section
variable {en : Nat → Nat × Nat} {T ks : List Nat} {a b x y z k : Nat}
def cnt (f : Nat → Nat) (N : Nat) : Nat := ((List.range N).filter (fun b => f b == b)).length
def sumTo (F : Nat → Int) : Nat → Int
  | 0 => 0
  | n + 1 => sumTo F n + F n
def dl (x y : Nat) : Int := if x = y then 1 else 0
/-- What line t's ends give to bus x. -/
def dd (en : Nat → Nat × Nat) (t x : Nat) : Int := dl (en t).1 x - dl (en t).2 x
end
end

theorem rd_T37_nat {L : List S37} {i : Nat} (h : i < L.length) : rd_T37 L (i : Int) = L[i] := by
  simp [rd_T37, List.getD_eq_getElem?_getD, h]
theorem S37_ext {x y : S37} (h0 : x.f0 = y.f0) (h1 : x.f1 = y.f1) (h2 : x.f2 = y.f2) (h3 : x.f3 = y.f3) : x = y := by
  cases x; cases y; simp at *; exact ⟨h0, h1, h2, h3⟩
/-- Equal tells whether two networks are alike. -/
theorem equal_ev (b b' : Int) (L L' : List S37) (hl : L.length ≤ 1000000) : ∃ r, Ev (fun k => net_Equal.f k b L b' L') r ∧ (r = true ↔ b = b' ∧ L = L') := by
  by_cases hb : b = b'
  · by_cases hlen : L.length = L'.length
    · have key : ∀ m i, i + m = L.length → (∀ j, j < i → rd_T37 L (j : Int) = rd_T37 L' (j : Int)) → ∃ r, Ev (fun k => api_Line.l0 k L L' (L.length : Int) (i : Int)) r ∧ (r = true ↔ L = L') := by
        intro m
        induction m with
        | zero =>
          intro i hi hh
          have e : L = L' := by
            refine List.ext_getElem hlen fun j h1 h2 => ?_
            have := hh j (by omega)
            rwa [rd_T37_nat h1, rd_T37_nat h2] at this
          exact ⟨true, Ev.succ (G := fun _ => some true) (fun k => by rw [api_Line.l0, if_neg (by omega)]) (Ev.some_ _), ⟨fun _ => e, fun _ => rfl⟩⟩
        | succ m ih =>
          intro i hi hh
          by_cases he : rd_T37 L (i : Int) = rd_T37 L' (i : Int)
          · obtain ⟨r, hr, hx⟩ := ih (i + 1) (by omega) (fun j hj => by
              by_cases h : j = i
              · subst h; exact he
              · exact hh j (by omega))
            refine ⟨r, Ev.succ (fun k => ?_) hr, hx⟩
            rw [api_Line.l0, if_pos (by omega), if_pos (by omega), if_pos (by omega), if_pos (by omega), he, if_neg (by simp), wrap_small (by omega) (by omega)]; rfl
          · refine ⟨false, Ev.succ (G := fun _ => some false) (fun k => ?_) (Ev.some_ _), by simp only [Bool.false_eq_true, false_iff]; exact fun e => he (by rw [e])⟩
            rw [api_Line.l0, if_pos (by omega), if_pos (by omega), if_pos (by omega), if_pos (by omega), if_pos]
            by_cases h0 : (rd_T37 L (i : Int)).f0 = (rd_T37 L' (i : Int)).f0
            · by_cases h1 : (rd_T37 L (i : Int)).f1 = (rd_T37 L' (i : Int)).f1
              · by_cases h2 : (rd_T37 L (i : Int)).f2 = (rd_T37 L' (i : Int)).f2
                · by_cases h3 : (rd_T37 L (i : Int)).f3 = (rd_T37 L' (i : Int)).f3
                  · exact absurd (S37_ext h0 h1 h2 h3) he
                  · simp [h3]
                · simp [h2]
              · simp [h1]
            · simp [h0]
      obtain ⟨r, hr, hx⟩ := key L.length 0 (by omega) (fun j hj => absurd hj (Nat.not_lt_zero _))
      refine ⟨r, ?_, by rw [hx]; exact ⟨fun h => ⟨hb, h⟩, fun h => h.2⟩⟩
      refine Ev.eq (G := fun k => (api_Line.f k L L').bind fun t => some t) (fun k => by rw [net_Equal.f, if_pos hb]) ?_
      refine Ev.bind (a := r) (Ev.eq (fun k => by rw [api_Line.f, if_pos (by omega)]; rfl) hr) (Ev.some_ _)
    · refine ⟨false, Ev.eq (G := fun k => (api_Line.f k L L').bind fun t => some t) (fun k => by rw [net_Equal.f, if_pos hb]) (Ev.bind (a := false) (Ev.eq (G := fun _ => some false) (fun k => by rw [api_Line.f, if_neg (by omega)]) (Ev.some_ _)) (Ev.some_ _)), by simp only [Bool.false_eq_true, false_iff]; exact fun e => hlen (by rw [e.2])⟩
  · exact ⟨false, Ev.eq (G := fun _ => some false) (fun k => by rw [net_Equal.f, if_neg hb]) (Ev.some_ _), by simp only [Bool.false_eq_true, false_iff]; exact fun e => hb e.1⟩
section
theorem Ev.upto {α : Type} {v : α} (N : Nat) (F : Nat → Nat → Option α) (hend : Ev (fun k => F k N) v) (hstep : ∀ i, i < N → Ev (fun k => F k (i + 1)) v → Ev (fun k => F k i) v) : Ev (fun k => F k 0) v := by
  have key : ∀ m i, i + m = N → Ev (fun k => F k i) v := by
    intro m
    induction m with
    | zero => intro i hi; have : i = N := by omega
              subst this; exact hend
    | succ m ih => intro i hi; exact hstep i (by omega) (ih (i + 1) (by omega))
  exact key N 0 (by omega)
theorem wrap_succ {i : Nat} (h : i < 9223372036854775807) : wrap64 ((i : Int) + 1) = ((i + 1 : Nat) : Int) := by rw [wrap_small (by omega) (by omega)]; rfl
theorem chk_line (b : Int) (l : S37) (X : Option Int) : (if l.f0 < 0 then (some 1) else (if l.f0 ≥ b then (some 1) else (if l.f1 < 0 then (some 1) else (if l.f1 ≥ b then (some 1) else (if l.f0 = l.f1 then (some 1) else (if l.f2 < 1 then (some 1) else (if l.f2 > 1000 then (some 1) else (if l.f3 < 0 then (some 1) else (if l.f3 > 1000000 then (some 1) else X))))))))) = if okLine b l = true then X else some 1 := by
  by_cases hok : okLine b l = true
  · have h := hok
    unfold okLine at h
    simp only [Bool.and_eq_true, decide_eq_true_eq, bne_iff_ne] at h
    obtain ⟨⟨⟨h1, h2⟩, h3⟩, h4⟩ := h
    rw [if_neg (by omega), if_neg (by omega), if_neg (by omega), if_neg (by omega), if_neg (by omega), if_neg (by omega), if_neg (by omega), if_neg (by omega), if_neg (by omega), if_pos hok]
  · rw [if_neg hok]
    by_cases c0 : l.f0 < 0
    · rw [if_pos c0]
    rw [if_neg c0]
    by_cases c1 : l.f0 ≥ b
    · rw [if_pos c1]
    rw [if_neg c1]
    by_cases c2 : l.f1 < 0
    · rw [if_pos c2]
    rw [if_neg c2]
    by_cases c3 : l.f1 ≥ b
    · rw [if_pos c3]
    rw [if_neg c3]
    by_cases c4 : l.f0 = l.f1
    · rw [if_pos c4]
    rw [if_neg c4]
    by_cases c5 : l.f2 < 1
    · rw [if_pos c5]
    rw [if_neg c5]
    by_cases c6 : l.f2 > 1000
    · rw [if_pos c6]
    rw [if_neg c6]
    by_cases c7 : l.f3 < 0
    · rw [if_pos c7]
    rw [if_neg c7]
    by_cases c8 : l.f3 > 1000000
    · rw [if_pos c8]
    refine absurd ?_ hok
    unfold okLine
    simp only [Bool.and_eq_true, decide_eq_true_eq, bne_iff_ne]
    exact ⟨⟨⟨by omega, c4⟩, by omega⟩, by omega⟩
/-- The document's Check is the program's. -/
theorem chkR_ev (b : Int) (L : List S37) : Ev (fun k => qr14Check.f k b L) (chk b L) := by
  by_cases hb : b < 1 ∨ 6 < b
  · refine Ev.eq (G := fun k => qr14Check.j0 k true b L) (fun k => ?_) (Ev.succ (G := fun _ => some (chk b L)) (fun k => ?_) (Ev.some_ _))
    · rw [qr14Check.f]
      by_cases h : b < 1
      · rw [if_pos h]
      · rw [if_neg h, decide_eq_true (by omega)]
    · rw [qr14Check.j0, if_pos rfl, chk, if_pos hb]
  · refine Ev.eq (G := fun k => qr14Check.j0 k false b L) (fun k => ?_) ?_
    · rw [qr14Check.f, if_neg (by omega), decide_eq_false (by omega)]
    · by_cases hl : 10 < L.length
      · refine Ev.succ (G := fun _ => some (chk b L)) (fun k => ?_) (Ev.some_ _)
        rw [qr14Check.j0, if_neg (by simp), if_pos (by omega), chk, if_neg hb, if_pos hl]
      · refine Ev.succ (G := fun k => qr14Check.l0 k 0 b L) (fun k => ?_) ?_
        · rw [qr14Check.j0, if_neg (by simp), if_neg (by omega)]
        · have hv : chk b L = if L.all (okLine b) then 0 else 1 := by rw [chk, if_neg hb, if_neg hl]
          have key : ∀ m i, i + m = L.length → Ev (fun k => qr14Check.l0 k (i : Int) b L) (if (L.drop i).all (okLine b) then 0 else 1) := by
            intro m
            induction m with
            | zero =>
              intro i hi
              rw [List.drop_eq_nil_of_le (by omega)]
              refine Ev.succ (G := fun _ => some 0) (fun k => ?_) (Ev.some_ _)
              rw [qr14Check.l0, if_neg (by omega)]
            | succ m ih =>
              intro i hi
              have hil : i < L.length := by omega
              have hnext := ih (i + 1) (by omega)
              rw [List.drop_eq_getElem_cons hil, List.all_cons, ← rd_T37_nat hil]
              refine Ev.succ (G := fun k => if okLine b (rd_T37 L (i : Int)) = true then qr14Check.l0 k ((i + 1 : Nat) : Int) b L else some 1) (fun k => ?_) ?_
              · rw [qr14Check.l0, if_pos (by omega), if_pos (by omega), wrap_succ (by omega), chk_line]
              · by_cases hok : okLine b (rd_T37 L (i : Int)) = true
                · rw [hok, Bool.true_and]
                  exact Ev.eq (fun k => if_pos rfl) hnext
                · rw [Bool.eq_false_iff.mpr hok, Bool.false_and]
                  exact Ev.eq (G := fun _ => some 1) (fun k => if_neg (by simp)) (Ev.some_ _)
          rw [hv]
          exact key L.length 0 (by omega)
def ltAll (n : Nat) (l : List Int) : Bool := decide (∀ x ∈ l, x < (n : Int))
theorem ltAll_cons (n : Nat) (x : Int) (l : List Int) : ltAll n (x :: l) = (decide (x < (n : Int)) && ltAll n l) := by
  unfold ltAll
  rw [Bool.eq_iff_iff]
  simp only [Bool.and_eq_true, decide_eq_true_eq, List.forall_mem_cons]
/-- The document's Outs is the program's. -/
theorem outsR_ev (b : Int) (L : List S37) (out : List Int) (ho : out.length ≤ 1000000) : Ev (fun k => qr14Outs.f k b L out) (outsV b L out) := by
  refine Ev.bind (chkR_ev b L) ?_
  by_cases hc : chk b L = 0
  · refine Ev.eq (G := fun k => qr14Outs.l0 k out 0 b L) (fun k => if_pos hc) ?_
    have hv : outsV b L out = if (risesFrom (-1) out && ltAll L.length out) = true then 0 else 1 := by rw [outsV, if_pos hc]; rfl
    have key : ∀ m i, i + m = out.length → ∀ last : Int, -1 ≤ last → (0 < i → last = rd out ((i - 1 : Nat) : Int)) → (i = 0 → last = -1) → Ev (fun k => qr14Outs.l0 k out (i : Int) b L) (if (risesFrom last (out.drop i) && ltAll L.length (out.drop i)) = true then 0 else 1) := by
      intro m
      induction m with
      | zero =>
        intro i hi last _ _ _
        rw [List.drop_eq_nil_of_le (by omega)]
        refine Ev.succ (G := fun _ => some 0) (fun k => ?_) (Ev.some_ _)
        rw [qr14Outs.l0, if_neg (by omega)]
      | succ m ih =>
        intro i hi last hl0 hl1 hl2
        have hil : i < out.length := by omega
        have hx := rd_nat out i hil
        rw [List.drop_eq_getElem_cons hil, ← hx]
        have hval : (risesFrom last (rd out (i : Int) :: out.drop (i + 1)) && ltAll L.length (rd out (i : Int) :: out.drop (i + 1))) = (decide (last < rd out (i : Int)) && decide (rd out (i : Int) < (L.length : Int)) && (risesFrom (rd out (i : Int)) (out.drop (i + 1)) && ltAll L.length (out.drop (i + 1)))) := by
          rw [risesFrom, ltAll_cons]
          cases decide (last < rd out (i : Int)) <;> cases decide (rd out (i : Int) < (L.length : Int)) <;> cases risesFrom (rd out (i : Int)) (out.drop (i + 1)) <;> rfl
        rw [hval]
        by_cases c : last < rd out (i : Int) ∧ rd out (i : Int) < (L.length : Int)
        · rw [decide_eq_true c.1, decide_eq_true c.2, Bool.true_and, Bool.true_and]
          refine Ev.succ (fun k => ?_) (ih (i + 1) (by omega) (rd out (i : Int)) (by omega) (fun _ => rfl) (fun h => by omega))
          rw [qr14Outs.l0, if_pos (by omega), if_pos (by omega), if_neg (by omega), if_neg (by omega), wrap_succ (by omega)]
          by_cases hi0 : i = 0
          · subst hi0; rw [if_neg (by omega)]
          · have hw : wrap64 ((i : Int) - 1) = ((i - 1 : Nat) : Int) := by rw [wrap_small (by omega) (by omega)]; omega
            rw [if_pos (by omega), hw, if_pos (by omega), if_pos (by omega), if_neg (by rw [← hl1 (by omega)]; omega)]
        · have e : (decide (last < rd out (i : Int)) && decide (rd out (i : Int) < (L.length : Int))) = false := by
            rw [Bool.eq_false_iff]; intro h; simp only [Bool.and_eq_true, decide_eq_true_eq] at h; exact c h
          rw [e, Bool.false_and]
          refine Ev.succ (G := fun _ => some 1) (fun k => ?_) (Ev.some_ _)
          rw [qr14Outs.l0, if_pos (by omega), if_pos (by omega)]
          by_cases h1 : rd out (i : Int) < 0
          · rw [if_pos h1]
          rw [if_neg h1]
          by_cases h2 : rd out (i : Int) ≥ (L.length : Int)
          · rw [if_pos h2]
          rw [if_neg h2]
          by_cases hi0 : i = 0
          · have := hl2 hi0; omega
          · have hw : wrap64 ((i : Int) - 1) = ((i - 1 : Nat) : Int) := by rw [wrap_small (by omega) (by omega)]; omega
            rw [if_pos (by omega), hw, if_pos (by omega), if_pos (by omega), if_pos (by rw [← hl1 (by omega)]; omega)]
    have := key out.length 0 (by omega) (-1) (by omega) (fun h => by omega) (fun _ => rfl)
    rw [hv]; exact this
  · have hv : outsV b L out = chk b L := by rw [outsV, if_neg hc]
    rw [hv]
    exact Ev.eq (G := fun _ => some (chk b L)) (fun k => if_neg hc) (Ev.some_ _)
theorem hasR_ev (l : List Int) (x : Int) (hl : l.length ≤ 1000000) : Ev (fun k => qr14Has.f k l x) (decide (x ∈ l)) := by
  have key : ∀ m i, i + m = l.length → (∀ j (hj : j < l.length), j < i → l[j] ≠ x) → Ev (fun k => qr14Has.l0 k l x (i : Int)) (decide (x ∈ l)) := by
    intro m
    induction m with
    | zero =>
      intro i hi hno
      have hn : x ∉ l := by
        intro hm
        obtain ⟨j, hj, e⟩ := List.getElem_of_mem hm
        exact hno j hj (by omega) e
      refine Ev.succ (G := fun _ => some (decide (x ∈ l))) (fun k => ?_) (Ev.some_ _)
      rw [qr14Has.l0, if_neg (by omega), decide_eq_false hn]
    | succ m ih =>
      intro i hi hno
      have hil : i < l.length := by omega
      by_cases he : l[i] = x
      · have hm : x ∈ l := by rw [← he]; exact List.getElem_mem hil
        refine Ev.succ (G := fun _ => some (decide (x ∈ l))) (fun k => ?_) (Ev.some_ _)
        rw [qr14Has.l0, if_pos (by omega), if_pos (by omega), rd_nat l i hil, if_pos he, decide_eq_true hm]
      · refine Ev.succ (fun k => ?_) (ih (i + 1) (by omega) (fun j hj hji => ?_))
        · rw [qr14Has.l0, if_pos (by omega), if_pos (by omega), rd_nat l i hil, if_neg he, wrap_small (by omega) (by omega)]; rfl
        · by_cases h : j = i
          · subst h; exact he
          · exact hno j hj (by omega)
  exact key l.length 0 (by omega) (fun j _ h => absurd h (Nat.not_lt_zero _))
/-- The numbers below n that are not in l. -/
def coN (l : List Int) (n : Nat) : List Int := ((List.range n).filter (fun (k : Nat) => !l.contains (k : Int))).map (fun (k : Nat) => (k : Int))
theorem coN_succ (l : List Int) (n : Nat) : coN l (n + 1) = if (n : Int) ∈ l then coN l n else coN l n ++ [(n : Int)] := by
  unfold coN
  rw [List.range_succ, List.filter_append, List.map_append]
  by_cases h : (n : Int) ∈ l
  · rw [if_pos h]; simp [h]
  · rw [if_neg h]; simp [h]
theorem coN_len (l : List Int) (n : Nat) : (coN l n).length ≤ n := by
  unfold coN
  rw [List.length_map]
  have := List.length_filter_le (fun (k : Nat) => !l.contains (k : Int)) (List.range n)
  rwa [List.length_range] at this
theorem inR_ev (b : Int) (L : List S37) (l : List Int) (hl : l.length ≤ 1000000) (hL : L.length ≤ 1000000) : Ev (fun k => qr14In.f k b L l) (inL L l) := by
  refine Ev.upto L.length (fun k i => qr14In.l0 k l (coN l i) (i : Int) b L) ?_ fun i hi h => ?_
  · refine Ev.succ (G := fun _ => some (coN l L.length)) (fun k => ?_) (Ev.some_ _)
    rw [qr14In.l0, if_neg (by omega)]
  · have hc := coN_len l i
    have hs := coN_succ l i
    refine Ev.succ (G := fun k => (qr14Has.f k l (i : Int)).bind fun t => (if t = true then (qr14In.l0 k l (coN l i) (wrap64 ((i : Int) + 1)) b L) else (if (coN l i).length < 17592186044416 then (qr14In.l0 k l (coN l i ++ [(i : Int)]) (wrap64 ((i : Int) + 1)) b L) else (none)))) (fun k => ?_) ?_
    · rw [qr14In.l0, if_pos (by omega)]
    · refine Ev.bind (hasR_ev l (i : Int) hl) (Ev.eq (fun k => ?_) h)
      rw [wrap_succ (by omega)]
      by_cases hm : (i : Int) ∈ l
      · rw [decide_eq_true hm, if_pos rfl, hs, if_pos hm]
      · rw [decide_eq_false hm, if_neg (by simp), if_pos (by omega), hs, if_neg hm]
end
section
instance lineDec : DecidableEq S37 := fun x y => if h : x.f0 = y.f0 ∧ x.f1 = y.f1 ∧ x.f2 = y.f2 ∧ x.f3 = y.f3 then isTrue (S37_ext h.1 h.2.1 h.2.2.1 h.2.2.2) else isFalse (fun e => h (by subst e; exact ⟨rfl, rfl, rfl, rfl⟩))
theorem line_same (x y : S37) : (!(x.f0 == y.f0) || (!(x.f1 == y.f1) || (!(x.f2 == y.f2) || (!(x.f3 == y.f3))))) = !decide (x = y) := by
  by_cases h : x = y
  · subst h; simp
  · rw [decide_eq_false h]
    by_cases h0 : x.f0 = y.f0
    · by_cases h1 : x.f1 = y.f1
      · by_cases h2 : x.f2 = y.f2
        · by_cases h3 : x.f3 = y.f3
          · exact absurd (S37_ext h0 h1 h2 h3) h
          · simp [h3]
        · simp [h2]
      · simp [h1]
    · simp [h0]
/-- Same tells whether two networks are alike. -/
theorem same_ev (b b' : Int) (L L' : List S37) (hl : L.length ≤ 1000000) : Ev (fun k => qr14Same.f k b L b' L') (decide (b = b' ∧ L = L')) := by
  by_cases hb : b = b'
  · by_cases hlen : L.length = L'.length
    · refine Ev.eq (G := fun k => qr14Same.j0 k false b L b' L') (fun k => ?_) (Ev.succ (G := fun k => qr14Same.l0 k 0 b L b' L') (fun k => ?_) ?_)
      · rw [qr14Same.f, if_pos hb]; simp [hlen]
      · rw [qr14Same.j0, if_neg (by simp)]
      · have key : ∀ m i, i + m = L.length → (∀ j, j < i → rd_T37 L (j : Int) = rd_T37 L' (j : Int)) → Ev (fun k => qr14Same.l0 k (i : Int) b L b' L') (decide (b = b' ∧ L = L')) := by
          intro m
          induction m with
          | zero =>
            intro i hi hh
            have e : L = L' := by
              refine List.ext_getElem hlen fun j h1 h2 => ?_
              have := hh j (by omega)
              rwa [rd_T37_nat h1, rd_T37_nat h2] at this
            rw [decide_eq_true ⟨hb, e⟩]
            refine Ev.succ (G := fun _ => some true) (fun k => ?_) (Ev.some_ _)
            rw [qr14Same.l0, if_neg (by omega)]
          | succ m ih =>
            intro i hi hh
            refine Ev.succ (G := fun k => if (!decide (rd_T37 L (i : Int) = rd_T37 L' (i : Int))) = true then some false else qr14Same.l0 k ((i + 1 : Nat) : Int) b L b' L') (fun k => ?_) ?_
            · rw [qr14Same.l0, if_pos (by omega), if_pos (by omega), if_pos (by omega), line_same, wrap_succ (by omega)]
            · by_cases he : rd_T37 L (i : Int) = rd_T37 L' (i : Int)
              · refine Ev.eq (fun k => if_neg (by simp [he])) (ih (i + 1) (by omega) fun j hj => ?_)
                by_cases h : j = i
                · subst h; exact he
                · exact hh j (by omega)
              · have hn : ¬ (b = b' ∧ L = L') := fun h => he (by rw [h.2])
                rw [decide_eq_false hn]
                exact Ev.eq (G := fun _ => some false) (fun k => if_pos (by simp [he])) (Ev.some_ _)
        exact key L.length 0 (by omega) (fun j hj => absurd hj (Nat.not_lt_zero _))
    · rw [decide_eq_false (fun h => hlen (by rw [h.2]))]
      refine Ev.eq (G := fun k => qr14Same.j0 k true b L b' L') (fun k => ?_) (Ev.succ (G := fun _ => some false) (fun k => ?_) (Ev.some_ _))
      · rw [qr14Same.f, if_pos hb, show ((L.length : Int) != (L'.length : Int)) = true from bne_iff_ne.2 (by omega)]
      · rw [qr14Same.j0, if_pos rfl]
  · rw [decide_eq_false (fun h => hb h.1)]
    refine Ev.eq (G := fun k => qr14Same.j0 k true b L b' L') (fun k => ?_) (Ev.succ (G := fun _ => some false) (fun k => ?_) (Ev.some_ _))
    · rw [qr14Same.f, if_neg hb]
    · rw [qr14Same.j0, if_pos rfl]
theorem stripR_ev {b : Int} {L : List S37} {out : List Int} (h : outsV b L out = 0) : Ev (fun k => qr14Strip.f k b L out) (b, (inn L out).map (fun (k : Nat) => rd_T37 L (k : Int)), inL L out) := by
  have hb := outs_bus h
  have hol := outsV_len h
  have hil := inL_len L out
  have hil2 := inn_len L out
  refine Ev.bind (inR_ev _ _ _ (by omega) (by omega)) ?_
  refine Ev.upto (inn L out).length (fun k i => qr14Strip.l0 k (inL L out) (i : Int) b L b (((inn L out).take i).map (fun (k : Nat) => rd_T37 L (k : Int)))) ?_ fun i hi hnext => ?_
  · refine Ev.succ (G := fun _ => some (b, (inn L out).map (fun (k : Nat) => rd_T37 L (k : Int)), inL L out)) (fun k => ?_) (Ev.some_ _)
    rw [qr14Strip.l0, if_neg (by omega), List.take_of_length_le (Nat.le_refl _)]
  · obtain ⟨t, ht⟩ : ∃ t, t = (inn L out)[i] := ⟨_, rfl⟩
    have htl := (mem_inn.1 (show t ∈ inn L out by rw [ht]; exact List.getElem_mem hi)).1
    have hrd : rd (inL L out) (i : Int) = (t : Int) := by rw [rd_nat _ i (by omega), ht]; simp [inL]
    rw [List.take_succ_eq_append_getElem hi, ← ht, List.map_append] at hnext
    have hl : (((inn L out).take i).map (fun (k : Nat) => rd_T37 L (k : Int))).length ≤ i := by rw [List.length_map, List.length_take]; omega
    refine Ev.succ (fun k => ?_) hnext
    rw [qr14Strip.l0, if_pos (by omega), if_pos (by omega), hrd, if_pos (by omega), if_pos (by omega), if_pos (by omega), wrap_succ (by omega)]; rfl
theorem turnR {b : Int} {L : List S37} (hL : L.length ≤ 1000) {i : Int} (h0 : 0 ≤ i) (h1 : i < (L.length : Int)) : qr14Turn.f b L i = some (b, L.set i.toNat (swapL (rd_T37 L i))) := by
  rw [qr14Turn.f, if_pos (by simp; omega), Option.bind_some, List.nil_append, if_pos h0, if_pos h1]; rfl
end
theorem NetBuildMatches_go {b b' bw bt : Int} {L L' Lw Lt : List S37} {l2 I : List Int} {line e c : Int} (hL : L.length ≤ 100) (h2 : l2.length ≤ 100) (hI : I.length ≤ 1000) (hLw : Lw.length ≤ 1000) (hLt : Lt.length ≤ 1000)
    (hs : net_Strip.f b L l2 = some (bw, Lw, I, e)) (hr : net_Reverse.f b L line = some (bt, Lt, c)) :
    Ev (fun k => ql14NetBuildMatches.l0 k l2 line l2 e c I 0 b L b' L' b L bw Lw bt Lt) true := by
  have haw : Ev (fun _ : Nat => (ql14awake.f).bind fun t => (some t)) true := Ev.some_ _
  have s1 := same_ev bw bw Lw Lw (by omega)
  have s2 := ints_ev I I (by omega)
  have s3 := same_ev bt bt Lt Lt (by omega)
  have s4 := same_ev b b L L (by omega)
  have s5 := ints_ev l2 l2 (by omega)
  obtain ⟨q, s6, hq⟩ := equal_ev b b' L L' (by omega)
  have s7 := same_ev b b' L L' (by omega)
  rw [decide_eq_true ⟨rfl, rfl⟩] at s1 s3 s4
  rw [decide_eq_true rfl] at s2 s5
  have hq2 : q = decide (b = b' ∧ L = L') := by
    rw [Bool.eq_iff_iff, decide_eq_true_eq]; exact hq
  rw [← hq2] at s7
  refine Ev.upto 2 (fun k i => ql14NetBuildMatches.l0 k l2 line l2 e c I (i : Int) b L b' L' b L bw Lw bt Lt) ?_ fun i hi hnext => ?_
  · refine Ev.succ (G := fun _ : Nat => (ql14awake.f).bind fun t => (some t)) (fun k => ?_) haw
    rw [ql14NetBuildMatches.l0, if_neg (by omega)]
  · refine Ev.succ (fun k => by rw [ql14NetBuildMatches.l0, if_pos (by omega), hs, Option.bind_some, hr, Option.bind_some, if_pos rfl, if_pos rfl]) (Ev.bind s1 (Ev.eq (fun k => if_pos rfl) (Ev.bind s2 (Ev.eq (fun k => if_pos rfl) (Ev.bind s3 (Ev.eq (fun k => if_pos rfl) (Ev.bind s4 (Ev.eq (fun k => if_pos rfl) (Ev.bind s5 (Ev.eq (fun k => if_pos rfl) (Ev.bind s6 (Ev.bind s7 ?_))))))))))))
    refine Ev.succ (fun k => ?_) hnext
    show ql14NetBuildMatches.j6 (k + 1) l2 line l2 e c I (i : Int) I (q != q) b L b' L' b L bw Lw bt Lt bw Lw bt Lt = _
    rw [ql14NetBuildMatches.j6, if_neg (by simp), wrap_succ (by omega)]; rfl
theorem NetBuildMatches_j1 {b b' : Int} {L L' : List S37} {l2 : List Int} {line : Int} (hL : L.length ≤ 100) (h2 : l2.length ≤ 100) (flag : Bool) (c0 : Int) (hf : flag = true → chk b L = 0 ∧ (line < 0 ∨ line ≥ (L.length : Int))) (hc0 : c0 = chk b L) (hf2 : flag = false → chk b L = 0 → 0 ≤ line ∧ line < (L.length : Int)) :
    Ev (fun k => ql14NetBuildMatches.j1 k l2 line l2 (outsV b L l2) c0 flag b L b' L' b L) true := by
  have hil2 := inn_len L l2
  -- the rest, once the line's answer c is told
  have hrest : ∀ (c : Int) (bt : Int) (Lt : List S37), Lt.length ≤ 1000 → net_Reverse.f b L line = some (bt, Lt, c) → (c = 0 → qr14Turn.f b L line = some (bt, Lt)) → (c ≠ 0 → bt = 0 ∧ Lt = []) →
      Ev (fun k => ql14NetBuildMatches.j2 k l2 line l2 (outsV b L l2) c b L b' L' b L) true := by
    intro c bt Lt hLt hrev hc1 hc2
    have hj3 : ∀ (bw : Int) (Lw : List S37) (I : List Int), I.length ≤ 1000 → Lw.length ≤ 1000 → net_Strip.f b L l2 = some (bw, Lw, I, outsV b L l2) → Ev (fun k => ql14NetBuildMatches.j3 k l2 line l2 (outsV b L l2) c I b L b' L' b L bw Lw 0) true := by
      intro bw Lw I hI hLw hs
      have hgo := NetBuildMatches_go (b' := b') (L' := L') hL h2 hI hLw hLt hs hrev
      have hj4 : Ev (fun k => ql14NetBuildMatches.j4 k l2 line l2 (outsV b L l2) c I b L b' L' b L bw Lw bt Lt) true := Ev.succ (fun k => by rw [ql14NetBuildMatches.j4]) hgo
      by_cases hc : c = 0
      · refine Ev.succ (fun k => ?_) hj4
        rw [ql14NetBuildMatches.j3, if_pos hc, hc1 hc, Option.bind_some]
      · obtain ⟨e1, e2⟩ := hc2 hc
        subst e1; subst e2
        refine Ev.succ (fun k => ?_) hj4
        rw [ql14NetBuildMatches.j3, if_neg hc]
    by_cases ho : outsV b L l2 = 0
    · have hs : net_Strip.f b L l2 = some (b, (inn L l2).map (fun (k : Nat) => rd_T37 L (k : Int)), inL L l2, outsV b L l2) := by rw [net_Strip.f, if_pos ho, ho]; rfl
      refine Ev.succ (fun k => by rw [ql14NetBuildMatches.j2, if_pos ho]) (Ev.bind (stripR_ev ho) (hj3 _ _ _ (by rw [inL_len]; omega) (by rw [List.length_map]; omega) hs))
    · have hs : net_Strip.f b L l2 = some (0, [], [], outsV b L l2) := by rw [net_Strip.f, if_neg ho]
      exact Ev.succ (fun k => by rw [ql14NetBuildMatches.j2, if_neg ho]) (hj3 _ _ _ (by simp) (by simp) hs)
  cases hfl : flag with
  | true =>
    obtain ⟨hc, hl⟩ := hf hfl
    have hrev : net_Reverse.f b L line = some (0, [], 1) := by
      rw [net_Reverse.f, if_pos hc]
      by_cases h1 : line < 0
      · rw [if_pos h1]
      · rw [if_neg h1, if_pos (by omega)]
    exact Ev.succ (fun k => by rw [ql14NetBuildMatches.j1, if_pos rfl]) (hrest 1 0 [] (by simp) hrev (fun h => absurd h (by decide)) (fun _ => ⟨rfl, rfl⟩))
  | false =>
    refine Ev.succ (fun k => by rw [ql14NetBuildMatches.j1, if_neg (by simp)]) ?_
    subst hc0
    by_cases hc : chk b L = 0
    · obtain ⟨h0, h1⟩ := hf2 hfl hc
      have hrev : net_Reverse.f b L line = some (b, L.set line.toNat (swapL (rd_T37 L line)), chk b L) := by
        rw [net_Reverse.f, if_pos hc, if_neg (by omega), if_neg (by omega), hc]
      exact hrest _ _ _ (by rw [List.length_set]; omega) hrev (fun _ => turnR (by omega) h0 h1) (fun h => absurd hc h)
    · have hrev : net_Reverse.f b L line = some (0, [], chk b L) := by rw [net_Reverse.f, if_neg hc]
      exact hrest _ _ _ (by simp) hrev (fun h => absurd h hc) (fun _ => ⟨rfl, rfl⟩)
theorem NetBuildMatches_true (b : Int) (L : List S37) (b' : Int) (L' : List S37) (l2 : List Int) (line : Int) : ∃ k, ql14NetBuildMatches.f k b L b' L' l2 line = some true := by
  apply Ev.tell
  obtain ⟨r, hr, hx⟩ := long_f b L [l2] (by simp)
  obtain ⟨r', hr', hx'⟩ := long_f b' L' [] (by simp)
  have haw : Ev (fun k : Nat => ql14NetBuildMatches.j0 k l2 line true b L b' L') true := by
    refine Ev.succ (G := fun _ => some true) (fun k => ?_) (Ev.some_ _)
    rw [ql14NetBuildMatches.j0, if_pos rfl]; rfl
  refine Ev.bind hr ?_
  cases r with
  | true => exact haw
  | false =>
    obtain ⟨hL, hl⟩ := hx rfl
    have h2 : l2.length ≤ 100 := hl l2 (by simp)
    refine Ev.eq (fun k => if_neg (by simp)) (Ev.bind hr' ?_)
    cases r' with
    | true => exact haw
    | false =>
      have hown : ql14own.f b L = some (b, L) := by rw [ql14own.f, if_pos (by simp; omega), List.nil_append]
      have hints : ql14ints.f l2 = some l2 := by rw [ql14ints.f, if_pos (by simp; omega), List.nil_append]
      refine Ev.succ (fun k => by rw [ql14NetBuildMatches.j0, if_neg (by simp), hown, Option.bind_some, hints, Option.bind_some]) (Ev.bind (outsR_ev b L l2 (by omega)) (Ev.bind (chkR_ev b L) ?_))
      by_cases hc : chk b L = 0
      · refine Ev.eq (G := fun k => ql14NetBuildMatches.j1 k l2 line l2 (outsV b L l2) (chk b L) (decide (line < 0 ∨ line ≥ (L.length : Int))) b L b' L' b L) (fun k => ?_) (NetBuildMatches_j1 hL h2 _ _ (fun h => ⟨hc, of_decide_eq_true h⟩) rfl (fun h _ => by have := of_decide_eq_false h; omega))
        rw [if_pos hc]
        by_cases h1 : line < 0
        · rw [if_pos h1, decide_eq_true (Or.inl h1)]
        · rw [if_neg h1]
          congr 1
          rw [decide_eq_decide]
          constructor
          · intro h; exact Or.inr h
          · intro h; omega
      · exact Ev.eq (fun k => if_neg hc) (NetBuildMatches_j1 hL h2 false _ (fun h => by cases h) rfl (fun _ h => absurd h hc))
end Go.Proofs.Ytdpgdelimffjpaa.P
