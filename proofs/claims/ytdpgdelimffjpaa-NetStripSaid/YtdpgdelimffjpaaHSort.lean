/- The shelf's contracts of slices.Sort and slices.Compact laid at this program's numbers (written by the kit's lay-plain.mjs). -/
import Derived.Shelf.Sort.Plain
import Derived.Shelf.Slices.CompactI
import Derived.Shelf.Slices.In.SortNone
import Derived.Test.YtdpgdelimffjpaaProg
import Derived.Test.YtdpgdelimffjpaaHBoxes
import Derived.Lib.SlicesCompact
import Derived.Test.YtdpgdelimffjpaaFBase
import Derived.Sort.OwnSortedInts
import Derived.Lib.OwnBridge
import Derived.Lib.RowBridge
import Derived.Lib.Hide
namespace Go.Proofs
open Go.Shelf
def Try.laysSort_ren : Go.Shelf.Ren := ⟨fun | 189 => 93 | 125 => 115 | 257 => 114 | 128 => 131 | 129 => 132 | 294 => 123 | 295 => 124 | 296 => 125 | 297 => 126 | 298 => 127 | 299 => 128 | 216 => 121 | 300 => 129 | 301 => 130 | 328 => 134 | 329 => 135 | 330 => 136 | 331 => 137 | 332 => 138 | 215 => 133 | 343 => 139 | n => n, fun | 28 => 25 | 3 => 3 | 46 => 113 | 0 => 0 | 51 => 125 | 53 => 127 | 4 => 4 | 183 => 119 | 182 => 118 | 131 => 107 | 5 => 5 | 9 => 9 | 218 => 128 | 222 => 132 | 228 => 134 | 229 => 135 | n => n, fun | n => n⟩
theorem Try.laysSort : Go.Proofs.Lays.n189 Try.prog Try.laysSort_ren := {
  mixed := by kernel_rfl
  f125 := Try.func115.trans (congrArg some (by kernel_rfl))
  f128 := Try.func131.trans (congrArg some (by kernel_rfl))
  f129 := Try.func132.trans (congrArg some (by kernel_rfl))
  f189 := Try.func93.trans (congrArg some (by kernel_rfl))
  f215 := Try.func133.trans (congrArg some (by kernel_rfl))
  f216 := Try.func121.trans (congrArg some (by kernel_rfl))
  f257 := Try.func114.trans (congrArg some (by kernel_rfl))
  f294 := Try.func123.trans (congrArg some (by kernel_rfl))
  f295 := Try.func124.trans (congrArg some (by kernel_rfl))
  f296 := Try.func125.trans (congrArg some (by kernel_rfl))
  f297 := Try.func126.trans (congrArg some (by kernel_rfl))
  f298 := Try.func127.trans (congrArg some (by kernel_rfl))
  f299 := Try.func128.trans (congrArg some (by kernel_rfl))
  f300 := Try.func129.trans (congrArg some (by kernel_rfl))
  f301 := Try.func130.trans (congrArg some (by kernel_rfl))
  f328 := Try.func134.trans (congrArg some (by kernel_rfl))
  f329 := Try.func135.trans (congrArg some (by kernel_rfl))
  f330 := Try.func136.trans (congrArg some (by kernel_rfl))
  f331 := Try.func137.trans (congrArg some (by kernel_rfl))
  f332 := Try.func138.trans (congrArg some (by kernel_rfl))
  f343 := Try.func139.trans (congrArg some (by kernel_rfl))
  t0 := Try.underlying0
  a0 := Try.isAgg0
  z0 := Try.sizeOf0
  v0 := Try.zeroValue0
  t3 := Try.underlying3
  a3 := Try.isAgg3
  z3 := Try.sizeOf3
  v3 := Try.zeroValue3
  t4 := Try.underlying4
  a4 := Try.isAgg4
  z4 := Try.sizeOf4
  v4 := Try.zeroValue4
  t5 := Try.underlying5
  a5 := Try.isAgg5
  z5 := Try.sizeOf5
  v5 := Try.zeroValue5
  t9 := Try.underlying9
  a9 := Try.isAgg9
  z9 := Try.sizeOf9
  v9 := Try.zeroValue9
  t28 := Try.underlying25
  a28 := Try.isAgg25
  z28 := Try.sizeOf25
  v28 := Try.zeroValue25
  t46 := Try.underlying113
  a46 := Try.isAgg113
  z46 := Try.sizeOf113
  v46 := Try.zeroValue113
  t51 := Try.underlying125
  a51 := Try.isAgg125
  z51 := Try.sizeOf125
  v51 := Try.zeroValue125
  t53 := Try.underlying127
  a53 := Try.isAgg127
  z53 := Try.sizeOf127
  v53 := Try.zeroValue127
  t131 := Try.underlying107
  a131 := Try.isAgg107
  z131 := Try.sizeOf107
  v131 := Try.zeroValue107
  t182 := Try.underlying118
  a182 := Try.isAgg118
  z182 := Try.sizeOf118
  v182 := Try.zeroValue118
  t183 := Try.underlying119
  a183 := Try.isAgg119
  z183 := Try.sizeOf119
  v183 := Try.zeroValue119
  t218 := Try.underlying128
  a218 := Try.isAgg128
  z218 := Try.sizeOf128
  v218 := Try.zeroValue128
  t222 := Try.underlying132
  a222 := Try.isAgg132
  z222 := Try.sizeOf132
  v222 := Try.zeroValue132
  t228 := Try.underlying134
  a228 := Try.isAgg134
  z228 := Try.sizeOf134
  v228 := Try.zeroValue134
  t229 := Try.underlying135
  a229 := Try.isAgg135
  z229 := Try.sizeOf135
  v229 := Try.zeroValue135 }
def Try.laysCompact_ren : Go.Shelf.Ren := ⟨fun | 20 => 94 | n => n, fun | 22 => 25 | 3 => 3 | 4 => 4 | 0 => 0 | n => n, fun | n => n⟩
theorem Try.laysCompact : Go.Proofs.Lays2.n20 Try.prog Try.laysCompact_ren := {
  mixed := by kernel_rfl
  f20 := Try.func94.trans (congrArg some (by kernel_rfl))
  t0 := Try.underlying0
  a0 := Try.isAgg0
  z0 := Try.sizeOf0
  v0 := Try.zeroValue0
  t3 := Try.underlying3
  a3 := Try.isAgg3
  z3 := Try.sizeOf3
  v3 := Try.zeroValue3
  t4 := Try.underlying4
  a4 := Try.isAgg4
  z4 := Try.sizeOf4
  v4 := Try.zeroValue4
  t22 := Try.underlying25
  a22 := Try.isAgg25
  z22 := Try.sizeOf25
  v22 := Try.zeroValue25
  i3 := by kernel_rfl }
end Go.Proofs
namespace Go.Proofs.Ytdpgdelimffjpaa.P
open Go.RowKit Go.Proofs.YtdpgdelimffjpaaW.PrintWords Go.Proofs.YtdpgdelimffjpaaW.PrintLast Go.Proofs.YtdpgdelimffjpaaW.PrintMore
attribute [local go_sem] max2_int min2_int max_two min_two max_three min_three max_four min_four
set_option linter.unusedVariables false
set_option linter.unusedSimpArgs false
section
/-- The union of two lists: appended, sorted, compacted. -/
def uni (a b : List Int) : List Int := Lib.compact ((a ++ b).mergeSort fun x y => decide (x ≤ y))
theorem compact_inv {zs : List Int} (hs : zs.Pairwise (· ≤ ·)) : ∀ m, m ≤ zs.length → (Lib.compactUpTo zs.toArray m).Pairwise (· < ·) ∧ (∀ x, x ∈ Lib.compactUpTo zs.toArray m ↔ x ∈ zs.take m) := by
  intro m
  induction m with
  | zero => intro _; exact ⟨by simp [Lib.compactUpTo], by simp [Lib.compactUpTo]⟩
  | succ m ih =>
    intro hm
    obtain ⟨h1, h2⟩ := ih (by omega)
    have hml : m < zs.length := by omega
    have hd : zs.toArray[m]! = zs[m] := by rw [getElem!_pos zs.toArray m (by simpa using hml)]; simp
    have htake : zs.take (m + 1) = zs.take m ++ [zs[m]] := List.take_succ_eq_append_getElem hml
    rw [Lib.compactUpTo_succ, hd, htake]
    by_cases hk : Lib.keeps zs.toArray m = true
    · rw [if_pos hk]
      refine ⟨?_, fun x => by rw [List.mem_append, List.mem_append, h2]⟩
      rw [List.pairwise_append]
      refine ⟨h1, List.pairwise_singleton _ _, fun x hx y hy => ?_⟩
      rw [List.mem_singleton] at hy
      subst hy
      have hx2 := (h2 x).1 hx
      obtain ⟨i, hi, rfl⟩ := List.getElem_of_mem hx2
      have hil : i < m := by rw [List.length_take] at hi; omega
      rw [List.getElem_take]
      have hpd : zs.toArray[m - 1]! = zs[m - 1] := by rw [getElem!_pos zs.toArray (m - 1) (by simp; omega)]; simp
      have hne : zs[m] ≠ zs[m - 1] := by
        unfold Lib.keeps at hk
        rw [decide_eq_true_eq, hd, hpd] at hk
        rcases hk with hk | hk
        · omega
        · exact hk
      have hle : zs[m - 1] ≤ zs[m] := List.pairwise_iff_getElem.1 hs (m - 1) m (by omega) hml (by omega)
      have hle2 : zs[i] ≤ zs[m - 1] := by
        by_cases e : i = m - 1
        · subst e; exact Int.le_refl _
        · exact List.pairwise_iff_getElem.1 hs i (m - 1) (by omega) (by omega) (by omega)
      omega
    · rw [if_neg hk, List.append_nil]
      refine ⟨h1, fun x => ?_⟩
      rw [h2, List.mem_append, List.mem_singleton]
      have hm0 : m ≠ 0 := by intro e; exact hk (by unfold Lib.keeps; simp [e])
      have hpd : zs.toArray[m - 1]! = zs[m - 1] := by rw [getElem!_pos zs.toArray (m - 1) (by simp; omega)]; simp
      have he : zs[m] = zs[m - 1] := by
        by_cases e : zs[m] = zs[m - 1]
        · exact e
        · exact absurd (by unfold Lib.keeps; rw [decide_eq_true_eq, hd, hpd]; exact Or.inr e) hk
      constructor
      · intro h; exact Or.inl h
      · rintro (h | h)
        · exact h
        · rw [h, he]
          have := List.getElem_mem (l := zs.take m) (n := m - 1) (by rw [List.length_take]; omega)
          rwa [List.getElem_take] at this
theorem sorted_ints (l : List Int) : (l.mergeSort fun x y => decide (x ≤ y)).Pairwise (· ≤ ·) := by
  have := List.pairwise_mergeSort (le := fun (x y : Int) => decide (x ≤ y)) (fun a b c h1 h2 => by simp at *; omega) (fun a b => by simp; omega) l
  exact this.imp (fun h => by simpa using h)
theorem uni_inc (a b : List Int) : (uni a b).Pairwise (· < ·) := (compact_inv (sorted_ints (a ++ b)) _ (Nat.le_refl _)).1
theorem mem_uni {a b : List Int} {x : Int} : x ∈ uni a b ↔ x ∈ a ∨ x ∈ b := by
  have h := (compact_inv (sorted_ints (a ++ b)) _ (Nat.le_refl _)).2 x
  rw [List.take_length, List.mem_mergeSort, List.mem_append] at h
  exact h
theorem inc_ext : ∀ {a b : List Int}, a.Pairwise (· < ·) → b.Pairwise (· < ·) → (∀ x, x ∈ a ↔ x ∈ b) → a = b
  | [], [], _, _, _ => rfl
  | [], y :: b, _, _, h => absurd ((h y).2 (List.mem_cons_self ..)) List.not_mem_nil
  | x :: a, [], _, _, h => absurd ((h x).1 (List.mem_cons_self ..)) List.not_mem_nil
  | x :: a, y :: b, ha, hb, h => by
    have ha' := List.pairwise_cons.1 ha
    have hb' := List.pairwise_cons.1 hb
    have hxy : x = y := by
      rcases List.mem_cons.1 ((h x).1 (List.mem_cons_self ..)) with e | h1
      · exact e
      · rcases List.mem_cons.1 ((h y).2 (List.mem_cons_self ..)) with e | h2
        · exact e.symm
        · have := hb'.1 x h1; have := ha'.1 y h2; omega
    subst hxy
    rw [inc_ext ha'.2 hb'.2 fun z => ?_]
    constructor
    · intro hz
      rcases List.mem_cons.1 ((h z).1 (List.mem_cons_of_mem _ hz)) with e | h1
      · have := ha'.1 z hz; omega
      · exact h1
    · intro hz
      rcases List.mem_cons.1 ((h z).2 (List.mem_cons_of_mem _ hz)) with e | h1
      · have := hb'.1 z hz; omega
      · exact h1
theorem rises_iff {last : Int} : ∀ {l : List Int}, risesFrom last l = true ↔ (∀ x ∈ l, last < x) ∧ l.Pairwise (· < ·)
  | [] => by simp [risesFrom]
  | x :: xs => by
    simp only [risesFrom, Bool.and_eq_true, decide_eq_true_eq]
    rw [rises_iff (l := xs), List.pairwise_cons]
    constructor
    · rintro ⟨h1, h2, h3⟩
      refine ⟨fun y hy => ?_, h2, h3⟩
      rcases List.mem_cons.1 hy with rfl | hy
      · exact h1
      · have := h2 y hy; omega
    · rintro ⟨h1, h2, h3⟩
      exact ⟨h1 x (List.mem_cons_self ..), h2, h3⟩
theorem uni_rises {a b : List Int} (ha : risesFrom (-1) a = true) (hb : risesFrom (-1) b = true) : risesFrom (-1) (uni a b) = true := by
  rw [rises_iff] at *
  refine ⟨fun x hx => ?_, uni_inc a b⟩
  rcases mem_uni.1 hx with h | h
  · exact ha.1 x h
  · exact hb.1 x h
theorem uni_comm (a b : List Int) : uni a b = uni b a := inc_ext (uni_inc _ _) (uni_inc _ _) fun x => by rw [mem_uni, mem_uni]; exact Or.comm
theorem uni_assoc (a b c : List Int) : uni (uni a b) c = uni a (uni b c) := inc_ext (uni_inc _ _) (uni_inc _ _) fun x => by rw [mem_uni, mem_uni, mem_uni, mem_uni]; exact or_assoc
theorem uni_self {a : List Int} (h : risesFrom (-1) a = true) : uni a a = a := inc_ext (uni_inc _ _) (rises_iff.1 h).2 fun x => by rw [mem_uni]; exact or_self_iff
theorem uni_len (a b : List Int) : (uni a b).length ≤ a.length + b.length := by
  have h := Lib.compactUpTo ((a ++ b).mergeSort fun x y => decide (x ≤ y)).toArray
  unfold uni Lib.compact Lib.compactUpTo
  rw [List.length_map]
  refine Nat.le_trans (List.length_filter_le _ _) ?_
  rw [List.length_range, List.length_mergeSort, List.length_append]
  exact Nat.le_refl _
end
section
open Go.Sort Go.Shelf
/-- slices.Sort on a row of the call's own. -/
theorem sort_calls {base : Nat} {ok : Nat → Prop} {v : Value} {xs : List Int} {w : World} (h : Kd.R (Kd.int .i64) 3 w base ok v xs) (hlen : xs.length ≤ 2000000) :
    Calls Try.prog 93 #[v] w fun e w' => e = .returned (.tuple #[]) ∧ Kd.R (Kd.int .i64) 3 w' base ok v (xs.mergeSort fun x y => decide (x ≤ y)) ∧ w.grownBy w' v.ownBlock := by
  by_cases hx : xs.length = 0
  · obtain rfl := List.eq_nil_of_length_eq_zero hx
    obtain ⟨A, c, rfl⟩ := Kd.R_slice h
    refine (Any.slices_Sort_int_none Try.laysSort A c w).mono ?_
    rintro e w' ⟨rfl, rfl⟩
    exact ⟨rfl, by simpa using h, World.grownBy.refl _ _⟩
  · have hok := h.1
    have hown := Kd.own_of_R h
    unfold encs at hown
    rcases hown.2 with ⟨rfl, hn⟩ | ⟨g, cap, cur, rfl, hbase, hg, hn, hm, hs, ht⟩
    · omega
    · have hlt : g < w.heap.size := (Array.getElem?_eq_some_iff.1 hg).1
      refine (Any.slices_Sort_int Try.laysSort g 0 cap xs w (holds_of_blockI hg (by rw [Nat.mul_one] at ht; exact ht)) hlt (by omega)).mono ?_
      rintro e w' ⟨rfl, n, os, rfl⟩
      have hl2 : (xs.mergeSort fun x y => decide (x ≤ y)).length = xs.length := List.length_mergeSort xs
      refine ⟨rfl, Kd.R_of_own ?_ hok, ?_⟩
      · have := ownsRow_sortedI (n := n) (os := os) (ts := xs.mergeSort fun x y => decide (x ≤ y)) hl2 hbase hg hn hm hs
        rw [hl2]; exact this
      · have := grownBy_sortedI (w := w) (g := g) (n := n) (os := os) (xs.mergeSort fun x y => decide (x ≤ y)).toArray
        simpa [Value.ownBlock] using this
/-- slices.Compact on a row of the call's own. -/
theorem compact_calls {base : Nat} {ok : Nat → Prop} {v : Value} {xs : List Int} {w : World} (h : Kd.R (Kd.int .i64) 3 w base ok v xs) (hlen : xs.length ≤ 2000000) :
    Calls Try.prog 94 #[v] w fun e w' => ∃ v' : Value, e = .returned v' ∧ Kd.R (Kd.int .i64) 3 w' base ok v' (Lib.compact xs) ∧ Below base w w' := by
  by_cases hx : xs.length = 0
  · obtain rfl := List.eq_nil_of_length_eq_zero hx
    obtain ⟨A, c, rfl⟩ := Kd.R_slice h
    refine (Any.slices_Compact_int_empty Try.laysCompact A c w).mono ?_
    rintro e w' ⟨rfl, rfl⟩
    exact ⟨_, rfl, h, Below.refl _ _⟩
  · have hok := h.1
    have hown := Kd.own_of_R h
    unfold encs at hown
    have hown2 := hown
    rcases hown2.2 with ⟨rfl, hn⟩ | ⟨g, cap, cur, rfl, hbase, hg, hn, hm, hs, ht⟩
    · omega
    · refine (Any.slices_Compact_int Try.laysCompact g 0 cap xs w (holds_of_blockI hg (by rw [Nat.mul_one] at ht; exact ht)) (by omega) hn).mono ?_
      rintro e w' ⟨rfl, q, rfl⟩
      have hle := Lib.compact_length_le xs
      refine ⟨_, rfl, Kd.R_of_own ?_ (fun k hk => hok k (by simpa [Value.ownBlock] using hk)), Lib.below_putRow (Below.refl _ _) hbase⟩
      have hc := Lib.ownsRow_putRow (enc := Value.int .i64) (q := q) (k := (Lib.compact xs).length) (ys := Lib.compact xs ++ List.replicate (xs.length - (Lib.compact xs).length) 0) hown (by simp; omega) hle
      rw [List.take_left] at hc
      exact hc
set_option maxHeartbeats 2000000 in
set_option maxRecDepth 100000 in
/-- slices.Clone at []int. -/
theorem cloneI_calls (A : Option Addr) (c : Nat) (l : List Int) (w : World) (hr : Kd.C (Kd.int .i64) w A l.length l) (hlen : l.length ≤ 1000000) :
    Calls Try.prog 92 #[.slice A l.length c] w fun e w' => ∃ v : Value, e = .returned v ∧ Kd.R (Kd.int .i64) 3 w' w.heap.size (fun _ => True) v l ∧ Below w.heap.size w w' := by
  have q25 : ∀ (w : World) (a : Option Addr) (n c n' c' : Nat), (binOp .eql 25 (.slice a n c) (.slice none n' c')).run Try.prog w = .ok (.bool a.isNone) w := fun w a n c n' c' => Lib.run_eql_slice_nil w _ _ a n c n' c' Try.underlying25
  cases A with
  | none =>
    have h0 : l = [] := by
      rcases Nat.eq_zero_or_pos l.length with h | h
      · exact List.eq_nil_of_length_eq_zero h
      · obtain ⟨ad, h, _⟩ := hr.2.2 h; cases h
    subst h0
    clear hr
    go_enter Try.func92, Try.ntmps92
    go_wp2
    go_ret
    exact ⟨_, rfl, Kd.R_nil _ _ _ _ _, Below.refl _ _⟩
  | some ad =>
    have HR := Lib.hid hr
    clear hr
    go_enter Try.func92, Try.ntmps92
    go_wp2_with (at_builtin; refine Kd.R_append_row (Value.int .i64) (0 : Int) (h1 := fun _ => rfl) (w0 := w) w.heap.size rfl _ _ 25 3 (.int .i64 0) 8 rfl Try.underlying25 info3 rfl (by decide) (.slice (some ⟨w.heap.size, 0, none⟩) 0 0) [] l (some ad) l.length c (fun _ => True) rfl rfl (fun _ _ => trivial) ?aO ?aR ?aB ?ab ?al ?_; (case aO => exact Kd.R_of_own (World.ownsRow_made w #[] 0 (Nat.le_refl _) (Nat.zero_le _) rfl) (fun _ _ => trivial)); (case aR => exact Kd.C_below HR.out ((Below.refl _ w).alloc (Nat.le_refl _) _)); (case aB => exact (Below.refl _ w).alloc (Nat.le_refl _) _); (case ab => simp); (case al => simp; omega); intro v1 w1 h1 hb1 hg1 hat1; rw [List.nil_append] at h1; obtain ⟨A1, c1, rfl⟩ := Kd.R_slice h1; have H1 := Lib.hid h1; have HB1 := Lib.hid hb1; clear h1 hb1 hg1 hat1)
    go_wp2
    go_ret
    exact ⟨_, rfl, H1.out, HB1.out⟩
end
end Go.Proofs.Ytdpgdelimffjpaa.P
