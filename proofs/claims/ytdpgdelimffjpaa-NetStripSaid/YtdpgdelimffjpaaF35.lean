-- Written by wip/drive.py (a prover's driver over the kit's print.py); hand-proved contracts stand among the printed ones. Lean checks it.
import Derived.Test.YtdpgdelimffjpaaFBase
import Derived.Lib.Hide
import Derived.Laws.EntriesVeiled
namespace Go.Proofs.Ytdpgdelimffjpaa.P
open Go.RowKit Go.Proofs.YtdpgdelimffjpaaW.PrintWords Go.Proofs.YtdpgdelimffjpaaW.PrintLast Go.Proofs.YtdpgdelimffjpaaW.PrintMore
attribute [local go_sem] max2_int min2_int max_two min_two max_three min_three max_four min_four   -- for this text's walks alone
set_option linter.unusedVariables false
set_option linter.unusedSimpArgs false

/-! ### net_Check: function 35: by hand -/
-- import Derived.Lib.Hide
-- import Derived.Laws.EntriesVeiled
set_option maxHeartbeats 2000000 in
theorem wants2_calls (b : Int) (g : Nat) (gb : Nat) (l : S37) (w : World) (hb : w.cell? ⟨g, 0, none⟩ = some (.func (.func 108) #[] #[.pointer (some ⟨gb, 0, none⟩)])) (hg : w.cell? ⟨gb, 0, none⟩ = some (.int .i64 b)) :
    Calls Try.prog 109 #[.agg #[.int .i64 l.f0, .int .i64 l.f1, .int .i64 l.f2, .int .i64 l.f3], .pointer (some ⟨g, 0, none⟩)] w fun e w' => e = .returned (.bool (decide (0 ≤ l.f0 ∧ l.f0 < b ∧ 0 ≤ l.f1 ∧ l.f1 < b))) ∧ Below w.heap.size w w' := by
  have hg0 : g < w.heap.size := World.block_lt_of_cell? w _ hb
  have hg1 : gb < w.heap.size := World.block_lt_of_cell? w _ hg
  have hB : ∀ o, Below w.heap.size w (w.alloc o) := fun o => (Below.refl _ _).alloc (Nat.le_refl _) _
  have HB := Lib.hid hB
  clear hB
  by_cases h1 : 0 ≤ l.f0
  · by_cases h2 : l.f0 < b
    · by_cases h3 : 0 ≤ l.f1
      · by_cases h4 : l.f1 < b
        · go_enter Try.func109, Try.ntmps109
          go_wp2
          go_ret
          exact ⟨by simp [h1, h2, h3, h4], HB.out _⟩
        · have h4b : decide (l.f1 < b) = false := decide_eq_false h4
          go_enter Try.func109, Try.ntmps109
          go_wp2
          go_ret
          exact ⟨by simp [h1, h2, h3, h4], HB.out _⟩
      · have h4b : decide (0 ≤ l.f1) = false := decide_eq_false h3
        go_enter Try.func109, Try.ntmps109
        go_wp2
        go_ret
        exact ⟨by simp [h1, h2, h3], HB.out _⟩
    · have h4b : decide (l.f0 < b) = false := decide_eq_false h2
      go_enter Try.func109, Try.ntmps109
      go_wp2
      go_ret
      exact ⟨by simp [h1, h2], HB.out _⟩
  · have h4b : decide (0 ≤ l.f0) = false := decide_eq_false h1
    go_enter Try.func109, Try.ntmps109
    go_wp2
    go_ret
    exact ⟨by simp [h1], HB.out _⟩
theorem wants3_calls (l : S37) (w : World) :
    Calls Try.prog 110 #[.agg #[.int .i64 l.f0, .int .i64 l.f1, .int .i64 l.f2, .int .i64 l.f3]] w fun e w' => e = .returned (.bool (l.f0 != l.f1)) ∧ Below w.heap.size w w' := by
  have HB := Lib.hid (fun o => (Below.refl _ _).alloc (Nat.le_refl _) o : ∀ o, Below w.heap.size w (w.alloc o))
  go_enter Try.func110, Try.ntmps110
  go_wp2
  go_ret
  exact ⟨rfl, HB.out _⟩
theorem wants4_calls (l : S37) (w : World) :
    Calls Try.prog 111 #[.agg #[.int .i64 l.f0, .int .i64 l.f1, .int .i64 l.f2, .int .i64 l.f3]] w fun e w' => e = .returned (.bool (decide (1 ≤ l.f2 ∧ l.f2 ≤ 1000))) ∧ Below w.heap.size w w' := by
  have HB := Lib.hid (fun o => (Below.refl _ _).alloc (Nat.le_refl _) o : ∀ o, Below w.heap.size w (w.alloc o))
  by_cases h1 : 1 ≤ l.f2
  · by_cases h2 : l.f2 ≤ 1000
    all_goals
      go_enter Try.func111, Try.ntmps111
      go_wp2
      go_ret
      exact ⟨by simp [h1, h2], HB.out _⟩
  · have h4b : decide (1 ≤ l.f2) = false := decide_eq_false h1
    go_enter Try.func111, Try.ntmps111
    go_wp2
    go_ret
    exact ⟨by simp [h1], HB.out _⟩
theorem wants5_calls (l : S37) (w : World) :
    Calls Try.prog 112 #[.agg #[.int .i64 l.f0, .int .i64 l.f1, .int .i64 l.f2, .int .i64 l.f3]] w fun e w' => e = .returned (.bool (decide (0 ≤ l.f3 ∧ l.f3 ≤ 1000000))) ∧ Below w.heap.size w w' := by
  have HB := Lib.hid (fun o => (Below.refl _ _).alloc (Nat.le_refl _) o : ∀ o, Below w.heap.size w (w.alloc o))
  by_cases h1 : 0 ≤ l.f3
  · by_cases h2 : l.f3 ≤ 1000000
    all_goals
      go_enter Try.func112, Try.ntmps112
      go_wp2
      go_ret
      exact ⟨by simp [h1, h2], HB.out _⟩
  · have h4b : decide (0 ≤ l.f3) = false := decide_eq_false h1
    go_enter Try.func112, Try.ntmps112
    go_wp2
    go_ret
    exact ⟨by simp [h1], HB.out _⟩
theorem wants_calls (b : Int) (w : World) :
    Calls Try.prog 86 #[.int .i64 b] w fun e w' => e = .returned (.slice (some ⟨w.heap.size + 2, 0, none⟩) 4 4) ∧ Below w.heap.size w w' ∧ w'.heap.size = w.heap.size + 3 ∧
      w'.heap[w.heap.size]? = some (.cells #[.int .i64 b] 3 (0, 0)) ∧ w'.heap[w.heap.size + 1]? = some (.cells #[.func (.func 108) #[] #[.pointer (some ⟨w.heap.size, 0, none⟩)]] 109 (0, 0)) ∧
      w'.heap[w.heap.size + 2]? = some (.cells #[.func (.func 109) #[] #[.pointer (some ⟨w.heap.size + 1, 0, none⟩)], .func (.func 110) #[] #[], .func (.func 111) #[] #[], .func (.func 112) #[] #[]] 94 (0, 0)) := by
  go_enter Try.func86, Try.ntmps86
  go_wp2
  go_ret
  generalize hA : w.alloc (.cells #[.int .i64 b] 3) = wA
  have hsA : wA.heap.size = w.heap.size + 1 := by rw [← hA]; simp
  have bA : wA.heap[w.heap.size]? = some (.cells #[.int .i64 b] 3 (0, 0)) := by rw [← hA]; exact heap_alloc_new w _
  have hbA : Below w.heap.size w wA := by rw [← hA]; exact (Below.refl _ _).alloc (Nat.le_refl _) _
  generalize hB : wA.alloc (.cells #[.func (.func 108) #[] #[.pointer (some ⟨w.heap.size, 0, none⟩)]] 109) = wB
  have hsB : wB.heap.size = w.heap.size + 2 := by rw [← hB]; simp [hsA]
  have bB : wB.heap[w.heap.size + 1]? = some (.cells #[.func (.func 108) #[] #[.pointer (some ⟨w.heap.size, 0, none⟩)]] 109 (0, 0)) := by rw [← hB, ← hsA]; exact heap_alloc_new wA _
  have bA2 : wB.heap[w.heap.size]? = some (.cells #[.int .i64 b] 3 (0, 0)) := by rw [← hB]; exact blk_alloc bA _
  have hbB : Below w.heap.size w wB := by rw [← hB]; exact hbA.alloc (by omega) _
  refine ⟨rfl, hbB.alloc (by omega) _, by simp [hsB], blk_alloc bA2 _, blk_alloc bB _, ?_⟩
  rw [← hsB]; exact heap_alloc_new wB _

def okLine (b : Int) (l : S37) : Bool := decide (0 ≤ l.f0 ∧ l.f0 < b ∧ 0 ≤ l.f1 ∧ l.f1 < b) && (l.f0 != l.f1) && decide (1 ≤ l.f2 ∧ l.f2 ≤ 1000) && decide (0 ≤ l.f3 ∧ l.f3 ≤ 1000000)
def chk (b : Int) (ls : List S37) : Int := if b < 1 ∨ 6 < b then 1 else if 10 < ls.length then 5 else if ls.all (okLine b) then 0 else 1
def net_Check.f (a0_0 : Int) (l0_1 : List (S37)) : Option (Int) := some (chk a0_0 l0_1)
theorem all_take_succ {p : S37 → Bool} {ls : List S37} {i : Nat} (h : i < ls.length) (ha : ∀ l ∈ ls.take i, p l = true) (hx : p (rd_T37 ls (i : Int)) = true) : ∀ l ∈ ls.take (i + 1), p l = true := by
  intro l hl
  rw [List.take_succ_eq_append_getElem h] at hl
  rcases List.mem_append.1 hl with hl | hl
  · exact ha l hl
  · have e : rd_T37 ls (i : Int) = ls[i] := by simp [rd_T37, h]
    simp at hl; rw [hl, ← e]; exact hx
theorem not_all_of {p : S37 → Bool} {ls : List S37} {i : Nat} (h : i < ls.length) (hx : p (rd_T37 ls (i : Int)) = false) : ls.all p = false := by
  have e : rd_T37 ls (i : Int) = ls[i] := by simp [rd_T37, h]
  rw [e] at hx
  rw [List.all_eq_false]
  exact ⟨ls[i], List.getElem_mem h, by simp [hx]⟩
theorem cell_alloc_ {W : World} {a : Addr} {v : Value} (o : Obj) (h : W.cell? a = some v) : (W.alloc o).cell? a = some v := pw_cell_below ((Below.refl _ _).alloc (Nat.le_refl _) o) h
def wantB (b : Int) (l : S37) : Nat → Bool
  | 0 => decide (0 ≤ l.f0 ∧ l.f0 < b ∧ 0 ≤ l.f1 ∧ l.f1 < b)
  | 1 => l.f0 != l.f1
  | 2 => decide (1 ≤ l.f2 ∧ l.f2 ≤ 1000)
  | _ => decide (0 ≤ l.f3 ∧ l.f3 ≤ 1000000)
theorem wantB_ok {b : Int} {l : S37} (h : ∀ j, j < 4 → wantB b l j = true) : okLine b l = true := by
  have h0 := h 0 (by omega); have h1 := h 1 (by omega); have h2 := h 2 (by omega); have h3 := h 3 (by omega)
  simp only [wantB] at h0 h1 h2 h3
  simp only [okLine, h0, h1, h2, h3, Bool.and_self]
theorem wantB_bad {b : Int} {l : S37} {j : Nat} (hj : j < 4) (h : wantB b l j = false) : okLine b l = false := by
  have : j = 0 ∨ j = 1 ∨ j = 2 ∨ j = 3 := by omega
  rcases this with rfl | rfl | rfl | rfl <;> simp only [wantB] at h <;> simp [okLine, h]
def wantFn (h : Nat) : Nat → Value
  | 0 => .func (.func 109) #[] #[.pointer (some ⟨h + 1, 0, none⟩)]
  | 1 => .func (.func 110) #[] #[]
  | 2 => .func (.func 111) #[] #[]
  | _ => .func (.func 112) #[] #[]
set_option maxRecDepth 100000 in
set_option maxHeartbeats 4000000 in
theorem net_Check.calls (a0_0 : Int) (A0_1 : Option Addr) (c0_1 : Nat) (l0_1 : List (S37)) (r : Int) (w : World) (hr0_1 : Kd.C k37 w A0_1 l0_1.length l0_1) (hc0_1 : l0_1.length ≤ c0_1) (h : net_Check.f a0_0 l0_1 = some r) :
    Calls Try.prog 35 #[.agg #[.int .i64 a0_0, .slice A0_1 l0_1.length c0_1]] w fun e w' => e = .returned (.int .i64 r) ∧ Below w.heap.size w w' := by
  obtain rfl := Option.some.inj h
  have hu24 := Try.underlying24
  have hu37 := Try.underlying37
  have hb1 : Below w.heap.size w (w.alloc (.cells #[.int .i64 a0_0, .slice A0_1 l0_1.length c0_1] 24)) := (Below.refl _ _).alloc (Nat.le_refl _) _
  have HB := Lib.hid hb1
  clear hb1
  by_cases h1 : a0_0 < 1
  · have e1 : chk a0_0 l0_1 = 1 := by unfold chk; rw [if_pos (by omega)]
    have E1 := Lib.hid e1
    clear e1 h
    have q1 : decide (a0_0 < 1) = true := decide_eq_true h1
    go_enter Try.func35, Try.ntmps35
    go_wp2_with fail
    go_step3
    go_wp2_with fail
    try rw [Exit.noGoto_ret]
    go_ret
    exact ⟨by rw [E1.out]; rfl, HB.out⟩
  by_cases h2 : 6 < a0_0
  · have e1 : chk a0_0 l0_1 = 1 := by unfold chk; rw [if_pos (by omega)]
    have E1 := Lib.hid e1
    clear e1 h
    have q1 : decide (a0_0 < 1) = false := decide_eq_false h1
    have q2 : decide (6 < a0_0) = true := decide_eq_true h2
    go_enter Try.func35, Try.ntmps35
    go_wp2_with fail
    go_step3
    go_wp2_with fail
    try rw [Exit.noGoto_ret]
    go_ret
    exact ⟨by rw [E1.out]; rfl, HB.out⟩
  by_cases h3 : 10 < l0_1.length
  · have e1 : chk a0_0 l0_1 = 5 := by unfold chk; rw [if_neg (by omega), if_pos h3]
    have E1 := Lib.hid e1
    clear e1 h
    have h3i : (10 : Int) < (l0_1.length : Int) := by omega
    have q1 : decide (a0_0 < 1) = false := decide_eq_false h1
    have q2 : decide (6 < a0_0) = false := decide_eq_false h2
    have q3 : decide (10 < l0_1.length) = true := decide_eq_true h3
    go_enter Try.func35, Try.ntmps35
    go_wp2_with fail
    go_step3
    go_wp2_with fail
    try rw [Exit.noGoto_ret]
    go_ret
    exact ⟨by rw [E1.out]; rfl, HB.out⟩
  have e1 : chk a0_0 l0_1 = if l0_1.all (okLine a0_0) then 0 else 1 := by unfold chk; rw [if_neg (by omega), if_neg h3]
  have E1 := Lib.hid e1
  clear e1 h
  have HR := Lib.hid hr0_1
  clear hr0_1
  have q1 : decide (a0_0 < 1) = false := decide_eq_false h1
  have q2 : decide (6 < a0_0) = false := decide_eq_false h2
  have q3 : decide (10 < l0_1.length) = false := decide_eq_false h3
  go_enter Try.func35, Try.ntmps35
  go_wp2_with fail
  go_step3
  go_wp2_with (go_at_call 86; refine (wants_calls _ _).mono ?_; rintro e w1 ⟨rfl, hb1, hs1, k0, k1, k2⟩; have H1 := Lib.hid hb1; have H2 := Lib.hid hs1; have K0 := Lib.hid k0; have K1 := Lib.hid k1; have K2 := Lib.hid k2; clear hb1 hs1 k0 k1 k2; have hcz1 : w1.cell? ⟨w.heap.size, 1, none⟩ = some (.slice A0_1 l0_1.length c0_1) := (by simp at H1; exact (blk_cell (H1.out.block _ (by simp) |>.trans (heap_alloc_new w _)) 1).trans rfl))
  go_step3
  go_wp2_with fail
  have hq1 : Below w.heap.size w w1 := HB.out.trans (by have := H1.out; simp at this; exact this.mono (by omega))
  have HQ1 := Lib.hid hq1
  clear hq1
  go_loopg [2, 28] l0_1.length (fun k v2 v28 w' => ∃ i : Nat, i ≤ l0_1.length ∧ v2 = .int .i64 0 ∧ v28 = .int .i64 i ∧ Hid (k = l0_1.length - i ∧ ∀ l ∈ l0_1.take i, okLine a0_0 l = true) ∧ Hid (Below w1.heap.size w1 w'))
  case atStart => exact ⟨0, Nat.zero_le _, rfl, rfl, ⟨by simp, by simp⟩, Below.refl _ _⟩
  case round =>
    obtain ⟨i, hi, rfl, rfl, HG, HW⟩ := hrel
    obtain ⟨gq, rfl⟩ : ∃ gq : Nat, gq = gk := ⟨_, rfl⟩
    obtain ⟨wq, rfl⟩ : ∃ wq : World, wq = wr := ⟨_, rfl⟩
    by_cases hlt : i < l0_1.length
    · have hli : (i : Int) < (l0_1.length : Int) := by omega
      obtain ⟨ad, rfl, e0, e1, e2, e3⟩ := at_T37 HR.out (i : Int) (by omega) hli
      have hbw : Below w.heap.size w wq := HQ1.out.trans (HW.out.mono (HQ1.out.size))
      replace e0 := (hbw.cell (World.block_lt_of_cell? w _ e0)).trans e0
      replace e1 := (hbw.cell (World.block_lt_of_cell? w _ e1)).trans e1
      replace e2 := (hbw.cell (World.block_lt_of_cell? w _ e2)).trans e2
      replace e3 := (hbw.cell (World.block_lt_of_cell? w _ e3)).trans e3
      rw [Int.toNat_natCast] at e0 e1 e2 e3
      have HBW := Lib.hid hbw
      clear hbw
      obtain ⟨x, hx⟩ : ∃ x, x = rd_T37 l0_1 (i : Int) := ⟨_, rfl⟩
      rw [← hx] at e0 e1 e2 e3
      have HX := Lib.hid hx
      clear hx
      go_wp2_with fail
      have hs2 : w1.heap.size ≤ wq.heap.size := HW.out.size
      have k0 : (wq.alloc (.cells #[.int .i64 x.f0, .int .i64 x.f1, .int .i64 x.f2, .int .i64 x.f3] 37)).heap[w.heap.size + 1]? = some (.cells #[.int .i64 a0_0] 3 (0, 0)) := blk_alloc (by rw [HW.out.block _ (by have := H2.out; simp at this; omega)]; simpa using K0.out) _
      have k1 : (wq.alloc (.cells #[.int .i64 x.f0, .int .i64 x.f1, .int .i64 x.f2, .int .i64 x.f3] 37)).heap[w.heap.size + 1 + 1]? = some (.cells #[.func (.func 108) #[] #[.pointer (some ⟨w.heap.size + 1, 0, none⟩)]] 109 (0, 0)) := blk_alloc (by rw [HW.out.block _ (by have := H2.out; simp at this; omega)]; simpa using K1.out) _
      have k2 : (wq.alloc (.cells #[.int .i64 x.f0, .int .i64 x.f1, .int .i64 x.f2, .int .i64 x.f3] 37)).heap[w.heap.size + 1 + 2]? = some (.cells #[.func (.func 109) #[] #[.pointer (some ⟨w.heap.size + 1 + 1, 0, none⟩)], .func (.func 110) #[] #[], .func (.func 111) #[] #[], .func (.func 112) #[] #[]] 94 (0, 0)) := blk_alloc (by rw [HW.out.block _ (by have := H2.out; simp at this; omega)]; simpa using K2.out) _
      have k3 : (wq.alloc (.cells #[.int .i64 x.f0, .int .i64 x.f1, .int .i64 x.f2, .int .i64 x.f3] 37)).heap[wq.heap.size]? = some (.cells #[.int .i64 x.f0, .int .i64 x.f1, .int .i64 x.f2, .int .i64 x.f3] 37 (0, 0)) := heap_alloc_new wq _
      have hb2 : Below w1.heap.size w1 (wq.alloc (.cells #[.int .i64 x.f0, .int .i64 x.f1, .int .i64 x.f2, .int .i64 x.f3] 37)) := HW.out.alloc hs2 _
      have hs3 : w.heap.size + 4 ≤ wq.heap.size := by have := H2.out; simp at this; omega
      generalize hg5 : wq.heap.size = g5 at k3 hs3 ⊢
      generalize wq.alloc (.cells #[.int .i64 x.f0, .int .i64 x.f1, .int .i64 x.f2, .int .i64 x.f3] 37) = w2 at k0 k1 k2 k3 hb2 ⊢
      have HB2 := Lib.hid hb2
      have J0 := Lib.hid k0
      have J1 := Lib.hid k1
      have J2 := Lib.hid k2
      have J3 := Lib.hid k3
      clear hb2 k0 k1 k2 k3 e0 e1 e2 e3 hg5 hs2
      go_loopg [2, 34] 4 (fun m v2 v34 w' => ∃ j : Nat, j ≤ 4 ∧ v2 = .int .i64 0 ∧ v34 = .int .i64 j ∧ Hid (m = 4 - j ∧ ∀ q, q < j → wantB a0_0 x q = true) ∧ Hid (Below w2.heap.size w2 w'))
      case atStart => exact ⟨0, by omega, rfl, rfl, ⟨by simp, fun q hq => absurd hq (by omega)⟩, Below.refl _ _⟩
      case round =>
        obtain ⟨j, hj, rfl, rfl, HJ, HV⟩ := hrel
        have hsv : w2.heap.size ≤ wr.heap.size := HV.out.size
        have hg2 : g5 < w2.heap.size := blk_lt J3.out
        have k0 : wr.heap[w.heap.size + 1]? = some (.cells #[.int .i64 a0_0] 3 (0, 0)) := by rw [HV.out.block _ (blk_lt J0.out)]; exact J0.out
        have k1 : wr.heap[w.heap.size + 1 + 1]? = some (.cells #[.func (.func 108) #[] #[.pointer (some ⟨w.heap.size + 1, 0, none⟩)]] 109 (0, 0)) := by rw [HV.out.block _ (blk_lt J1.out)]; exact J1.out
        have k2 : wr.heap[w.heap.size + 1 + 2]? = some (.cells #[.func (.func 109) #[] #[.pointer (some ⟨w.heap.size + 1 + 1, 0, none⟩)], .func (.func 110) #[] #[], .func (.func 111) #[] #[], .func (.func 112) #[] #[]] 94 (0, 0)) := by rw [HV.out.block _ (blk_lt J2.out)]; exact J2.out
        have k3 : wr.heap[g5]? = some (.cells #[.int .i64 x.f0, .int .i64 x.f1, .int .i64 x.f2, .int .i64 x.f3] 37 (0, 0)) := by rw [HV.out.block _ hg2]; exact J3.out
        have L0 := Lib.hid k0
        have L1 := Lib.hid k1
        have L2 := Lib.hid k2
        have x0 : wr.cell? ⟨g5, 0, none⟩ = some (.int .i64 x.f0) := (blk_cell k3 0).trans rfl
        have x1 : wr.cell? ⟨g5, 1, none⟩ = some (.int .i64 x.f1) := (blk_cell k3 1).trans rfl
        have x2 : wr.cell? ⟨g5, 2, none⟩ = some (.int .i64 x.f2) := (blk_cell k3 2).trans rfl
        have x3 : wr.cell? ⟨g5, 3, none⟩ = some (.int .i64 x.f3) := (blk_cell k3 3).trans rfl
        clear k0 k1 k2 k3
        have hgr : g5 < wr.heap.size := by omega
        by_cases hjl : j < 4
        · have : j = 0 ∨ j = 1 ∨ j = 2 ∨ j = 3 := by omega
          rcases this with rfl | rfl | rfl | rfl
          · have hcell : wr.cell? ⟨w.heap.size + 1 + 2, 0, none⟩ = some (.func (.func 109) #[] #[.pointer (some ⟨w.heap.size + 1 + 1, 0, none⟩)]) := (blk_cell L2.out 0).trans rfl
            have y0 : wr.cell? ⟨w.heap.size + 1, 0, none⟩ = some (.int .i64 a0_0) := (blk_cell L0.out 0).trans rfl
            have y1 : wr.cell? ⟨w.heap.size + 1 + 1, 0, none⟩ = some (.func (.func 108) #[] #[.pointer (some ⟨w.heap.size + 1, 0, none⟩)]) := (blk_cell L1.out 0).trans rfl
            generalize hc : wantB a0_0 x 0 = c at HJ
            have HCC := Lib.hid hc
            cases c with
            | true =>
              have hcc : decide (0 ≤ x.f0 ∧ x.f0 < a0_0 ∧ 0 ≤ x.f1 ∧ x.f1 < a0_0) = true := hc
              clear hc
              go_wp2_with (go_at_call 109; refine (wants2_calls a0_0 (w.heap.size + 1 + 1) (w.heap.size + 1) x _ ((cell_alloc_ _ y1)) ((cell_alloc_ _ y0))).mono ?_; rintro e w5 ⟨rfl, hb5⟩; have HB5 := Lib.hid hb5; clear hb5)
              go_roundg (4 - (0 + 1))
              case measure => have := HJ.out.1; omega
              case rel => exact ⟨0 + 1, by omega, rfl, by go_num, ⟨by omega, fun q hq => by
                  rcases Nat.lt_succ_iff_lt_or_eq.1 hq with h | rfl
                  · exact HJ.out.2 q h
                  · exact HCC.out⟩, HV.out.trans (((Below.refl w2.heap.size wr).alloc hsv _).trans (HB5.out.mono (by simp; omega)))⟩
            | false =>
              have hcc : decide (0 ≤ x.f0 ∧ x.f0 < a0_0 ∧ 0 ≤ x.f1 ∧ x.f1 < a0_0) = false := hc
              clear hc
              go_wp2_with (go_at_call 109; refine (wants2_calls a0_0 (w.heap.size + 1 + 1) (w.heap.size + 1) x _ ((cell_alloc_ _ y1)) ((cell_alloc_ _ y0))).mono ?_; rintro e w5 ⟨rfl, hb5⟩; have HB5 := Lib.hid hb5; clear hb5)
              try rw [Exit.noGoto_ret]
              go_ret
              refine ⟨by rw [E1.out, if_neg (by rw [not_all_of hlt (by rw [← HX.out]; exact wantB_bad (j := 0) (by omega) HCC.out)]; simp)]; rfl, ?_⟩
              exact HQ1.out.trans ((HB2.out.trans ((HV.out.trans (((Below.refl w2.heap.size wr).alloc hsv _).trans (HB5.out.mono (by simp; omega)))).mono HB2.out.size)).mono HQ1.out.size)
          · have hcell : wr.cell? ⟨w.heap.size + 1 + 2, 1, none⟩ = some (.func (.func 110) #[] #[]) := (blk_cell L2.out 1).trans rfl
            generalize hc : wantB a0_0 x 1 = c at HJ
            have HCC := Lib.hid hc
            cases c with
            | true =>
              have hcc : (x.f0 != x.f1) = true := hc
              clear hc
              go_wp2_with (go_at_call 110; refine (wants3_calls x _).mono ?_; rintro e w5 ⟨rfl, hb5⟩; have HB5 := Lib.hid hb5; clear hb5)
              go_roundg (4 - (1 + 1))
              case measure => have := HJ.out.1; omega
              case rel => exact ⟨1 + 1, by omega, rfl, by go_num, ⟨by omega, fun q hq => by
                  rcases Nat.lt_succ_iff_lt_or_eq.1 hq with h | rfl
                  · exact HJ.out.2 q h
                  · exact HCC.out⟩, HV.out.trans (((Below.refl w2.heap.size wr).alloc hsv _).trans (HB5.out.mono (by simp; omega)))⟩
            | false =>
              have hcc : (x.f0 != x.f1) = false := hc
              clear hc
              go_wp2_with (go_at_call 110; refine (wants3_calls x _).mono ?_; rintro e w5 ⟨rfl, hb5⟩; have HB5 := Lib.hid hb5; clear hb5)
              try rw [Exit.noGoto_ret]
              go_ret
              refine ⟨by rw [E1.out, if_neg (by rw [not_all_of hlt (by rw [← HX.out]; exact wantB_bad (j := 1) (by omega) HCC.out)]; simp)]; rfl, ?_⟩
              exact HQ1.out.trans ((HB2.out.trans ((HV.out.trans (((Below.refl w2.heap.size wr).alloc hsv _).trans (HB5.out.mono (by simp; omega)))).mono HB2.out.size)).mono HQ1.out.size)
          · have hcell : wr.cell? ⟨w.heap.size + 1 + 2, 2, none⟩ = some (.func (.func 111) #[] #[]) := (blk_cell L2.out 2).trans rfl
            generalize hc : wantB a0_0 x 2 = c at HJ
            have HCC := Lib.hid hc
            cases c with
            | true =>
              have hcc : decide (1 ≤ x.f2 ∧ x.f2 ≤ 1000) = true := hc
              clear hc
              go_wp2_with (go_at_call 111; refine (wants4_calls x _).mono ?_; rintro e w5 ⟨rfl, hb5⟩; have HB5 := Lib.hid hb5; clear hb5)
              go_roundg (4 - (2 + 1))
              case measure => have := HJ.out.1; omega
              case rel => exact ⟨2 + 1, by omega, rfl, by go_num, ⟨by omega, fun q hq => by
                  rcases Nat.lt_succ_iff_lt_or_eq.1 hq with h | rfl
                  · exact HJ.out.2 q h
                  · exact HCC.out⟩, HV.out.trans (((Below.refl w2.heap.size wr).alloc hsv _).trans (HB5.out.mono (by simp; omega)))⟩
            | false =>
              have hcc : decide (1 ≤ x.f2 ∧ x.f2 ≤ 1000) = false := hc
              clear hc
              go_wp2_with (go_at_call 111; refine (wants4_calls x _).mono ?_; rintro e w5 ⟨rfl, hb5⟩; have HB5 := Lib.hid hb5; clear hb5)
              try rw [Exit.noGoto_ret]
              go_ret
              refine ⟨by rw [E1.out, if_neg (by rw [not_all_of hlt (by rw [← HX.out]; exact wantB_bad (j := 2) (by omega) HCC.out)]; simp)]; rfl, ?_⟩
              exact HQ1.out.trans ((HB2.out.trans ((HV.out.trans (((Below.refl w2.heap.size wr).alloc hsv _).trans (HB5.out.mono (by simp; omega)))).mono HB2.out.size)).mono HQ1.out.size)
          · have hcell : wr.cell? ⟨w.heap.size + 1 + 2, 3, none⟩ = some (.func (.func 112) #[] #[]) := (blk_cell L2.out 3).trans rfl
            generalize hc : wantB a0_0 x 3 = c at HJ
            have HCC := Lib.hid hc
            cases c with
            | true =>
              have hcc : decide (0 ≤ x.f3 ∧ x.f3 ≤ 1000000) = true := hc
              clear hc
              go_wp2_with (go_at_call 112; refine (wants5_calls x _).mono ?_; rintro e w5 ⟨rfl, hb5⟩; have HB5 := Lib.hid hb5; clear hb5)
              go_roundg (4 - (3 + 1))
              case measure => have := HJ.out.1; omega
              case rel => exact ⟨3 + 1, by omega, rfl, by go_num, ⟨by omega, fun q hq => by
                  rcases Nat.lt_succ_iff_lt_or_eq.1 hq with h | rfl
                  · exact HJ.out.2 q h
                  · exact HCC.out⟩, HV.out.trans (((Below.refl w2.heap.size wr).alloc hsv _).trans (HB5.out.mono (by simp; omega)))⟩
            | false =>
              have hcc : decide (0 ≤ x.f3 ∧ x.f3 ≤ 1000000) = false := hc
              clear hc
              go_wp2_with (go_at_call 112; refine (wants5_calls x _).mono ?_; rintro e w5 ⟨rfl, hb5⟩; have HB5 := Lib.hid hb5; clear hb5)
              try rw [Exit.noGoto_ret]
              go_ret
              refine ⟨by rw [E1.out, if_neg (by rw [not_all_of hlt (by rw [← HX.out]; exact wantB_bad (j := 3) (by omega) HCC.out)]; simp)]; rfl, ?_⟩
              exact HQ1.out.trans ((HB2.out.trans ((HV.out.trans (((Below.refl w2.heap.size wr).alloc hsv _).trans (HB5.out.mono (by simp; omega)))).mono HB2.out.size)).mono HQ1.out.size)
        · obtain rfl : j = 4 := by omega
          go_wp2_with fail
          go_roundg (l0_1.length - (i + 1))
          case measure => have := HG.out.1; omega
          case rel => exact ⟨i + 1, by omega, rfl, by go_num, ⟨rfl, all_take_succ hlt HG.out.2 (by rw [← HX.out]; exact wantB_ok HJ.out.2)⟩, HB2.out.trans (HV.out.mono HB2.out.size)⟩
    · obtain rfl : i = l0_1.length := by omega
      have q4 : decide ((l0_1.length : Int) < (l0_1.length : Int)) = false := decide_eq_false (by omega)
      go_wp2_with fail
      try rw [Exit.noGoto_ret]
      go_ret
      refine ⟨by rw [E1.out, if_pos (by have := HG.out.2; rw [List.take_length] at this; exact List.all_eq_true.2 this)]; rfl, HQ1.out.trans (HW.out.mono HQ1.out.size)⟩

end Go.Proofs.Ytdpgdelimffjpaa.P
