-- Written by wip/drive.py (a prover's driver over the kit's print.py); hand-proved contracts stand among the printed ones. Lean checks it.
import Derived.Test.YtdpgdelimffjpaaFBase
import Derived.Test.YtdpgdelimffjpaaF31
import Derived.Test.YtdpgdelimffjpaaHBoxes
import Derived.RangeFuncBox
import Derived.Maps.AppendAt
import Derived.Lib.Hide
namespace Go.Proofs.Ytdpgdelimffjpaa.P
open Go.RowKit Go.Proofs.YtdpgdelimffjpaaW.PrintWords Go.Proofs.YtdpgdelimffjpaaW.PrintLast Go.Proofs.YtdpgdelimffjpaaW.PrintMore
attribute [local go_sem] max2_int min2_int max_two min_two max_three min_three max_four min_four   -- for this text's walks alone
set_option linter.unusedVariables false
set_option linter.unusedSimpArgs false

/-! ### net_At: function 71: by hand -/
-- import Derived.Test.YtdpgdelimffjpaaHBoxes
-- import Derived.RangeFuncBox
-- import Derived.Maps.AppendAt
-- import Derived.Lib.Hide
attribute [local go_sem] Oper.semAt_some
def atBus (bus : Int) (l : S37) : Bool := decide (l.f0 = bus) || decide (l.f1 = bus)
def net_At.f (a0_0 : Int) (l0_1 : List (S37)) (l1 : List Int) (a2 : Int) : Option (List Int × Int) :=
  if outsV a0_0 l0_1 l1 = 0 then (if a2 < 0 ∨ a0_0 ≤ a2 then some ([], 1) else some (((inn l0_1 l1).filter (fun (k : Nat) => atBus a2 (rd_T37 l0_1 (k : Int)))).map (fun (k : Nat) => (k : Int)), 0)) else some ([], outsV a0_0 l0_1 l1)
def atF (bus : Int) (xs : List (Nat × S37)) : List Int := (xs.filter (fun p => atBus bus p.2)).map (fun p => (p.1 : Int))
theorem atF_in {bus : Int} {xs : List (Nat × S37)} {x : Nat × S37} (h : atBus bus x.2 = true) : atF bus (xs ++ [x]) = atF bus xs ++ [(x.1 : Int)] := by simp [atF, h]
theorem atF_out {bus : Int} {xs : List (Nat × S37)} {x : Nat × S37} (h : atBus bus x.2 = false) : atF bus (xs ++ [x]) = atF bus xs := by simp [atF, h]
theorem atR_of {w : World} {B : Nat} {v : Value} (xs : List Int) (y : Int) (h : w.ownsRow B 3 1 v (xs.length + 1) (xs.map (Value.int .i64) ++ [.int .i64 y])) : Kd.R (Kd.int .i64) 3 w B (fun _ => True) v (xs ++ [y]) := Kd.R_of_own (by simpa [encs] using h) (fun _ _ => trivial)
theorem atF_len (bus : Int) (xs : List (Nat × S37)) : (atF bus xs).length ≤ xs.length := by simp only [atF, List.length_map]; exact List.length_filter_le _ _
set_option maxRecDepth 100000 in
set_option maxHeartbeats 4000000 in
theorem net_At.calls (a0_0 : Int) (A0_1 : Option Addr) (c0_1 : Nat) (l0_1 : List (S37)) (A1 : Option Addr) (c1 : Nat) (l1 : List Int) (a2 : Int) (r1 : List Int) (r2 : Int) (w : World) (hr0_1 : Kd.C k37 w A0_1 l0_1.length l0_1) (hc0_1 : l0_1.length ≤ c0_1) (hr1 : Kd.C (Kd.int .i64) w A1 l1.length l1) (hc1 : l1.length ≤ c1) (h : net_At.f a0_0 l0_1 l1 a2 = some (r1, r2)) :
    Calls Try.prog 71 #[.agg #[.int .i64 a0_0, .slice A0_1 l0_1.length c0_1], .slice A1 l1.length c1, .int .i64 a2] w fun e w' => ∃ v0_ : Value, e = .returned (.tuple #[v0_, .int .i64 r2]) ∧ Kd.R (Kd.int .i64) 3 w' w.heap.size (fun _ => True) v0_ r1 ∧ Below w.heap.size w w' := by
  have hu24 := Try.underlying24
  have hu37 := Try.underlying37
  have hob : l1.length ≤ 9223372036854775807 := hr1.2.1
  have HOF := Lib.hid (outs_f a0_0 l0_1 l1 hob (l1.length + 1) (by omega))
  have HR0 := Lib.hid hr0_1
  have HR1 := Lib.hid hr1
  clear hr0_1 hr1 hob
  by_cases hv : outsV a0_0 l0_1 l1 = 0
  · rw [net_At.f, if_pos hv] at h
    rw [hv] at HOF
    have HV := Lib.hid hv
    clear hv
    by_cases hbad : a2 < 0 ∨ a0_0 ≤ a2
    · rw [if_pos hbad] at h
      simp only [Option.some.injEq, Prod.mk.injEq] at h
      obtain ⟨rfl, rfl⟩ := h
      by_cases hneg : a2 < 0
      · have q1 : decide (a2 < 0) = true := decide_eq_true hneg
        clear hbad hneg
        go_enter Try.func71, Try.ntmps71
        go_wp2_with (go_at_call 31; refine (net_Outs.calls (l1.length + 1) a0_0 _ _ l0_1 _ _ l1 0 _ ?side1 hc0_1 ?side2 hc1 HOF.out).mono ?_; (case side1 => exact Kd.C_below HR0.out (((((Below.refl _ w).alloc (Nat.le_refl _) _).alloc (by simp) _).alloc (by simp; omega) _))); (case side2 => exact Kd.C_below HR1.out (((((Below.refl _ w).alloc (Nat.le_refl _) _).alloc (by simp) _).alloc (by simp; omega) _))); rintro e w4 ⟨rfl, hb4⟩; obtain ⟨k0, k1, k2, hsz, hbw⟩ := boxes3 hb4; have K0 := Lib.hid k0; have K1 := Lib.hid k1; have K2 := Lib.hid k2; have HBW := Lib.hid hbw; clear hb4 k0 k1 k2 hbw; have c00 : w4.cell? ⟨w.heap.size, 0, none⟩ = some (.int .i64 a0_0) := (blk_cell K0.out 0).trans rfl; have c10 : w4.cell? ⟨w.heap.size + 1, 0, none⟩ = some (.int .i64 a2) := (blk_cell K1.out 0).trans rfl; have c20 : w4.cell? ⟨w.heap.size + 1 + 1, 0, none⟩ = some (.slice none 0 0) := (blk_cell K2.out 0).trans rfl; have f20 := blk_frozen K2.out 0)
        rw [setCell_id (i := 0) (v := .slice none 0 0) K2.out rfl]
        exact bodyPost_ret (v := .tuple #[.slice none 0 0, .int .i64 1]) (by simp [results, Try.f71, go_sem, c20]) rfl ⟨_, rfl, Kd.R_nil _ _ _ _ _, HBW.out⟩
      · have q1 : decide (a2 < 0) = false := decide_eq_false hneg
        have q2 : decide (a0_0 ≤ a2) = true := decide_eq_true (by omega)
        clear hbad hneg
        go_enter Try.func71, Try.ntmps71
        go_wp2_with (go_at_call 31; refine (net_Outs.calls (l1.length + 1) a0_0 _ _ l0_1 _ _ l1 0 _ ?side1 hc0_1 ?side2 hc1 HOF.out).mono ?_; (case side1 => exact Kd.C_below HR0.out (((((Below.refl _ w).alloc (Nat.le_refl _) _).alloc (by simp) _).alloc (by simp; omega) _))); (case side2 => exact Kd.C_below HR1.out (((((Below.refl _ w).alloc (Nat.le_refl _) _).alloc (by simp) _).alloc (by simp; omega) _))); rintro e w4 ⟨rfl, hb4⟩; obtain ⟨k0, k1, k2, hsz, hbw⟩ := boxes3 hb4; have K0 := Lib.hid k0; have K1 := Lib.hid k1; have K2 := Lib.hid k2; have HBW := Lib.hid hbw; clear hb4 k0 k1 k2 hbw; have c00 : w4.cell? ⟨w.heap.size, 0, none⟩ = some (.int .i64 a0_0) := (blk_cell K0.out 0).trans rfl; have c10 : w4.cell? ⟨w.heap.size + 1, 0, none⟩ = some (.int .i64 a2) := (blk_cell K1.out 0).trans rfl; have c20 : w4.cell? ⟨w.heap.size + 1 + 1, 0, none⟩ = some (.slice none 0 0) := (blk_cell K2.out 0).trans rfl; have f20 := blk_frozen K2.out 0)
        rw [setCell_id (i := 0) (v := .slice none 0 0) K2.out rfl]
        exact bodyPost_ret (v := .tuple #[.slice none 0 0, .int .i64 1]) (by simp [results, Try.f71, go_sem, c20]) rfl ⟨_, rfl, Kd.R_nil _ _ _ _ _, HBW.out⟩
    · rw [if_neg hbad] at h
      refine (callsIn_wide (n := 3)).1 ?_
      refine callsIn_of_wp_marks Try.func71 rfl trivial ?_ rfl
      simp only [Try.ntmps71, List.size_toArray, List.length_cons, List.length_nil, Nat.reduceAdd, Nat.reduceSub, Array.replicate_succ, Array.replicate_zero, List.push_toArray, List.append_toArray, List.nil_append, List.cons_append]
      simp only [Option.some.injEq, Prod.mk.injEq] at h
      obtain ⟨rfl, rfl⟩ := h
      have q1 : decide (a2 < 0) = false := decide_eq_false (by omega)
      have q2 : decide (a0_0 ≤ a2) = false := decide_eq_false (by omega)
      clear hbad
      gi_wp2_with (refine ⟨trivial, ?_⟩; refine (callsIn_wide.2 (net_Outs.calls (l1.length + 1) a0_0 _ _ l0_1 _ _ l1 0 _ ?side1 hc0_1 ?side2 hc1 HOF.out)).mono ?_; (case side1 => exact Kd.C_below HR0.out (((((Below.refl _ w).alloc (Nat.le_refl _) _).alloc (by simp) _).alloc (by simp; omega) _))); (case side2 => exact Kd.C_below HR1.out (((((Below.refl _ w).alloc (Nat.le_refl _) _).alloc (by simp) _).alloc (by simp; omega) _))); rintro e w4 ⟨rfl, hb4⟩; obtain ⟨k0, k1, k2, hsz, hbw⟩ := boxes3 hb4; have K0 := Lib.hid k0; have K1 := Lib.hid k1; have K2 := Lib.hid k2; have HBW := Lib.hid hbw; clear hb4 k0 k1 k2 hbw; have c00 : w4.cell? ⟨w.heap.size, 0, none⟩ = some (.int .i64 a0_0) := (blk_cell K0.out 0).trans rfl; have c01 : w4.cell? ⟨w.heap.size, 1, none⟩ = some (.slice A0_1 l0_1.length c0_1) := (blk_cell K0.out 1).trans rfl; have c10 : w4.cell? ⟨w.heap.size + 1, 0, none⟩ = some (.int .i64 a2) := (blk_cell K1.out 0).trans rfl)
      gi_wp2_with (refine ⟨trivial, ?_⟩; refine (callsIn_wide.2 (in_calls _ _ _ _ _ _ _ _)).mono ?_; rintro e w6 ⟨rfl, hb6, hs6, n6, o6⟩; have HB6 := Lib.hid hb6; have HS6 := Lib.hid hs6; have N6 := Lib.hid n6; have O6 := Lib.hid o6; clear hb6 hs6 n6 o6)
      obtain ⟨B, hB⟩ : ∃ B, B = w6.heap.size := ⟨_, rfl⟩
      obtain ⟨H, hH⟩ : ∃ H, H = w.heap.size := ⟨_, rfl⟩
      have hBn : w4.heap.size + 2 = B := by rw [hB]; exact HS6.out.symm
      have hH5 : H + 3 ≤ w4.heap.size := by rw [hH]; exact hsz
      have bw6 : Below H w w6 := by rw [hH]; exact HBW.out.trans (HB6.out.mono (by omega))
      have m6 : w6.heap[H + 1]? = some (.cells #[.int .i64 a2] 3 (0, 0)) := by rw [hH]; exact blk_below K1.out HB6.out
      have l6 : w6.heap[H + 1 + 1]? = some (.cells #[.slice none 0 0] 25 (0, 0)) := by rw [hH]; exact blk_below K2.out HB6.out
      have hkc : ∀ W, KpS (fun i => i < B ∧ i ≠ H + 1 + 1 ∧ i ≠ H + 1 + 1) w6 W → ∀ k, k < w.heap.size → W.heap[k]? = w.heap[k]? := fun W hk k hlt => (hk k ⟨by omega, by omega, by omega⟩).trans (bw6.block k (by omega))
      have hseq : SeqStopsK Fence.wide 2 Try.prog 106 #[.pointer (some ⟨w4.heap.size, 0, none⟩), .pointer (some ⟨w4.heap.size + 1, 0, none⟩)] encL (KpS (fun i => i < B ∧ i ≠ H + 1 + 1 ∧ i ≠ H + 1 + 1)) (fun xs => xs = insF (fun k => l1.contains (k : Int)) l0_1 l0_1.length) (fun _ => True) l0_1.length w6 := by
        intro l J Jx W hW hJ hJx hY h0
        obtain ⟨hck, hri, _⟩ := outsV_ok HV.out
        have hL10 := (chk_ok hck).2.2.1
        have hol := outsV_len HV.out
        refine in_iter _ w6 w4.heap.size (w4.heap.size + 1) a0_0 A0_1 c0_1 l0_1 A1 c1 l1 _ (by omega) hc0_1 (fun k _ => bs_f l1 (k : Int) (by omega) hri) ⟨by omega, by omega, by omega⟩ ⟨by omega, by omega, by omega⟩ hc1 ?_ ?_ ?_ ?_ l J Jx W (fun i hi => hW.block i (by rw [← hB]; exact hi.1)) (fun i hi => by rw [← hB]; exact hi.1) hJ hY h0
        · intro W hk; exact (hk _ ⟨by omega, by omega, by omega⟩).trans N6.out
        · intro W hk; exact (hk _ ⟨by omega, by omega, by omega⟩).trans O6.out
        · intro W hk; exact Kd.Heap.C (Kd.heap_iso _ (Kd.heap_pair (Kd.heap_int _) (Kd.heap_pair (Kd.heap_int _) (Kd.heap_pair (Kd.heap_int _) (Kd.heap_int _))))) (hkc W hk) HR0.out
        · intro W hk; exact Kd.Heap.C (Kd.heap_int _) (hkc W hk) HR1.out
      have HSEQ := Lib.hid hseq
      have HB' := Lib.hid hB
      have HH' := Lib.hid hH
      have BW6 := Lib.hid bw6
      have M6 := Lib.hid m6
      have L6 := Lib.hid l6
      have hbs : w6.heap.size = B := hB.symm
      have HBS := Lib.hid hbs
      clear hbs hseq hB hH bw6 m6 l6 hkc c00 c01 c10
      refine wpIn_rangeFunc_ownH (F := Fence.wide) (n := 3) rfl (by omega) (gf := 106) (lb := #[.pointer (some ⟨w4.heap.size, 0, none⟩), .pointer (some ⟨w4.heap.size + 1, 0, none⟩)]) rfl trivial (enters_of Try.func106 (by kernel_rfl) rfl)
        (encs := encL) (Kp := KpS (fun i => i < B ∧ i ≠ H + 1 + 1 ∧ i ≠ H + 1 + 1)) HSEQ.out ?hKt ?hKb (Below.refl _ _) (fun _ => rfl)
        (fun pre W => ∃ v2, W.heap[H + 1]? = some (.cells #[.int .i64 a2] 3 (0, 0)) ∧ W.heap[H + 1 + 1]? = some (.cells #[v2] 25 (0, 0)) ∧ Kd.R (Kd.int .i64) 3 W B (fun _ => True) v2 (atF a2 pre) ∧ Below H w6 W ∧ B ≤ W.heap.size)
        (fun _ _ _ => False) ?hI (fun _ _ _ _ _ hs _ _ => hs) ?h0
        (fun x a' W => ∃ Bx, B ≤ Bx ∧ W.heap[Bx]? = some (.cells #[.int .i64 x.2.f0, .int .i64 x.2.f1, .int .i64 x.2.f2, .int .i64 x.2.f3] 37 (0, 0)) ∧ a' = { tmps := #[.agg #[.int .i64 a0_0, .slice A0_1 l0_1.length c0_1], .slice A1 l1.length c1, .int .i64 a2, .pointer (some ⟨w.heap.size, 0, none⟩), undef, .pointer (some ⟨w.heap.size + 1, 0, none⟩), .pointer (some ⟨w.heap.size + 1 + 1, 0, none⟩), .int .i64 0, .int .i64 0, .int .i64 (x.1 : Int), .pointer (some ⟨Bx, 0, none⟩), .agg #[.int .i64 a0_0, .slice A0_1 l0_1.length c0_1], .slice A1 l1.length c1, .int .i64 0, .int .i64 0, .bool false, undef, .int .i64 a2, .bool false, .bool false, .int .i64 a2, .pointer (some ⟨w.heap.size, 0, none⟩), .int .i64 a0_0, .bool false, .bool false, .agg #[.int .i64 a0_0, .slice A0_1 l0_1.length c0_1], .slice A1 l1.length c1, .func (.func 106) #[] #[.pointer (some ⟨w4.heap.size, 0, none⟩), .pointer (some ⟨w4.heap.size + 1, 0, none⟩)], .int .i64 (x.1 : Int), .agg #[.int .i64 x.2.f0, .int .i64 x.2.f1, .int .i64 x.2.f2, .int .i64 x.2.f3], undef, undef, undef, undef, undef, undef, undef, undef, undef, undef, undef, undef, undef, undef, undef], defers := [] }) ?hAx ?assign ?body ?done ?stop
      case hKt => intro A B' C h1 h2 i hi; exact (h2 i hi).trans (h1 i hi)
      case hKb => intro W l o o' hl ho _ _ i hi; exact World.putObj_heap_other (by rw [HBS.out] at hl; omega)
      case hI =>
        rintro pre W W' row ⟨v2, hm, hl, h2, hb, hs⟩ hg hr
        rw [HBS.out] at hr
        have hlt : H + 1 + 1 < B := by omega
        refine ⟨v2, blk_grown hm hg (fun e => by have := (hr _ e.symm).1; omega), blk_grown hl hg (fun e => by have := (hr _ e.symm).1; omega), R_grown_walk rfl h2 hg (fun r e => (hr r e).2), hb.grown hg (by omega) (fun k e => by have := (hr k e).1; omega), Nat.le_trans hs hg.size⟩
      case h0 => exact ⟨_, M6.out, L6.out, Kd.R_nil _ _ _ _ _, Below.refl _ _, by rw [HBS.out]; exact Nat.le_refl _⟩
      case hAx =>
        rintro x a' _ W W' row ⟨Bx, hB1, hB2, rfl⟩ hg hr
        refine ⟨Bx, hB1, blk_grown hB2 hg ?_, rfl⟩
        intro e
        obtain ⟨_, o, ho, hc⟩ := hr _ e.symm
        rw [hB2] at ho; cases ho; cases hc
      case assign =>
        rintro l pre x W K ⟨v2, hm, hl, h2, hb, hs⟩ hK
        have hKK := Lib.hid hK
        clear hK
        simp only [encL]
        gi_wp2
        exact hKK.out _ _ ((KeepsOthers.alloc _ _).from _) (fun i hi => (below_alloc (Below.refl _ _) _).block i (by omega)) ⟨v2, blk_alloc hm _, blk_alloc hl _, Kd.R_alloc h2 _, hb.alloc (by omega) _, by simp; omega⟩ ⟨W.heap.size, hs, heap_alloc_new W _, rfl⟩
      case body =>
        rintro l pre x a' W _ _ ⟨v2, hm, hl, h2, hb, hs⟩ ⟨Bx, hB1, hB2, rfl⟩ hlen
        have hH' := HH'.out
        clear HH'
        subst hH'
        obtain ⟨A8, c8, rfl⟩ := Kd.R_slice h2
        have c10 : W.cell? ⟨w.heap.size + 1, 0, none⟩ = some (.int .i64 a2) := (blk_cell hm 0).trans rfl
        have b0 : W.cell? ⟨Bx, 0, none⟩ = some (.int .i64 x.2.f0) := (blk_cell hB2 0).trans rfl
        have b1 : W.cell? ⟨Bx, 1, none⟩ = some (.int .i64 x.2.f1) := (blk_cell hB2 1).trans rfl
        have b2 : W.cell? ⟨Bx, 2, none⟩ = some (.int .i64 x.2.f2) := (blk_cell hB2 2).trans rfl
        have b3 : W.cell? ⟨Bx, 3, none⟩ = some (.int .i64 x.2.f3) := (blk_cell hB2 3).trans rfl
        have hhB : w.heap.size + 1 + 1 < B := by omega
        cases hat : atBus a2 x.2 with
        | false =>
          have hat' := hat
          simp only [atBus, Bool.or_eq_false_iff, decide_eq_false_iff_not] at hat'
          have t1 : (x.2.f0 == a2) = false := beq_eq_false_iff_ne.2 hat'.1
          have t2 : (x.2.f1 == a2) = false := beq_eq_false_iff_ne.2 hat'.2
          have HAT := Lib.hid hat
          have HPP := Lib.hid (show ∃ v2, W.heap[w.heap.size + 1]? = some (.cells #[.int .i64 a2] 3 (0, 0)) ∧ W.heap[w.heap.size + 1 + 1]? = some (.cells #[v2] 25 (0, 0)) ∧ Kd.R (Kd.int .i64) 3 W B (fun _ => True) v2 (atF a2 (pre ++ [x])) ∧ Below w.heap.size w6 W ∧ B ≤ W.heap.size from ⟨_, hm, hl, by rw [atF_out hat]; exact h2, hb, hs⟩)
          clear hat' hat hm hl h2 hb hs hB2 hlen
          gi_wp2
          exact ⟨KeepsFrom.refl _ _, fun _ _ => rfl, HPP.out⟩
        | true =>
          obtain ⟨i0, hi, hz0, hz1, hz2⟩ := info_parts info3
          obtain ⟨X2, hX2⟩ : ∃ X2, X2 = atF a2 pre := ⟨_, rfl⟩
          have hx2 : X2.length ≤ 10 := by rw [hX2]; have h1 := atF_len a2 pre; have := (chk_ok (outsV_ok HV.out).1).2.2.1; omega
          rw [← hX2] at h2 hl
          have EX2 := Lib.hid hX2
          have HAT := Lib.hid hat
          have HM := Lib.hid hm
          have HL := Lib.hid hl
          have HOWN := Lib.hid (show W.ownsRow B 3 1 (.slice A8 X2.length c8) X2.length (X2.map (Value.int .i64)) from Kd.own_of_R h2)
          have R2 := Lib.hid h2
          have HBB := Lib.hid hb
          have HSS := Lib.hid hs
          have HLEN := Lib.hid hlen
          have c20 : W.cell? ⟨w.heap.size + 1 + 1, 0, none⟩ = some (.slice A8 X2.length c8) := (blk_cell hl 0).trans rfl
          have hss := hs
          clear hX2 hat hm hl h2 hb hs hB2 hlen
          by_cases t0 : x.2.f0 = a2
          · have t1 : (x.2.f0 == a2) = true := beq_iff_eq.2 t0
            clear t0
            gi_wp2_with (gi_at_builtin; refine wpListIn_append_own _ rfl _ _ 25 rfl B 3 i0 (.int .i64 0) 1 8 Try.underlying25 hi hz0 hz1 hz2 rfl (by decide) _ _ _ rfl (HOWN.out.alloc _) ⟨W.heap.size, 0, none⟩ 1 1 [.int .i64 (x.1 : Int)] rfl rfl (cell_one_new _ _ _) (by simp [Value.oneCell']) (by unfold maxLen; omega) (by omega) (by simp; omega) ?_; intro v' w5 hown' hgrow _; obtain ⟨g', cap', rfl⟩ := ownsRow_succ hown'; have hr5 := atR_of X2 (x.1 : Int) hown'; have hm5 := blk_grown (blk_alloc HM.out (.cells #[.int .i64 (x.1 : Int)] 3)) hgrow (fun e => by have := Kd.R_base R2.out _ e.symm; omega); have hl5 := blk_grown (blk_alloc HL.out (.cells #[.int .i64 (x.1 : Int)] 3)) hgrow (fun e => by have := Kd.R_base R2.out _ e.symm; omega); have ht5 := ((Tr.refl W : Tr w.heap.size B (w.heap.size + 1 + 1) (w.heap.size + 1 + 1) W W).alloc (.cells #[.int .i64 (x.1 : Int)] 3) HSS.out (by omega)).grown (Kd.R_alloc R2.out _) hgrow (by simp; omega) (by omega); have hsz5 := hgrow.size; have hc1 : w5.cell? ⟨w.heap.size + 1 + 1, 0, none⟩ = some (.slice A8 X2.length c8) := (blk_cell hl5 0).trans rfl; have hf1 := blk_frozen hl5 0; have G1 := Lib.hid hr5; have G2 := Lib.hid hm5; have G3 := Lib.hid hl5; have G4 := Lib.hid ht5; have G5 := Lib.hid hsz5; clear hown' hgrow hr5 hm5 hl5 ht5 hsz5)
            have ht6 := G4.out.set (w.heap.size + 1 + 1) 0 (.inl rfl) (by omega) (by omega) (.slice (some ⟨g', 0, none⟩) (X2.length + 1) cap')
            refine ⟨by rw [HBS.out]; exact ht6.kf, ht6.kp, _, blk_far (p := ⟨w.heap.size + 1 + 1, 0, none⟩) G2.out (by simp) _, blk_set G3.out 0 _, ?_, HBB.out.trans ht6.bl, by simp [World.setCell]; have := G5.out; simp at this; omega⟩
            rw [atF_in HAT.out, ← EX2.out]
            exact Kd.R_mono (Kd.R_far (Kd.R_reok (ok := fun k => k ≠ w.heap.size + 1 + 1) rfl G1.out (fun k e => by have := Kd.R_base G1.out k e; omega)) (fun k hk => hk) _) (fun _ _ => trivial)
          · have t1 : (x.2.f0 == a2) = false := beq_eq_false_iff_ne.2 t0
            have t2 : (x.2.f1 == a2) = true := beq_iff_eq.2 (by have := HAT.out; simp only [atBus, Bool.or_eq_true, decide_eq_true_eq] at this; exact this.resolve_left t0)
            clear t0
            gi_wp2_with (gi_at_builtin; refine wpListIn_append_own _ rfl _ _ 25 rfl B 3 i0 (.int .i64 0) 1 8 Try.underlying25 hi hz0 hz1 hz2 rfl (by decide) _ _ _ rfl (HOWN.out.alloc _) ⟨W.heap.size, 0, none⟩ 1 1 [.int .i64 (x.1 : Int)] rfl rfl (cell_one_new _ _ _) (by simp [Value.oneCell']) (by unfold maxLen; omega) (by omega) (by simp; omega) ?_; intro v' w5 hown' hgrow _; obtain ⟨g', cap', rfl⟩ := ownsRow_succ hown'; have hr5 := atR_of X2 (x.1 : Int) hown'; have hm5 := blk_grown (blk_alloc HM.out (.cells #[.int .i64 (x.1 : Int)] 3)) hgrow (fun e => by have := Kd.R_base R2.out _ e.symm; omega); have hl5 := blk_grown (blk_alloc HL.out (.cells #[.int .i64 (x.1 : Int)] 3)) hgrow (fun e => by have := Kd.R_base R2.out _ e.symm; omega); have ht5 := ((Tr.refl W : Tr w.heap.size B (w.heap.size + 1 + 1) (w.heap.size + 1 + 1) W W).alloc (.cells #[.int .i64 (x.1 : Int)] 3) HSS.out (by omega)).grown (Kd.R_alloc R2.out _) hgrow (by simp; omega) (by omega); have hsz5 := hgrow.size; have hc1 : w5.cell? ⟨w.heap.size + 1 + 1, 0, none⟩ = some (.slice A8 X2.length c8) := (blk_cell hl5 0).trans rfl; have hf1 := blk_frozen hl5 0; have G1 := Lib.hid hr5; have G2 := Lib.hid hm5; have G3 := Lib.hid hl5; have G4 := Lib.hid ht5; have G5 := Lib.hid hsz5; clear hown' hgrow hr5 hm5 hl5 ht5 hsz5)
            have ht6 := G4.out.set (w.heap.size + 1 + 1) 0 (.inl rfl) (by omega) (by omega) (.slice (some ⟨g', 0, none⟩) (X2.length + 1) cap')
            refine ⟨by rw [HBS.out]; exact ht6.kf, ht6.kp, _, blk_far (p := ⟨w.heap.size + 1 + 1, 0, none⟩) G2.out (by simp) _, blk_set G3.out 0 _, ?_, HBB.out.trans ht6.bl, by simp [World.setCell]; have := G5.out; simp at this; omega⟩
            rw [atF_in HAT.out, ← EX2.out]
            exact Kd.R_mono (Kd.R_far (Kd.R_reok (ok := fun k => k ≠ w.heap.size + 1 + 1) rfl G1.out (fun k e => by have := Kd.R_base G1.out k e; omega)) (fun k hk => hk) _) (fun _ _ => trivial)
      case done =>
        rintro D xs W hD hxs ⟨v2, hm, hl, h2, hb, hs⟩ hK
        have hH' := HH'.out
        clear HH'
        subst hH'
        obtain ⟨X2, hX2⟩ : ∃ X2, X2 = atF a2 xs := ⟨_, rfl⟩
        rw [← hX2] at h2
        have E2 := Lib.hid (show X2 = ((inn l0_1 l1).filter (fun (k : Nat) => atBus a2 (rd_T37 l0_1 (k : Int)))).map (fun (k : Nat) => (k : Int)) by rw [hX2, hxs, insF_inn, atF, List.filter_map, List.map_map]; rfl)
        clear hX2 hxs
        obtain ⟨A8, c8, rfl⟩ := Kd.R_slice h2
        have c20 : W.cell? ⟨w.heap.size + 1 + 1, 0, none⟩ = some (.slice A8 X2.length c8) := (blk_cell hl 0).trans rfl
        have f20 := blk_frozen hl 0
        have HL := Lib.hid hl
        have R2 := Lib.hid h2
        have HBB := Lib.hid hb
        have HSS := Lib.hid hs
        have HD := Lib.hid hD
        have HK := Lib.hid hK
        clear hm hl h2 hb hs hD hK
        gi_wp2
        rw [setCell_id (i := 0) (v := .slice A8 X2.length c8) HL.out rfl]
        refine ⟨by simp, .inl ⟨_, _, rfl, run_takeDeferred (w := W) HK.out, ?_⟩⟩
        have gD := grownBy_putObj' W D (.deferred none)
        have hrow : ∀ r, some D = some r → ∃ o : Obj, W.heap[r]? = some o ∧ o.isCells = false := fun r e => by cases e; exact ⟨_, HK.out, rfl⟩
        have hDw : w.heap.size + 1 + 1 < D := by have := HD.out; rw [HBS.out] at this; omega
        have hL2 := blk_grown HL.out gD (by simp; omega)
        have q2 := R_grown_walk rfl R2.out gD hrow
        have q3 : Below w.heap.size w (W.putObj D (.deferred none)) := (BW6.out.trans HBB.out).trans ((Below.refl _ _).grown gD (by have := HSS.out; omega) (fun k e => by cases e; omega))
        generalize W.putObj D (.deferred none) = Wf at hL2 q2 q3 ⊢
        clear c20 f20
        have d20 : Wf.cell? ⟨w.heap.size + 1 + 1, 0, none⟩ = some (.slice A8 X2.length c8) := (blk_cell hL2 0).trans rfl
        refine ⟨.tuple #[.slice A8 X2.length c8, .int .i64 0], ?_, ?_⟩
        · simp [results, Try.f71, go_sem, d20]
        · rw [← E2.out]
          exact ⟨_, rfl, Kd.R_lower q2 (by omega), q3⟩
      case stop =>
        rintro D c pre W _ _ h _
        exact h.elim
  · rw [net_At.f, if_neg hv] at h
    simp only [Option.some.injEq, Prod.mk.injEq] at h
    obtain ⟨rfl, rfl⟩ := h
    have hvb : (outsV a0_0 l0_1 l1 != 0) = true := by simpa using hv
    generalize outsV a0_0 l0_1 l1 = ev at HOF hvb ⊢
    clear hv
    go_enter Try.func71, Try.ntmps71
    go_wp2_with (go_at_call 31; refine (net_Outs.calls (l1.length + 1) a0_0 _ _ l0_1 _ _ l1 ev _ ?side1 hc0_1 ?side2 hc1 HOF.out).mono ?_; (case side1 => exact Kd.C_below HR0.out (((((Below.refl _ w).alloc (Nat.le_refl _) _).alloc (by simp) _).alloc (by simp; omega) _))); (case side2 => exact Kd.C_below HR1.out (((((Below.refl _ w).alloc (Nat.le_refl _) _).alloc (by simp) _).alloc (by simp; omega) _))); rintro e w4 ⟨rfl, hb4⟩; obtain ⟨k0, k1, k2, hsz, hbw⟩ := boxes3 hb4; have K0 := Lib.hid k0; have K1 := Lib.hid k1; have K2 := Lib.hid k2; have HBW := Lib.hid hbw; clear hb4 k0 k1 k2 hbw; have c00 : w4.cell? ⟨w.heap.size, 0, none⟩ = some (.int .i64 a0_0) := (blk_cell K0.out 0).trans rfl; have c10 : w4.cell? ⟨w.heap.size + 1, 0, none⟩ = some (.int .i64 a2) := (blk_cell K1.out 0).trans rfl; have c20 : w4.cell? ⟨w.heap.size + 1 + 1, 0, none⟩ = some (.slice none 0 0) := (blk_cell K2.out 0).trans rfl; have f20 := blk_frozen K2.out 0)
    rw [setCell_id (i := 0) (v := .slice none 0 0) K2.out rfl]
    exact bodyPost_ret (v := .tuple #[.slice none 0 0, .int .i64 ev]) (by simp [results, Try.f71, go_sem, c20]) rfl ⟨_, rfl, Kd.R_nil _ _ _ _ _, HBW.out⟩

end Go.Proofs.Ytdpgdelimffjpaa.P
