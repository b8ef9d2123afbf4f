import Derived.Test.YtdpgdelimffjpaaFBase
import Derived.Test.YtdpgdelimffjpaaF107
import Derived.RangeFuncNested
import Derived.RangeFuncBound
import Derived.RangeFuncCalls
import Derived.RangeFuncLeaves
import Derived.Shelf.Abstract
import Derived.Shelf.RegionOpen
import Derived.WalkKit
import Derived.OwnWalkIn
import Derived.TacticsInMore
import Derived.LoopNIn
import Derived.LoopIn
import Derived.Lib.Hide
namespace Go.Proofs.Ytdpgdelimffjpaa.P
open Go.RowKit Go.Proofs.YtdpgdelimffjpaaW.PrintWords Go.Proofs.YtdpgdelimffjpaaW.PrintLast Go.Proofs.YtdpgdelimffjpaaW.PrintMore
attribute [local go_sem] max2_int min2_int max_two min_two max_three min_three max_four min_four
set_option linter.unusedVariables false
set_option linter.unusedSimpArgs false
attribute [local go_sem] Oper.semAt_some
def insF (fnd : Nat → Bool) (L : List S37) (k : Nat) : List (Nat × S37) := ((List.range k).filter (fun j => !fnd j)).map (fun j => (j, rd_T37 L (j : Int)))
theorem insF_succ_in {fnd : Nat → Bool} {L : List S37} {k : Nat} (h : fnd k = false) : insF fnd L (k + 1) = insF fnd L k ++ [(k, rd_T37 L (k : Int))] := by
  simp [insF, List.range_succ, List.filter_append, h]
theorem insF_succ_out {fnd : Nat → Bool} {L : List S37} {k : Nat} (h : fnd k = true) : insF fnd L (k + 1) = insF fnd L k := by
  simp [insF, List.range_succ, List.filter_append, h]
theorem insF_length {fnd : Nat → Bool} {L : List S37} (k : Nat) : (insF fnd L k).length ≤ k := by
  simp only [insF, List.length_map]
  exact Nat.le_trans (List.length_filter_le _ _) (by simp)
def encL (x : Nat × S37) : Array Value := #[.int .i64 (x.1 : Int), .agg #[.int .i64 x.2.f0, .int .i64 x.2.f1, .int .i64 x.2.f2, .int .i64 x.2.f3]]
def KpS (S : Nat → Prop) (W W' : World) : Prop := ∀ i, S i → W'.heap[i]? = W.heap[i]?
theorem KpS_lt {S : Nat → Prop} {w0 W : World} (h : ∀ i, S i → i < w0.heap.size) (hk : KpS S w0 W) : ∀ i, S i → i < W.heap.size := fun i hi => by
  have e := hk i hi
  rw [Array.getElem?_eq_getElem (h i hi)] at e
  exact (Array.getElem?_eq_some_iff.1 e).1
set_option maxRecDepth 100000 in
set_option maxHeartbeats 4000000 in
theorem in_iter (S : Nat → Prop) (w0 : World) (bn bo : Nat) (a0 : Int) (A0 : Option Addr) (c0 : Nat) (L : List S37) (A1 : Option Addr) (c1 : Nat) (out : List Int) (fnd : Nat → Bool)
    (hlen : L.length ≤ 100) (hlen2 : L.length ≤ c0)
    (hf : ∀ k, k < L.length → ∃ kk r, slices_BinarySearch_int_int.f kk out (k : Int) = some (r, fnd k))
    (hSn : S bn) (hSo : S bo) (hco : out.length ≤ c1)
    (hbn : ∀ W, KpS S w0 W → W.heap[bn]? = some (.cells #[.int .i64 a0, .slice A0 L.length c0] 24 (0, 0)))
    (hbo : ∀ W, KpS S w0 W → W.heap[bo]? = some (.cells #[.slice A1 out.length c1] 25 (0, 0)))
    (hL : ∀ W, KpS S w0 W → Kd.C k37 W A0 L.length L) (hout : ∀ W, KpS S w0 W → Kd.C (Kd.int .i64) W A1 out.length out)
    (l : Nat) (J Jx : List (Nat × S37) → World → Prop) (W : World) (hKW : KpS S w0 W)
    (hSlt : ∀ i, S i → i < w0.heap.size)
    (hJ : AbidesFrom W.heap.size J)
    (hY : ∀ pre x W1, J pre W1 → pre.length < L.length → YieldAt Fence.wide 1 Try.prog l (encL x) W1 fun e W' =>
      (e = .returned (.bool true) ∧ J (pre ++ [x]) W' ∧ KpS S W1 W') ∨ (e = .returned (.bool false) ∧ Jx (pre ++ [x]) W'))
    (h0 : J [] W) :
    CallsIn Fence.wide 2 Try.prog 106 (#[.func (.yield l) #[] #[]] ++ #[.pointer (some ⟨bn, 0, none⟩), .pointer (some ⟨bo, 0, none⟩)]) W fun e W' => (∃ v, e = .returned v) ∧
      ((∃ xs, xs = insF fnd L L.length ∧ J xs W') ∨ (∃ pre, True ∧ Jx pre W')) := by
  refine callsIn_of_wp Try.func106 rfl trivial ?_ rfl
  simp only [Try.ntmps106, List.size_toArray, List.length_cons, List.length_nil, Nat.reduceAdd, Nat.reduceSub, Array.replicate_succ, Array.replicate_zero, List.push_toArray, List.append_toArray, List.nil_append, List.cons_append]
  have hu24 := Try.underlying24
  have hu37 := Try.underlying37
  have x0 : W.cell? ⟨bn, 1, none⟩ = some (.slice A0 L.length c0) := (blk_cell (hbn W hKW) 1).trans rfl
  have HN := Lib.hid hbn
  have HO := Lib.hid hbo
  have HL := Lib.hid hL
  have HOUT := Lib.hid hout
  have HF := Lib.hid hf
  have HJ := Lib.hid hJ
  have HY := Lib.hid hY
  have HKW := Lib.hid hKW
  have HLT := Lib.hid hSlt
  clear hbn hbo hL hout hf hJ hY hKW hSlt
  have H0 := Lib.hid h0
  clear h0
  gi_wp2
  gi_loopw [11] (fun i wr => ∃ k : Nat, k ≤ L.length ∧ i = .int .i64 k ∧ Hid (J (insF fnd L k) wr ∧ KpS S w0 wr)) (fun i _ => L.length - (intOf i).toNat)
  case atStart => exact ⟨0, Nat.zero_le _, rfl, H0.out, HKW.out⟩
  case round =>
    obtain ⟨k, hk, rfl, HR⟩ := hrel
    by_cases hlt : k < L.length
    · have hlt2 : (k : Int) < (L.length : Int) := by omega
      obtain ⟨ad, rfl, e0, e1, e2, e3⟩ := at_T37 (HL.out wr HR.out.2) (k : Int) (by omega) hlt2
      rw [Int.toNat_natCast] at e0 e1 e2 e3
      have y0 : wr.cell? ⟨bo, 0, none⟩ = some (.slice A1 out.length c1) := (blk_cell (HO.out wr HR.out.2) 0).trans rfl
      obtain ⟨x, hx⟩ : ∃ x, x = rd_T37 L (k : Int) := ⟨_, rfl⟩
      rw [← hx] at e0 e1 e2 e3
      have HX := Lib.hid hx
      clear hx
      have hbo : bo < wr.heap.size := World.block_lt_of_cell? wr _ y0
      obtain ⟨kk, r, hsr⟩ := HF.out k hlt
      have HSR := Lib.hid hsr
      clear hsr
      have hz := Lib.hid (fun o => (HOUT.out wr HR.out.2).imp_ ((Below.refl _ _).alloc (Nat.le_refl _) o) (fun _ _ hp => (Kd.int .i64).K_below ((Below.refl _ _).alloc (Nat.le_refl _) o) hp) : ∀ o, Kd.C (Kd.int .i64) (wr.alloc o) A1 out.length out)
      generalize hfk : fnd k = fk at HSR
      have HFK := Lib.hid hfk
      clear hfk
      have hJB : ∀ o nd, J (insF fnd L k) ((wr.alloc o).drewN nd) := fun o nd => HJ.out _ wr _ none HR.out.1 (grown_of_below (pw_below_drewN (below_alloc (Below.refl _ _) o) nd) none) (fun r h => by cases h)
      have HJB := Lib.hid hJB
      clear hJB
      have hKP : ∀ o nd, KpS S w0 ((wr.alloc o).drewN nd) := fun o nd i hi => ((below_alloc (Below.refl _ _) o).block i (KpS_lt HLT.out HR.out.2 i hi)).trans (HR.out.2 i hi)
      have HKP := Lib.hid hKP
      clear hKP
      cases fk with
      | true =>
        gi_wp2_with (refine ⟨trivial, ?_⟩; gi_at_call 107; refine (callsIn_wide.2 (slices_BinarySearch_int_int.calls kk _ _ out _ r _ _ (hz.out _) hco HSR.out)).mono ?_; rintro e w5 ⟨rfl, ⟨⟨nd, rfl⟩⟩⟩)
        refine ⟨fun _ h => (by cases h), ?_⟩
        gi_wp2
        go_roundw
        case rel => exact ⟨k + 1, by omega, by go_num, by rw [insF_succ_out HFK.out]; exact HJB.out _ nd, HKP.out _ nd⟩
        case measure => simp [intOf]; omega
      | false =>
        gi_wp2_with (refine ⟨trivial, ?_⟩; gi_at_call 107; refine (callsIn_wide.2 (slices_BinarySearch_int_int.calls kk _ _ out _ r _ _ (hz.out _) hco HSR.out)).mono ?_; rintro e w5 ⟨rfl, ⟨⟨nd, rfl⟩⟩⟩; obtain ⟨fn, tmps, assign, body, hy, hRo⟩ := HY.out (insF fnd L k) (k, x) _ (HJB.out (.cells #[.int .i64 x.f0, .int .i64 x.f1, .int .i64 x.f2, .int .i64 x.f3] 37) nd) (Nat.lt_of_le_of_lt (insF_length k) hlt); dsimp only [encL] at hy; have HRO := Lib.hid hRo; clear hRo)
        refine HRO.out.mono ?_
        rintro e W3 (⟨rfl, hJ3, hk3⟩ | ⟨rfl, hJx3⟩)
        · have HJ3 := Lib.hid hJ3
          have HK3 := Lib.hid hk3
          clear hJ3 hk3
          gi_wp2
          go_roundw
          case rel => exact ⟨k + 1, by omega, by go_num, by rw [insF_succ_in HFK.out, ← HX.out]; exact HJ3.out, fun i hi => (HK3.out i hi).trans (HKP.out _ nd i hi)⟩
          case measure => simp [intOf]; omega
        · have HJ3 := Lib.hid hJx3
          clear hJx3
          gi_wp2
          refine bodyPost_ret (results_none rfl _ _ _) rfl ?_
          exact ⟨⟨_, rfl⟩, .inr ⟨_, trivial, HJ3.out⟩⟩
    · obtain rfl : k = L.length := by omega
      gi_wp2
      go_end0
      exact ⟨⟨_, rfl⟩, .inl ⟨_, rfl, HR.out.1⟩⟩

theorem in_calls (a0 : Int) (A0 : Option Addr) (n0 c0 : Nat) (A1 : Option Addr) (n1 c1 : Nat) (w : World) :
    Calls Try.prog 84 #[.agg #[.int .i64 a0, .slice A0 n0 c0], .slice A1 n1 c1] w fun e w' => e = .returned (.func (.func 106) #[] #[.pointer (some ⟨w.heap.size, 0, none⟩), .pointer (some ⟨w.heap.size + 1, 0, none⟩)]) ∧
      Below w.heap.size w w' ∧ w'.heap.size = w.heap.size + 2 ∧ w'.heap[w.heap.size]? = some (.cells #[.int .i64 a0, .slice A0 n0 c0] 24 (0, 0)) ∧ w'.heap[w.heap.size + 1]? = some (.cells #[.slice A1 n1 c1] 25 (0, 0)) := by
  have hu24 := Try.underlying24
  go_enter Try.func84, Try.ntmps84
  go_wp2
  go_ret
  generalize hA : w.alloc (.cells #[.int .i64 a0, .slice A0 n0 c0] 24) = wA
  have hsA : wA.heap.size = w.heap.size + 1 := by rw [← hA]; simp
  have bA : wA.heap[w.heap.size]? = some (.cells #[.int .i64 a0, .slice A0 n0 c0] 24 (0, 0)) := by rw [← hA]; exact heap_alloc_new w _
  have hbA : Below w.heap.size w wA := by rw [← hA]; exact (Below.refl _ _).alloc (Nat.le_refl _) _
  refine ⟨rfl, hbA.alloc (by omega) _, by simp [hsA], blk_alloc bA _, ?_⟩
  rw [← hsA]; exact heap_alloc_new wA _
end Go.Proofs.Ytdpgdelimffjpaa.P
