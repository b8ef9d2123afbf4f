-- Written by wip/drive.py (a prover's driver over the kit's print.py); hand-proved contracts stand among the printed ones. Lean checks it.
import Derived.Test.YtdpgdelimffjpaaFBase
import Derived.Test.YtdpgdelimffjpaaF31
import Derived.Test.YtdpgdelimffjpaaHTr
import Derived.Test.YtdpgdelimffjpaaHBoxes
import Derived.RangeFuncBox
import Derived.Lib.Hide
namespace Go.Proofs.Ytdpgdelimffjpaa.P
open Go.RowKit Go.Proofs.YtdpgdelimffjpaaW.PrintWords Go.Proofs.YtdpgdelimffjpaaW.PrintLast Go.Proofs.YtdpgdelimffjpaaW.PrintMore
attribute [local go_sem] max2_int min2_int max_two min_two max_three min_three max_four min_four   -- for this text's walks alone
set_option linter.unusedVariables false
set_option linter.unusedSimpArgs false

/-! ### net_Strip: function 32: by hand -/
-- import Derived.Test.YtdpgdelimffjpaaHTr
-- import Derived.Test.YtdpgdelimffjpaaHBoxes
-- import Derived.RangeFuncBox
-- import Derived.Lib.Hide
attribute [local go_sem] Oper.semAt_some
def net_Strip.f (a0_0 : Int) (l0_1 : List (S37)) (l1 : List Int) : Option (Int × (List (S37)) × List Int × Int) :=
  if outsV a0_0 l0_1 l1 = 0 then some (a0_0, (inn l0_1 l1).map (fun (k : Nat) => rd_T37 l0_1 (k : Int)), (inn l0_1 l1).map (fun (k : Nat) => (k : Int)), 0) else some (0, [], [], outsV a0_0 l0_1 l1)
structure Fx (a0 : Int) (H B Bx : Nat) (x : S37) (b1 b2 : Value) (X2 : List Int) (W : World) (vr : Value) (Xr : List S37) (Y : World) : Prop where
  m : Y.heap[H + 1]? = some (.cells #[.int .i64 a0, b1] 24 (0, 0))
  l : Y.heap[H + 1 + 1]? = some (.cells #[b2] 25 (0, 0))
  r1 : Kd.R k37 37 Y B (fun _ => True) vr Xr
  r2 : Kd.R (Kd.int .i64) 3 Y B (fun _ => True) b2 X2
  bx : Y.heap[Bx]? = some (.cells #[.int .i64 x.f0, .int .i64 x.f1, .int .i64 x.f2, .int .i64 x.f3] 37 (0, 0))
  tr : Tr H B (H + 1) (H + 1 + 1) W Y
  sz : B ≤ Y.heap.size
section
variable {a0 : Int} {H B Bx : Nat} {x : S37} {b1 b2 : Value} {X2 : List Int} {W : World} {vr : Value} {Xr : List S37} {Y Z : World}
theorem Fx.alloc (h : Fx a0 H B Bx x b1 b2 X2 W vr Xr Y) (hH : H ≤ B) (o : Obj) : Fx a0 H B Bx x b1 b2 X2 W vr Xr (Y.alloc o) :=
  ⟨blk_alloc h.m _, blk_alloc h.l _, Kd.R_alloc h.r1 _, Kd.R_alloc h.r2 _, blk_alloc h.bx _, h.tr.alloc o h.sz hH, by have := h.sz; simp; omega⟩
theorem Fx.append {X1 : List S37} {v' : Value} {X' : List S37} (h : Fx a0 H B Bx x b1 b2 X2 W b1 X1 Y) (hH : H ≤ B) (hne : some Bx ≠ b1.ownBlock) (hg : Y.grownBy Z b1.ownBlock) (hr : Kd.R k37 37 Z B (fun _ => True) v' X') : Fx a0 H B Bx x b1 b2 X2 W v' X' Z :=
  ⟨blk_grown h.m hg (Kd.R_ne h.r1 h.m (by decide)), blk_grown h.l hg (Kd.R_ne h.r1 h.l (by decide)), hr, Kd.R_over' h.r2 (Kd.R_typed h.r1) (by decide) hg, blk_grown h.bx hg hne, h.tr.grown h.r1 hg h.sz hH, Nat.le_trans h.sz hg.size⟩
theorem Fx.held (h : Fx a0 H B Bx x b1 b2 X2 W vr Xr Y) : Y.cell? ⟨H + 1, 1, none⟩ = some b1 ∧ Y.cell? ⟨H + 1 + 1, 0, none⟩ = some b2 ∧ Y.cell? ⟨Bx, 0, none⟩ = some (.int .i64 x.f0) ∧ Y.cell? ⟨Bx, 1, none⟩ = some (.int .i64 x.f1) ∧ Y.cell? ⟨Bx, 2, none⟩ = some (.int .i64 x.f2) ∧ Y.cell? ⟨Bx, 3, none⟩ = some (.int .i64 x.f3) :=
  ⟨(blk_cell h.m 1).trans rfl, (blk_cell h.l 0).trans rfl, (blk_cell h.bx 0).trans rfl, (blk_cell h.bx 1).trans rfl, (blk_cell h.bx 2).trans rfl, (blk_cell h.bx 3).trans rfl⟩
theorem news_at {W : World} {g : Nat} {cs : List Value} {t : TypeId} (h : W.heap[g]? = some (.cells cs.toArray t (0, 0))) : ∀ j u, cs[j]? = some u → W.cell? ((⟨g, 0, none⟩ : Addr).add j) = some u := fun j u hu => by
  rw [add_plain, blk_cell h j]; simpa using hu
end
set_option maxRecDepth 100000 in
set_option maxHeartbeats 4000000 in
theorem net_Strip.calls (a0_0 : Int) (A0_1 : Option Addr) (c0_1 : Nat) (l0_1 : List (S37)) (A1 : Option Addr) (c1 : Nat) (l1 : List Int) (r1 : Int) (r2 : List (S37)) (r3 : List Int) (r4 : Int) (w : World) (hr0_1 : Kd.C k37 w A0_1 l0_1.length l0_1) (hc0_1 : l0_1.length ≤ c0_1) (hr1 : Kd.C (Kd.int .i64) w A1 l1.length l1) (hc1 : l1.length ≤ c1) (h : net_Strip.f a0_0 l0_1 l1 = some (r1, r2, r3, r4)) :
    Calls Try.prog 32 #[.agg #[.int .i64 a0_0, .slice A0_1 l0_1.length c0_1], .slice A1 l1.length c1] w fun e w' => ∃ v1_ v2_ : Value, e = .returned (.tuple #[.agg #[.int .i64 r1, v1_], v2_, .int .i64 r4]) ∧ Kd.R k37 37 w' w.heap.size (fun _ => True) v1_ r2 ∧ Kd.R (Kd.int .i64) 3 w' w.heap.size (fun _ => True) v2_ r3 ∧ Below w.heap.size w w' := by
  have hu24 := Try.underlying24
  have hu37 := Try.underlying37
  have hob : l1.length ≤ 9223372036854775807 := hr1.2.1
  have HOF := Lib.hid (outs_f a0_0 l0_1 l1 hob (l1.length + 1) (by omega))
  have HR0 := Lib.hid hr0_1
  have HR1 := Lib.hid hr1
  clear hr0_1 hr1 hob
  by_cases hv : outsV a0_0 l0_1 l1 = 0
  · rw [net_Strip.f, if_pos hv] at h
    simp only [Option.some.injEq, Prod.mk.injEq] at h
    obtain ⟨rfl, rfl, rfl, rfl⟩ := h
    rw [hv] at HOF
    have HV := Lib.hid hv
    clear hv
    refine (callsIn_wide (n := 3)).1 ?_
    refine callsIn_of_wp_marks Try.func32 rfl trivial ?_ rfl
    simp only [Try.ntmps32, List.size_toArray, List.length_cons, List.length_nil, Nat.reduceAdd, Nat.reduceSub, Array.replicate_succ, Array.replicate_zero, List.push_toArray, List.append_toArray, List.nil_append, List.cons_append]
    gi_wp2_with (refine ⟨trivial, ?_⟩; refine (callsIn_wide.2 (net_Outs.calls (l1.length + 1) a0_0 _ _ l0_1 _ _ l1 0 _ ?side1 hc0_1 ?side2 hc1 HOF.out)).mono ?_; (case side1 => exact Kd.C_below HR0.out (((((Below.refl _ w).alloc (Nat.le_refl _) _).alloc (by simp) _).alloc (by simp; omega) _))); (case side2 => exact Kd.C_below HR1.out (((((Below.refl _ w).alloc (Nat.le_refl _) _).alloc (by simp) _).alloc (by simp; omega) _))); rintro e w4 ⟨rfl, hb4⟩; obtain ⟨k0, k1, k2, hsz, hbw⟩ := boxes3 hb4; have K0 := Lib.hid k0; have K1 := Lib.hid k1; have K2 := Lib.hid k2; have HBW := Lib.hid hbw; clear hb4 k0 k1 k2 hbw; have c00 : w4.cell? ⟨w.heap.size, 0, none⟩ = some (.int .i64 a0_0) := (blk_cell K0.out 0).trans rfl; have c01 : w4.cell? ⟨w.heap.size, 1, none⟩ = some (.slice A0_1 l0_1.length c0_1) := (blk_cell K0.out 1).trans rfl; have c10 : w4.cell? ⟨w.heap.size + 1, 0, none⟩ = some (.int .i64 0) := (blk_cell K1.out 0).trans rfl; have f10 := blk_frozen K1.out 0)
    have hbm : w4.heap[w.heap.size + 1]? = some (.cells #[.int .i64 0, .slice none 0 0] 24 (0, 0)) := K1.out
    have m1 := blk_set hbm 0 (.int .i64 a0_0)
    have l1' := blk_far (p := ⟨w.heap.size + 1, 0, none⟩) K2.out (by simp) (.int .i64 a0_0)
    have bw5 : Below w.heap.size w (w4.setCell ⟨w.heap.size + 1, 0, none⟩ (.int .i64 a0_0)) := HBW.out.setCell (p := ⟨w.heap.size + 1, 0, none⟩) (by simp) _
    have sz5 : (w4.setCell ⟨w.heap.size + 1, 0, none⟩ (.int .i64 a0_0)).heap.size = w4.heap.size := by simp [World.setCell]
    have M1 := Lib.hid m1
    have L1 := Lib.hid l1'
    have BW5 := Lib.hid bw5
    have SZ5 := Lib.hid sz5
    clear hbm m1 l1' bw5 sz5 c00 c01 c10 f10
    gi_wp2_with (refine ⟨trivial, ?_⟩; refine (callsIn_wide.2 (in_calls _ _ _ _ _ _ _ _)).mono ?_; rintro e w6 ⟨rfl, hb6, hs6, n6, o6⟩; generalize w4.setCell ⟨w.heap.size + 1, 0, none⟩ (.int .i64 a0_0) = w5 at hb6 hs6 n6 o6 M1 L1 BW5 SZ5 ⊢; have HB6 := Lib.hid hb6; have HS6 := Lib.hid hs6; have N6 := Lib.hid n6; have O6 := Lib.hid o6; clear hb6 hs6 n6 o6)
    obtain ⟨B, hB⟩ : ∃ B, B = w6.heap.size := ⟨_, rfl⟩
    obtain ⟨H, hH⟩ : ∃ H, H = w.heap.size := ⟨_, rfl⟩
    have hBn : w5.heap.size + 2 = B := by rw [hB]; exact HS6.out.symm
    have hH5 : H + 3 ≤ w5.heap.size := by rw [hH]; have := SZ5.out; omega
    have bw6 : Below H w w6 := by rw [hH]; exact BW5.out.trans (HB6.out.mono (by rw [SZ5.out]; omega))
    have m6 : w6.heap[H + 1]? = some (.cells #[.int .i64 a0_0, .slice none 0 0] 24 (0, 0)) := by rw [hH]; exact blk_below (o := .cells #[.int .i64 a0_0, .slice none 0 0] 24 (0, 0)) M1.out HB6.out
    have l6 : w6.heap[H + 1 + 1]? = some (.cells #[.slice none 0 0] 25 (0, 0)) := by rw [hH]; exact blk_below L1.out HB6.out
    have hkc : ∀ W, KpS (fun i => i < B ∧ i ≠ H + 1 ∧ i ≠ H + 1 + 1) w6 W → ∀ k, k < w.heap.size → W.heap[k]? = w.heap[k]? := fun W hk k hlt => (hk k ⟨by omega, by omega, by omega⟩).trans (bw6.block k (by omega))
    have hseq : SeqStopsK Fence.wide 2 Try.prog 106 #[.pointer (some ⟨w5.heap.size, 0, none⟩), .pointer (some ⟨w5.heap.size + 1, 0, none⟩)] encL (KpS (fun i => i < B ∧ i ≠ H + 1 ∧ i ≠ H + 1 + 1)) (fun xs => xs = insF (fun k => l1.contains (k : Int)) l0_1 l0_1.length) (fun _ => True) l0_1.length w6 := by
      intro l J Jx W hW hJ hJx hY h0
      obtain ⟨hck, hri, _⟩ := outsV_ok HV.out
      have hL10 := (chk_ok hck).2.2.1
      have hol := outsV_len HV.out
      refine in_iter _ w6 w5.heap.size (w5.heap.size + 1) a0_0 A0_1 c0_1 l0_1 A1 c1 l1 _ (by omega) hc0_1 (fun k _ => bs_f l1 (k : Int) (by omega) hri) ⟨by omega, by omega, by omega⟩ ⟨by omega, by omega, by omega⟩ hc1 ?_ ?_ ?_ ?_ l J Jx W (fun i hi => hW.block i (by rw [← hB]; exact hi.1)) (fun i hi => by rw [← hB]; exact hi.1) hJ hY h0
      · intro W hk; exact (hk _ ⟨by omega, by omega, by omega⟩).trans N6.out
      · intro W hk; exact (hk _ ⟨by omega, by omega, by omega⟩).trans O6.out
      · intro W hk; exact Kd.Heap.C (Kd.heap_iso _ (Kd.heap_pair (Kd.heap_int _) (Kd.heap_pair (Kd.heap_int _) (Kd.heap_pair (Kd.heap_int _) (Kd.heap_int _))))) (hkc W hk) HR0.out
      · intro W hk; exact Kd.Heap.C (Kd.heap_int _) (hkc W hk) HR1.out
    have HSEQ := Lib.hid hseq
    have HB' := Lib.hid hB
    have HH' := Lib.hid hH
    have BW6 := Lib.hid bw6
    have M6 := Lib.hid m6
    have L6 := Lib.hid l6
    clear hseq hB hH bw6 m6 l6 hkc
    have hbs : w6.heap.size = B := HB'.out.symm
    have HBS := Lib.hid hbs
    clear hbs
    refine wpIn_rangeFunc_ownH (F := Fence.wide) (n := 3) rfl (by omega) (gf := 106) (lb := #[.pointer (some ⟨w5.heap.size, 0, none⟩), .pointer (some ⟨w5.heap.size + 1, 0, none⟩)]) rfl trivial (enters_of Try.func106 (by kernel_rfl) rfl)
      (encs := encL) (Kp := KpS (fun i => i < B ∧ i ≠ H + 1 ∧ i ≠ H + 1 + 1)) HSEQ.out ?hKt ?hKb (Below.refl _ _) (fun _ => rfl)
      (fun pre W => ∃ v1 v2, W.heap[H + 1]? = some (.cells #[.int .i64 a0_0, v1] 24 (0, 0)) ∧ W.heap[H + 1 + 1]? = some (.cells #[v2] 25 (0, 0)) ∧ Kd.R k37 37 W B (fun _ => True) v1 (pre.map (fun p => p.2)) ∧ Kd.R (Kd.int .i64) 3 W B (fun _ => True) v2 (pre.map (fun p => (p.1 : Int))) ∧ Below H w6 W ∧ B ≤ W.heap.size)
      (fun _ _ _ => False) ?hI (fun _ _ _ _ _ hs _ _ => hs) ?h0
      (fun x a' W => ∃ Bx, B ≤ Bx ∧ W.heap[Bx]? = some (.cells #[.int .i64 x.2.f0, .int .i64 x.2.f1, .int .i64 x.2.f2, .int .i64 x.2.f3] 37 (0, 0)) ∧ (H + 1 < W.heap.size ∧ ∀ v, W.heap[H + 1]? = some (.cells #[.int .i64 a0_0, v] 24 (0, 0)) → some Bx ≠ v.ownBlock) ∧ a' = { tmps := #[.agg #[.int .i64 a0_0, .slice A0_1 l0_1.length c0_1], .slice A1 l1.length c1, .pointer (some ⟨w.heap.size, 0, none⟩), undef, .pointer (some ⟨w.heap.size + 1, 0, none⟩), .pointer (some ⟨w.heap.size + 1 + 1, 0, none⟩), .int .i64 0, .int .i64 0, .int .i64 (x.1 : Int), .pointer (some ⟨Bx, 0, none⟩), .agg #[.int .i64 a0_0, .slice A0_1 l0_1.length c0_1], .slice A1 l1.length c1, .int .i64 0, .int .i64 0, .bool false, undef, undef, .pointer (some ⟨w.heap.size, 0, none⟩), .int .i64 a0_0, .pointer (some ⟨w.heap.size + 1, 0, none⟩), .agg #[.int .i64 a0_0, .slice A0_1 l0_1.length c0_1], .slice A1 l1.length c1, .func (.func 106) #[] #[.pointer (some ⟨w5.heap.size, 0, none⟩), .pointer (some ⟨w5.heap.size + 1, 0, none⟩)], .int .i64 (x.1 : Int), .agg #[.int .i64 x.2.f0, .int .i64 x.2.f1, .int .i64 x.2.f2, .int .i64 x.2.f3], undef, undef, undef, undef, undef, undef, undef, undef, undef, undef, undef, undef], defers := [] }) ?hAx ?assign ?body ?done ?stop
    case hKt => intro A B' C h1 h2 i hi; exact (h2 i hi).trans (h1 i hi)
    case hKb => intro W l o o' hl ho _ _ i hi; exact World.putObj_heap_other (by rw [HBS.out] at hl; omega)
    case hI =>
      rintro pre W W' row ⟨v1, v2, hm, hl, h1, h2, hb, hs⟩ hg hr
      rw [HBS.out] at hr
      have hlt : H + 1 + 1 < B := by omega
      refine ⟨v1, v2, blk_grown hm hg (fun e => by have := (hr _ e.symm).1; omega), blk_grown hl hg (fun e => by have := (hr _ e.symm).1; omega), R_grown_walk rfl h1 hg (fun r e => (hr r e).2), R_grown_walk rfl h2 hg (fun r e => (hr r e).2), hb.grown hg (by omega) (fun k e => by have := (hr k e).1; omega), Nat.le_trans hs hg.size⟩
    case h0 => exact ⟨_, _, M6.out, L6.out, Kd.R_nil _ _ _ _ _, Kd.R_nil _ _ _ _ _, Below.refl _ _, by rw [HBS.out]; exact Nat.le_refl _⟩
    case hAx =>
      rintro x a' _ W W' row ⟨Bx, hB1, hB2, ⟨hne1, hne⟩, rfl⟩ hg hr
      rw [HBS.out] at hr
      refine ⟨Bx, hB1, blk_grown hB2 hg ?_, ⟨Nat.lt_of_lt_of_le hne1 hg.size, fun v hv => hne v ((hg.block (H + 1) hne1 (fun e => by have := (hr _ e.symm).1; omega)).symm.trans hv)⟩, rfl⟩
      intro e
      obtain ⟨_, o, ho, hc⟩ := hr _ e.symm
      rw [hB2] at ho; cases ho; cases hc
    case assign =>
      rintro l pre x W K ⟨v1, v2, hm, hl, h1, h2, hb, hs⟩ hK
      have hKK := Lib.hid hK
      clear hK
      simp only [encL]
      gi_wp2
      refine hKK.out _ _ ((KeepsOthers.alloc _ _).from _) (fun i hi => (below_alloc (Below.refl _ _) _).block i (by omega)) ⟨v1, v2, blk_alloc hm _, blk_alloc hl _, Kd.R_alloc h1 _, Kd.R_alloc h2 _, hb.alloc (by omega) _, by simp; omega⟩ ⟨W.heap.size, hs, heap_alloc_new W _, ⟨by simp; omega, fun v hv => ?_⟩, rfl⟩
      rw [blk_alloc hm] at hv
      simp only [Option.some.injEq, Obj.cells.injEq, Array.mk.injEq, List.cons.injEq, and_true, true_and] at hv
      subst hv
      intro e
      have := Kd.R_lt h1 _ e.symm
      omega
    case body =>
      rintro l pre x a' W _ _ ⟨v1, v2, hm, hl, h1, h2, hb, hs⟩ ⟨Bx, hB1, hB2, ⟨_, hne⟩, rfl⟩ hlen
      have hH' := HH'.out
      clear HH'
      subst hH'
      obtain ⟨A7, c7, rfl⟩ := Kd.R_slice h1
      obtain ⟨A8, c8, rfl⟩ := Kd.R_slice h2
      have c10 : W.cell? ⟨w.heap.size + 1, 0, none⟩ = some (.int .i64 a0_0) := (blk_cell hm 0).trans rfl
      gi_wp2
      have c11 : W.cell? ⟨w.heap.size + 1, 1, none⟩ = some (.slice A7 (pre.map (fun p => p.2)).length c7) := (blk_cell hm 1).trans rfl
      have c20 : W.cell? ⟨w.heap.size + 1 + 1, 0, none⟩ = some (.slice A8 (pre.map (fun p => (p.1 : Int))).length c8) := (blk_cell hl 0).trans rfl
      have hneB := hne _ hm
      have b0 : W.cell? ⟨Bx, 0, none⟩ = some (.int .i64 x.2.f0) := (blk_cell hB2 0).trans rfl
      have b1 : W.cell? ⟨Bx, 1, none⟩ = some (.int .i64 x.2.f1) := (blk_cell hB2 1).trans rfl
      have b2 : W.cell? ⟨Bx, 2, none⟩ = some (.int .i64 x.2.f2) := (blk_cell hB2 2).trans rfl
      have b3 : W.cell? ⟨Bx, 3, none⟩ = some (.int .i64 x.2.f3) := (blk_cell hB2 3).trans rfl
      generalize hX1 : pre.map (fun p => p.2) = X1 at *
      generalize hX2 : pre.map (fun p => (p.1 : Int)) = X2 at *
      have EX1 := Lib.hid hX1
      have EX2 := Lib.hid hX2
      clear hX1 hX2
      have HM := Lib.hid hm
      have HL := Lib.hid hl
      have R1 := Lib.hid h1
      have R2 := Lib.hid h2
      have HBB := Lib.hid hb
      have HSS := Lib.hid hs
      have HBX := Lib.hid hB2
      have HNE := Lib.hid hneB
      have HLEN := Lib.hid hlen
      clear hm hl h1 h2 hb hs hB2 hneB hne hlen c10
      refine start_in_ (n := 12) (S := fun w' => w'.cell? ⟨w.heap.size + 1, 1, none⟩ = some (.slice A7 X1.length c7) ∧ w'.cell? ⟨w.heap.size + 1 + 1, 0, none⟩ = some (.slice A8 X2.length c8) ∧ w'.cell? ⟨Bx, 0, none⟩ = some (.int .i64 x.2.f0) ∧ w'.cell? ⟨Bx, 1, none⟩ = some (.int .i64 x.2.f1) ∧ w'.cell? ⟨Bx, 2, none⟩ = some (.int .i64 x.2.f2) ∧ w'.cell? ⟨Bx, 3, none⟩ = some (.int .i64 x.2.f3)) (ds := [8, 10, 11]) #[false, false, false, false, false, false, false, false, false, false, false, false] ?hno ?hQ (by kernel_rfl) rfl rfl ⟨c11, c20, b0, b1, b2, b3⟩ (fun hHeld => ?_)
      case hno => simp
      case hQ => rintro ⟨a, w, h⟩; exact h
      refine pure_ (i := 0) (N := some 25) (v := ?_) (a' := ?_) #[true, false, false, false, false, false, false, false, false, false, false, false] rfl rfl (by kernel_rfl) (fun _ _ _ h => h) (Or.inl ⟨by rfl, ?_⟩) ?_ ?_
      rotate_left
      · intro w'
        go_simp
        with_reducible rfl
      rotate_left
      · simp only [Act.put, List.setIfInBounds_toArray, List.set_cons_zero, List.set_cons_succ, i64_w, i32_w]
        rfl
      refine pure_ (i := 6) (N := some 31) (v := ?_) (a' := ?_) #[true, false, false, false, false, false, true, false, false, false, false, false] rfl rfl (by kernel_rfl) (fun _ _ _ h => h) (Or.inl ⟨by rfl, ?_⟩) ?_ ?_
      rotate_left
      · intro w'
        go_simp
        with_reducible rfl
      rotate_left
      · simp only [Act.put, List.setIfInBounds_toArray, List.set_cons_zero, List.set_cons_succ, i64_w, i32_w]
        rfl
      refine take_ (i := 1) (N := some 26) (v := ?_) (a' := ?_) #[true, true, false, false, false, false, true, false, false, false, false, false] rfl rfl (by kernel_rfl) (fun _ _ _ h => h) (Or.inl ⟨by rfl, ?_⟩) hHeld ?_ ?_
      rotate_left
      · rintro w' ⟨s0, s1, s2, s3, s4, s5⟩
        go_simp
        with_reducible rfl
      rotate_left
      · simp only [Act.put, List.setIfInBounds_toArray, List.set_cons_zero, List.set_cons_succ, i64_w, i32_w]
        rfl
      refine take_ (i := 2) (N := some 27) (v := ?_) (a' := ?_) #[true, true, true, false, false, false, true, false, false, false, false, false] rfl rfl (by kernel_rfl) (fun _ _ _ h => h) (Or.inl ⟨by rfl, ?_⟩) hHeld ?_ ?_
      rotate_left
      · rintro w' ⟨s0, s1, s2, s3, s4, s5⟩
        go_simp
        with_reducible rfl
      rotate_left
      · simp only [Act.put, List.setIfInBounds_toArray, List.set_cons_zero, List.set_cons_succ, i64_w, i32_w]
        rfl
      refine take_ (i := 5) (N := some 30) (v := ?_) (a' := ?_) #[true, true, true, false, false, true, true, false, false, false, false, false] rfl rfl (by kernel_rfl) (fun _ _ _ h => h) (Or.inl ⟨by rfl, ?_⟩) hHeld ?_ ?_
      rotate_left
      · rintro w' ⟨s0, s1, s2, s3, s4, s5⟩
        go_simp
        with_reducible rfl
      rotate_left
      · simp only [Act.put, List.setIfInBounds_toArray, List.set_cons_zero, List.set_cons_succ, i64_w, i32_w]
        rfl
      have F0 := Lib.hid (⟨HM.out, HL.out, Kd.R_drew R1.out, Kd.R_drew R2.out, HBX.out, (Tr.refl W).drew, HSS.out⟩ : Fx a0_0 w.heap.size B Bx x.2 (.slice A7 X1.length c7) (.slice A8 X2.length c8) X2 W (.slice A7 X1.length c7) X1 W.drew)
      have hHB : w.heap.size ≤ B := by omega
      clear HM HL R1 R2 HBX HSS c11 c20 b0 b1 b2 b3
      generalize W.drew = Y at F0 hHeld ⊢
      have hx1 : X1.length ≤ 10 := by rw [← EX1.out, List.length_map]; have := HLEN.out; have := (chk_ok (outsV_ok HV.out).1).2.2.1; omega
      have hx2 : X2.length ≤ 10 := by rw [← EX2.out, List.length_map]; have := HLEN.out; have := (chk_ok (outsV_ok HV.out).1).2.2.1; omega
      refine join_ (σ := Value × Value × Nat) 3 #[true, true, true, true, true, true, true, true, false, true, false, false] (fun s => [(28, s.1), (29, s.2.1), (32, .slice (some ⟨s.2.2, 0, none⟩) 1 1), (34, .pointer (some ⟨w.heap.size + 1, 1, none⟩))])
        (fun s W' => Fx a0_0 w.heap.size B Bx x.2 (.slice A7 X1.length c7) (.slice A8 X2.length c8) X2 W s.2.1 (X1 ++ [x.2]) W' ∧ W'.heap[s.2.2]? = some (.cells #[.int .i64 (x.1 : Int)] 3 (0, 0)) ∧ some s.2.2 ≠ (Value.slice A8 X2.length c8).ownBlock) ?after ?orders
      case after =>
        rintro ⟨b28, vn, b7⟩ W1 ⟨hF, hbk7, hne7⟩
        have HF1 := Lib.hid hF
        have HB7 := Lib.hid hbk7
        clear hF hbk7 hne7
        refine norm_ (a' := ?_) ?_ ?_
        rotate_left
        · simp only [putAll, Act.put, List.setIfInBounds_toArray, List.set_cons_zero, List.set_cons_succ, i64_w, i32_w]
          rfl
        refine last_ (i := 8) (N := some 33) #[true, true, true, true, true, true, true, true, true, true, false, false] rfl rfl (by kernel_rfl) (by decide) (fun K hK => ?_)
        refine step_append_src (Kd.int .i64) B (by rfl) (.tmp 30) (.tmp 32) 25 3 (.int .i64 0) 8 rfl Try.underlying25 info3 rfl (by decide) (by omega) (.slice A8 X2.length c8) X2 (x.1 : Int) [.int .i64 (x.1 : Int)] (fun _ => True) (fun _ => False) ⟨b7, 0, none⟩ 1 rfl rfl rfl (fun _ hk => hk.elim) (fun _ _ => trivial) (news_at HB7.out) HF1.out.r2 HF1.out.sz (by omega) ?_
        intro vm W2 hr2 hg hat
        have hm2 := blk_grown HF1.out.m hg (Kd.R_ne HF1.out.r2 HF1.out.m (by decide))
        have hl2 := blk_grown HF1.out.l hg (Kd.R_ne HF1.out.r2 HF1.out.l (by decide))
        have hr1 := Kd.R_over' HF1.out.r1 (Kd.R_typed HF1.out.r2) (by decide) hg
        have ht2 := HF1.out.tr.grown HF1.out.r2 hg HF1.out.sz hHB
        have hs2 := Nat.le_trans HF1.out.sz hg.size
        dsimp only at hr1
        obtain ⟨A9, c9, rfl⟩ := Kd.R_slice hr1
        obtain ⟨A10, c10, rfl⟩ := Kd.R_slice hr2
        clear hat hg
        refine hK.out _ _ ?_
        clear hK K
        refine norm_ (a' := ?_) ?_ ?_
        rotate_left
        · show Act.put _ (some 33) _ = _
          simp only [Act.put, List.setIfInBounds_toArray, List.set_cons_zero, List.set_cons_succ, i64_w, i32_w]
          rfl
        have d11 : W2.cell? ⟨w.heap.size + 1, 1, none⟩ = some (.slice A7 X1.length c7) := (blk_cell hm2 1).trans rfl
        have g11 := blk_frozen hm2 1
        refine last_ (i := 10) (N := none) #[true, true, true, true, true, true, true, true, true, true, true, false] rfl rfl (by kernel_rfl) (by decide) (fun K hK => ?_)
        refine skip_ (w1 := W2.setCell ⟨w.heap.size + 1, 1, none⟩ (.slice A9 (X1 ++ [x.2]).length c9)) (by rfl) rfl ?_ ?_
        · go_simp
        refine hK.out _ _ ?_
        clear hK K
        have hl3 := blk_far (p := ⟨w.heap.size + 1, 1, none⟩) hl2 (by simp) (.slice A9 (X1 ++ [x.2]).length c9)
        have d20 : W2.cell? ⟨w.heap.size + 1 + 1, 0, none⟩ = some (.slice A8 X2.length c8) := (blk_cell hl2 0).trans rfl
        have g20 := blk_frozen hl2 0
        refine last_ (i := 11) (N := none) #[true, true, true, true, true, true, true, true, true, true, true, true] rfl rfl (by kernel_rfl) (by decide) (fun K hK => ?_)
        refine skip_ (w1 := (W2.setCell ⟨w.heap.size + 1, 1, none⟩ (.slice A9 (X1 ++ [x.2]).length c9)).setCell ⟨w.heap.size + 1 + 1, 0, none⟩ (.slice A10 (X2 ++ [(x.1 : Int)]).length c10)) (by rfl) rfl ?_ ?_
        · go_simp
        refine hK.out _ _ ?_
        clear hK K
        refine done_ (by kernel_rfl) ?_
        refine (?_ : KeepsFrom _ _ _ ∧ KpS _ _ _ ∧ _)
        have ht4 := (ht2.set (w.heap.size + 1) 1 (.inl rfl) (by omega) (by omega) (.slice A9 (X1 ++ [x.2]).length c9)).set (w.heap.size + 1 + 1) 0 (.inr rfl) (by omega) (by omega) (.slice A10 (X2 ++ [(x.1 : Int)]).length c10)
        have hm4 := blk_far (p := ⟨w.heap.size + 1 + 1, 0, none⟩) (blk_set hm2 1 (.slice A9 (X1 ++ [x.2]).length c9)) (by simp) (.slice A10 (X2 ++ [(x.1 : Int)]).length c10)
        have hl4 := blk_set hl3 0 (.slice A10 (X2 ++ [(x.1 : Int)]).length c10)
        refine ⟨by rw [HBS.out]; exact ht4.kf, ht4.kp, _, _, hm4, hl4, ?_, ?_, HBB.out.trans ht4.bl, ?_⟩
        · rw [List.map_append, EX1.out]
          exact Kd.R_mono (Kd.R_far (Kd.R_far (Kd.R_reok (ok := fun k => k ≠ w.heap.size + 1 ∧ k ≠ w.heap.size + 1 + 1) rfl hr1 (fun k e => by have := Kd.R_base hr1 k e; omega)) (fun k hk => hk.1) _) (fun k hk => hk.2) _) (fun _ _ => trivial)
        · rw [List.map_append, EX2.out]
          exact Kd.R_mono (Kd.R_far (Kd.R_far (Kd.R_reok (ok := fun k => k ≠ w.heap.size + 1 ∧ k ≠ w.heap.size + 1 + 1) rfl hr2 (fun k e => by have := Kd.R_base hr2 k e; omega)) (fun k hk => hk.1) _) (fun k hk => hk.2) _) (fun _ _ => trivial)
        · simp [World.setCell]; exact hs2
      case orders =>
        intro hcont
        have HC := Lib.hid hcont
        clear hcont
        refine two_ (i := 3) (j := 7) (Ni := some 28) (Nj := some 32) #[true, true, true, true, false, true, true, false, false, false, false, false] #[true, true, true, false, false, true, true, true, false, false, false, false] rfl rfl rfl rfl (by kernel_rfl) (by decide) (by decide) (fun K hK => ?_) (fun K hK => ?_)
        · refine value_ (w1 := ?_) (v := ?_) (by rfl) rfl ?_ ?_
          rotate_left 2
          · go_simp
            constructor
            · rfl
            · rfl
          have Fa := Lib.hid (F0.out.alloc hHB (.cells #[.int .i64 x.2.f0, .int .i64 x.2.f1, .int .i64 x.2.f2, .int .i64 x.2.f3] 37))
          have bk3 : (Y.alloc (.cells #[.int .i64 x.2.f0, .int .i64 x.2.f1, .int .i64 x.2.f2, .int .i64 x.2.f3] 37)).heap[Y.heap.size]? = some (.cells #[.int .i64 x.2.f0, .int .i64 x.2.f1, .int .i64 x.2.f2, .int .i64 x.2.f3] 37 (0, 0)) := heap_alloc_new Y _
          refine hK.out _ _ Fa.out.held (fun hHeld => ?_)
          clear hK K
          refine norm_ (a' := ?_) ?_ ?_
          rotate_left
          · show Act.put _ (some 28) _ = _
            simp only [Act.put, List.setIfInBounds_toArray, List.set_cons_zero, List.set_cons_succ, i64_w, i32_w]
            rfl
          generalize Y.alloc (.cells #[.int .i64 x.2.f0, .int .i64 x.2.f1, .int .i64 x.2.f2, .int .i64 x.2.f3] 37) = Ya at Fa bk3 hHeld ⊢
          generalize Y.heap.size = b3 at bk3 ⊢
          have Hbk3 := Lib.hid bk3
          clear bk3
          refine two_ (i := 4) (j := 7) (Ni := some 29) (Nj := some 32) #[true, true, true, true, true, true, true, false, false, false, false, false] #[true, true, true, true, false, true, true, true, false, false, false, false] rfl rfl rfl rfl (by kernel_rfl) (by decide) (by decide) (fun K hK => ?_) (fun K hK => ?_)
          · refine step_append_src k37 B (by rfl) (.tmp 26) (.tmp 28) 22 37 (.agg #[(.int .i64 0), (.int .i64 0), (.int .i64 0), (.int .i64 0)]) 32 rfl Try.underlying22 info37 rfl (by decide) (by omega) (.slice A7 X1.length c7) X1 x.2 [.int .i64 x.2.f0, .int .i64 x.2.f1, .int .i64 x.2.f2, .int .i64 x.2.f3] (fun _ => True) (fun _ => False) ⟨b3, 0, none⟩ 1 rfl rfl (k37_mkM _ _ _ x.2) (fun _ hk => hk.elim) (fun _ _ => trivial) (news_at Hbk3.out) Fa.out.r1 Fa.out.sz (by omega) ?_
            intro vn Yb hr hg hat
            have Fb := Lib.hid (Fa.out.append hHB HNE.out hg hr)
            clear hr hg hat
            refine hK.out _ _ Fb.out.held (fun hHeld => ?_)
            clear hK K
            refine norm_ (a' := ?_) ?_ ?_
            rotate_left
            · show Act.put _ (some 29) _ = _
              simp only [Act.put, List.setIfInBounds_toArray, List.set_cons_zero, List.set_cons_succ, i64_w, i32_w]
              rfl
            refine pure_ (i := 9) (N := some 34) (v := ?_) (a' := ?_) #[true, true, true, true, true, true, true, false, false, true, false, false] rfl rfl (by kernel_rfl) (fun _ _ _ h => h) (Or.inl ⟨by rfl, ?_⟩) ?_ ?_
            rotate_left
            · intro w'
              go_simp
              with_reducible rfl
            rotate_left
            · simp only [Act.put, List.setIfInBounds_toArray, List.set_cons_zero, List.set_cons_succ, i64_w, i32_w]
              rfl
            refine one_ (i := 7) (N := some 32) #[true, true, true, true, true, true, true, true, false, true, false, false] rfl rfl (by kernel_rfl) (by decide) (fun K hK => ?_)
            refine value_ (w1 := ?_) (v := ?_) (by rfl) rfl ?_ ?_
            rotate_left 2
            · go_simp
              constructor
              · rfl
              · rfl
            have Fc := Lib.hid (Fb.out.alloc hHB (.cells #[.int .i64 (x.1 : Int)] 3))
            have bk7 : (Yb.alloc (.cells #[.int .i64 (x.1 : Int)] 3)).heap[Yb.heap.size]? = some (.cells #[.int .i64 (x.1 : Int)] 3 (0, 0)) := heap_alloc_new Yb _
            have ne7 := Kd.R_ne_new Fb.out.r2 0
            rw [Nat.add_zero] at ne7
            refine hK.out _ _ Fc.out.held (fun hHeld => ?_)
            clear hK K
            refine norm_ (a' := ?_) ?_ ?_
            rotate_left
            · show Act.put _ (some 32) _ = _
              simp only [Act.put, List.setIfInBounds_toArray, List.set_cons_zero, List.set_cons_succ, i64_w, i32_w]
              rfl
            generalize Yb.alloc (.cells #[.int .i64 (x.1 : Int)] 3) = Yc at Fc bk7 hHeld ⊢
            generalize Yb.heap.size = b7 at bk7 ne7 ⊢
            have Hbk7 := Lib.hid bk7
            clear bk7
            have HN7 := Lib.hid ne7
            clear ne7
            exact HC.out (_, _, b7) _ ⟨Fc.out, Hbk7.out, HN7.out⟩
          · refine value_ (w1 := ?_) (v := ?_) (by rfl) rfl ?_ ?_
            rotate_left 2
            · go_simp
              constructor
              · rfl
              · rfl
            have Fb := Lib.hid (Fa.out.alloc hHB (.cells #[.int .i64 (x.1 : Int)] 3))
            have bk7 : (Ya.alloc (.cells #[.int .i64 (x.1 : Int)] 3)).heap[Ya.heap.size]? = some (.cells #[.int .i64 (x.1 : Int)] 3 (0, 0)) := heap_alloc_new Ya _
            have Hbk3' := Lib.hid (blk_alloc Hbk3.out (.cells #[.int .i64 (x.1 : Int)] 3))
            have ne7 := Kd.R_ne_new Fa.out.r2 0
            rw [Nat.add_zero] at ne7
            refine hK.out _ _ Fb.out.held (fun hHeld => ?_)
            clear hK K
            refine norm_ (a' := ?_) ?_ ?_
            rotate_left
            · show Act.put _ (some 32) _ = _
              simp only [Act.put, List.setIfInBounds_toArray, List.set_cons_zero, List.set_cons_succ, i64_w, i32_w]
              rfl
            generalize Ya.alloc (.cells #[.int .i64 (x.1 : Int)] 3) = Yb at Fb bk7 Hbk3' hHeld ⊢
            generalize Ya.heap.size = b7 at bk7 ne7 ⊢
            have Hbk7 := Lib.hid bk7
            clear bk7
            have HN7 := Lib.hid ne7
            clear ne7
            clear Hbk3
            have Hbk3 := Hbk3'
            clear Hbk3'
            refine one_ (i := 4) (N := some 29) #[true, true, true, true, true, true, true, true, false, false, false, false] rfl rfl (by kernel_rfl) (by decide) (fun K hK => ?_)
            refine step_append_src k37 B (by rfl) (.tmp 26) (.tmp 28) 22 37 (.agg #[(.int .i64 0), (.int .i64 0), (.int .i64 0), (.int .i64 0)]) 32 rfl Try.underlying22 info37 rfl (by decide) (by omega) (.slice A7 X1.length c7) X1 x.2 [.int .i64 x.2.f0, .int .i64 x.2.f1, .int .i64 x.2.f2, .int .i64 x.2.f3] (fun _ => True) (fun _ => False) ⟨b3, 0, none⟩ 1 rfl rfl (k37_mkM _ _ _ x.2) (fun _ hk => hk.elim) (fun _ _ => trivial) (news_at Hbk3.out) Fb.out.r1 Fb.out.sz (by omega) ?_
            intro vn Yc hr hg hat
            have Fc := Lib.hid (Fb.out.append hHB HNE.out hg hr)
            have Hbk7' := Lib.hid (blk_grown Hbk7.out hg (Kd.R_ne Fb.out.r1 Hbk7.out (by decide)))
            clear Hbk7
            have Hbk7 := Hbk7'
            clear Hbk7'
            clear hr hg hat
            refine hK.out _ _ Fc.out.held (fun hHeld => ?_)
            clear hK K
            refine norm_ (a' := ?_) ?_ ?_
            rotate_left
            · show Act.put _ (some 29) _ = _
              simp only [Act.put, List.setIfInBounds_toArray, List.set_cons_zero, List.set_cons_succ, i64_w, i32_w]
              rfl
            refine pure_ (i := 9) (N := some 34) (v := ?_) (a' := ?_) #[true, true, true, true, true, true, true, true, false, true, false, false] rfl rfl (by kernel_rfl) (fun _ _ _ h => h) (Or.inl ⟨by rfl, ?_⟩) ?_ ?_
            rotate_left
            · intro w'
              go_simp
              with_reducible rfl
            rotate_left
            · simp only [Act.put, List.setIfInBounds_toArray, List.set_cons_zero, List.set_cons_succ, i64_w, i32_w]
              rfl
            exact HC.out (_, _, b7) _ ⟨Fc.out, Hbk7.out, HN7.out⟩
        · refine value_ (w1 := ?_) (v := ?_) (by rfl) rfl ?_ ?_
          rotate_left 2
          · go_simp
            constructor
            · rfl
            · rfl
          have Fa := Lib.hid (F0.out.alloc hHB (.cells #[.int .i64 (x.1 : Int)] 3))
          have bk7 : (Y.alloc (.cells #[.int .i64 (x.1 : Int)] 3)).heap[Y.heap.size]? = some (.cells #[.int .i64 (x.1 : Int)] 3 (0, 0)) := heap_alloc_new Y _
          have ne7 := Kd.R_ne_new F0.out.r2 0
          rw [Nat.add_zero] at ne7
          refine hK.out _ _ Fa.out.held (fun hHeld => ?_)
          clear hK K
          refine norm_ (a' := ?_) ?_ ?_
          rotate_left
          · show Act.put _ (some 32) _ = _
            simp only [Act.put, List.setIfInBounds_toArray, List.set_cons_zero, List.set_cons_succ, i64_w, i32_w]
            rfl
          generalize Y.alloc (.cells #[.int .i64 (x.1 : Int)] 3) = Ya at Fa bk7 hHeld ⊢
          generalize Y.heap.size = b7 at bk7 ne7 ⊢
          have Hbk7 := Lib.hid bk7
          clear bk7
          have HN7 := Lib.hid ne7
          clear ne7
          refine one_ (i := 3) (N := some 28) #[true, true, true, true, false, true, true, true, false, false, false, false] rfl rfl (by kernel_rfl) (by decide) (fun K hK => ?_)
          refine value_ (w1 := ?_) (v := ?_) (by rfl) rfl ?_ ?_
          rotate_left 2
          · go_simp
            constructor
            · rfl
            · rfl
          have Fb := Lib.hid (Fa.out.alloc hHB (.cells #[.int .i64 x.2.f0, .int .i64 x.2.f1, .int .i64 x.2.f2, .int .i64 x.2.f3] 37))
          have bk3 : (Ya.alloc (.cells #[.int .i64 x.2.f0, .int .i64 x.2.f1, .int .i64 x.2.f2, .int .i64 x.2.f3] 37)).heap[Ya.heap.size]? = some (.cells #[.int .i64 x.2.f0, .int .i64 x.2.f1, .int .i64 x.2.f2, .int .i64 x.2.f3] 37 (0, 0)) := heap_alloc_new Ya _
          have Hbk7' := Lib.hid (blk_alloc Hbk7.out (.cells #[.int .i64 x.2.f0, .int .i64 x.2.f1, .int .i64 x.2.f2, .int .i64 x.2.f3] 37))
          refine hK.out _ _ Fb.out.held (fun hHeld => ?_)
          clear hK K
          refine norm_ (a' := ?_) ?_ ?_
          rotate_left
          · show Act.put _ (some 28) _ = _
            simp only [Act.put, List.setIfInBounds_toArray, List.set_cons_zero, List.set_cons_succ, i64_w, i32_w]
            rfl
          generalize Ya.alloc (.cells #[.int .i64 x.2.f0, .int .i64 x.2.f1, .int .i64 x.2.f2, .int .i64 x.2.f3] 37) = Yb at Fb bk3 Hbk7' hHeld ⊢
          generalize Ya.heap.size = b3 at bk3 ⊢
          have Hbk3 := Lib.hid bk3
          clear bk3
          clear Hbk7
          have Hbk7 := Hbk7'
          clear Hbk7'
          refine one_ (i := 4) (N := some 29) #[true, true, true, true, true, true, true, true, false, false, false, false] rfl rfl (by kernel_rfl) (by decide) (fun K hK => ?_)
          refine step_append_src k37 B (by rfl) (.tmp 26) (.tmp 28) 22 37 (.agg #[(.int .i64 0), (.int .i64 0), (.int .i64 0), (.int .i64 0)]) 32 rfl Try.underlying22 info37 rfl (by decide) (by omega) (.slice A7 X1.length c7) X1 x.2 [.int .i64 x.2.f0, .int .i64 x.2.f1, .int .i64 x.2.f2, .int .i64 x.2.f3] (fun _ => True) (fun _ => False) ⟨b3, 0, none⟩ 1 rfl rfl (k37_mkM _ _ _ x.2) (fun _ hk => hk.elim) (fun _ _ => trivial) (news_at Hbk3.out) Fb.out.r1 Fb.out.sz (by omega) ?_
          intro vn Yc hr hg hat
          have Fc := Lib.hid (Fb.out.append hHB HNE.out hg hr)
          have Hbk7' := Lib.hid (blk_grown Hbk7.out hg (Kd.R_ne Fb.out.r1 Hbk7.out (by decide)))
          clear Hbk7
          have Hbk7 := Hbk7'
          clear Hbk7'
          clear hr hg hat
          refine hK.out _ _ Fc.out.held (fun hHeld => ?_)
          clear hK K
          refine norm_ (a' := ?_) ?_ ?_
          rotate_left
          · show Act.put _ (some 29) _ = _
            simp only [Act.put, List.setIfInBounds_toArray, List.set_cons_zero, List.set_cons_succ, i64_w, i32_w]
            rfl
          refine pure_ (i := 9) (N := some 34) (v := ?_) (a' := ?_) #[true, true, true, true, true, true, true, true, false, true, false, false] rfl rfl (by kernel_rfl) (fun _ _ _ h => h) (Or.inl ⟨by rfl, ?_⟩) ?_ ?_
          rotate_left
          · intro w'
            go_simp
            with_reducible rfl
          rotate_left
          · simp only [Act.put, List.setIfInBounds_toArray, List.set_cons_zero, List.set_cons_succ, i64_w, i32_w]
            rfl
          exact HC.out (_, _, b7) _ ⟨Fc.out, Hbk7.out, HN7.out⟩
    case done =>
      rintro D xs W hD hxs ⟨v1, v2, hm, hl, h1, h2, hb, hs⟩ hK
      obtain ⟨X1, hX1⟩ : ∃ X1, X1 = xs.map (fun p => p.2) := ⟨_, rfl⟩
      obtain ⟨X2, hX2⟩ : ∃ X2, X2 = xs.map (fun p => (p.1 : Int)) := ⟨_, rfl⟩
      rw [← hX1] at h1
      rw [← hX2] at h2
      have E1 := Lib.hid (show X1 = (inn l0_1 l1).map (fun (k : Nat) => rd_T37 l0_1 (k : Int)) by rw [hX1, hxs, insF_inn, List.map_map]; rfl)
      have E2 := Lib.hid (show X2 = (inn l0_1 l1).map (fun (k : Nat) => (k : Int)) by rw [hX2, hxs, insF_inn, List.map_map]; rfl)
      clear hX1 hX2 hxs
      have hH' := HH'.out
      clear HH'
      subst hH'
      have c10 : W.cell? ⟨w.heap.size + 1, 0, none⟩ = some (.int .i64 a0_0) := (blk_cell hm 0).trans rfl
      have c11 : W.cell? ⟨w.heap.size + 1, 1, none⟩ = some v1 := (blk_cell hm 1).trans rfl
      have c20 : W.cell? ⟨w.heap.size + 1 + 1, 0, none⟩ = some v2 := (blk_cell hl 0).trans rfl
      have f10 := blk_frozen hm 0
      have f11 := blk_frozen hm 1
      have f20 := blk_frozen hl 0
      obtain ⟨A7, c7, rfl⟩ := Kd.R_slice h1
      obtain ⟨A8, c8, rfl⟩ := Kd.R_slice h2
      have HM := Lib.hid hm
      have HL := Lib.hid hl
      have R1 := Lib.hid h1
      have R2 := Lib.hid h2
      have HBB := Lib.hid hb
      have HSS := Lib.hid hs
      have HD := Lib.hid hD
      have HK := Lib.hid hK
      clear hm hl h1 h2 hb hs hD hK
      gi_wp2
      gi_region
      have e1 : ((W.setCell ⟨w.heap.size + 1, 0, none⟩ (.int .i64 a0_0)).setCell ⟨w.heap.size + 1, 1, none⟩ (.slice A7 X1.length c7)).setCell ⟨w.heap.size + 1 + 1, 0, none⟩ (.slice A8 X2.length c8) = W := by
        rw [setCell_id (i := 0) (v := .int .i64 a0_0) HM.out rfl, setCell_id (i := 1) (v := .slice A7 X1.length c7) HM.out rfl, setCell_id (i := 0) (v := .slice A8 X2.length c8) HL.out rfl]
      have hM := HM.out
      have hL := HL.out
      have hR1 := R1.out
      have hR2 := R2.out
      clear HM HL R1 R2 c10 c11 c20 f10 f11 f20
      rw [e1]
      clear e1
      gi_wp2
      refine ⟨by simp, .inl ⟨_, _, rfl, run_takeDeferred (w := W.drew) HK.out, ?_⟩⟩
      have gD := grownBy_putObj' W.drew D (.deferred none)
      have hrow : ∀ r, some D = some r → ∃ o : Obj, W.drew.heap[r]? = some o ∧ o.isCells = false := fun r e => by cases e; exact ⟨_, HK.out, rfl⟩
      have hDw : w.heap.size + 1 + 1 < D := by have := HD.out; rw [HBS.out] at this; omega
      have hM2 := blk_grown (w := W.drew) hM gD (by simp; omega)
      have hL2 := blk_grown (w := W.drew) hL gD (by simp; omega)
      have q1 := R_grown_walk rfl (Kd.R_drew hR1) gD hrow
      have q2 := R_grown_walk rfl (Kd.R_drew hR2) gD hrow
      have q3 : Below w.heap.size w (W.drew.putObj D (.deferred none)) := (BW6.out.trans HBB.out).trans (((Below.refl _ _).drew).grown gD (by have := HSS.out; show w.heap.size ≤ W.heap.size; omega) (fun k e => by cases e; omega))
      generalize W.drew.putObj D (.deferred none) = Wf at hM2 hL2 q1 q2 q3 ⊢
      have d10 : Wf.cell? ⟨w.heap.size + 1, 0, none⟩ = some (.int .i64 a0_0) := (blk_cell hM2 0).trans rfl
      have d11 : Wf.cell? ⟨w.heap.size + 1, 1, none⟩ = some (.slice A7 X1.length c7) := (blk_cell hM2 1).trans rfl
      have d20 : Wf.cell? ⟨w.heap.size + 1 + 1, 0, none⟩ = some (.slice A8 X2.length c8) := (blk_cell hL2 0).trans rfl
      refine ⟨.tuple #[.agg #[.int .i64 a0_0, .slice A7 X1.length c7], .slice A8 X2.length c8, .int .i64 0], ?_, ?_⟩
      · simp [results, Try.f32, go_sem, d10, d11, d20]
      · rw [← E1.out, ← E2.out]
        exact ⟨_, _, rfl, Kd.R_lower q1 (by omega), Kd.R_lower q2 (by omega), q3⟩
    case stop =>
      rintro D c pre W _ _ h _
      exact h.elim
  · rw [net_Strip.f, if_neg hv] at h
    simp only [Option.some.injEq, Prod.mk.injEq] at h
    obtain ⟨rfl, rfl, rfl, rfl⟩ := h
    have hvb : (outsV a0_0 l0_1 l1 != 0) = true := by simpa using hv
    generalize outsV a0_0 l0_1 l1 = ev at HOF hvb ⊢
    clear hv
    go_enter Try.func32, Try.ntmps32
    go_wp2_with (go_at_call 31; refine (net_Outs.calls (l1.length + 1) a0_0 _ _ l0_1 _ _ l1 ev _ ?side1 hc0_1 ?side2 hc1 HOF.out).mono ?_; (case side1 => exact Kd.C_below HR0.out (((((Below.refl _ w).alloc (Nat.le_refl _) _).alloc (by simp) _).alloc (by simp; omega) _))); (case side2 => exact Kd.C_below HR1.out (((((Below.refl _ w).alloc (Nat.le_refl _) _).alloc (by simp) _).alloc (by simp; omega) _))); rintro e w4 ⟨rfl, hb4⟩; obtain ⟨k0, k1, k2, hsz, hbw⟩ := boxes3 hb4; have K0 := Lib.hid k0; have K1 := Lib.hid k1; have K2 := Lib.hid k2; have HBW := Lib.hid hbw; clear hb4 k0 k1 k2 hbw; have c00 : w4.cell? ⟨w.heap.size, 0, none⟩ = some (.int .i64 a0_0) := (blk_cell K0.out 0).trans rfl; have c10 : w4.cell? ⟨w.heap.size + 1, 0, none⟩ = some (.int .i64 0) := (blk_cell K1.out 0).trans rfl; have c11 : w4.cell? ⟨w.heap.size + 1, 1, none⟩ = some (.slice none 0 0) := (blk_cell K1.out 1).trans rfl; have f10 := blk_frozen K1.out 0; have f11 := blk_frozen K1.out 1; have c20 : w4.cell? ⟨w.heap.size + 1 + 1, 0, none⟩ = some (.slice none 0 0) := (blk_cell K2.out 0).trans rfl; have f20 := blk_frozen K2.out 0)
    have e1 : ((w4.setCell ⟨w.heap.size + 1, 0, none⟩ (.int .i64 0)).setCell ⟨w.heap.size + 1, 1, none⟩ (.slice none 0 0)).setCell ⟨w.heap.size + 1 + 1, 0, none⟩ (.slice none 0 0) = w4 := by
      rw [setCell_id (i := 0) (v := .int .i64 0) K1.out rfl, setCell_id (i := 1) (v := .slice none 0 0) K1.out rfl, setCell_id (i := 0) (v := .slice none 0 0) K2.out rfl]
    rw [e1]
    exact bodyPost_ret (v := .tuple #[.agg #[.int .i64 0, .slice none 0 0], .slice none 0 0, .int .i64 ev]) (by simp [results, Try.f32, go_sem, c10, c11, c20]) rfl ⟨_, _, rfl, Kd.R_nil _ _ _ _ _, Kd.R_nil _ _ _ _ _, HBW.out⟩

end Go.Proofs.Ytdpgdelimffjpaa.P
