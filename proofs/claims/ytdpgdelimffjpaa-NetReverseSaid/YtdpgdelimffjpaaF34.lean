-- Written by wip/drive.py (a prover's driver over the kit's print.py); hand-proved contracts stand among the printed ones. Lean checks it.
import Derived.Test.YtdpgdelimffjpaaFBase
import Derived.Test.YtdpgdelimffjpaaF35
import Derived.Test.YtdpgdelimffjpaaHBoxes
import Derived.Lib.Hide
import Derived.BigRegion
import Derived.Lib.SliceRun
namespace Go.Proofs.Ytdpgdelimffjpaa.P
open Go.RowKit Go.Proofs.YtdpgdelimffjpaaW.PrintWords Go.Proofs.YtdpgdelimffjpaaW.PrintLast Go.Proofs.YtdpgdelimffjpaaW.PrintMore
attribute [local go_sem] max2_int min2_int max_two min_two max_three min_three max_four min_four   -- for this text's walks alone
set_option linter.unusedVariables false
set_option linter.unusedSimpArgs false

/-! ### net_Reverse: function 34: by hand -/
-- import Derived.Test.YtdpgdelimffjpaaHBoxes
-- import Derived.Lib.Hide
-- import Derived.BigRegion
-- import Derived.Lib.SliceRun
attribute [local go_sem] Oper.semAt_some
def swapL (l : S37) : S37 := ⟨l.f1, l.f0, l.f2, l.f3⟩
def net_Reverse.f (a0_0 : Int) (l0_1 : List (S37)) (a1 : Int) : Option (Int × (List (S37)) × Int) :=
  if chk a0_0 l0_1 = 0 then (if a1 < 0 then some (0, [], 1) else if (l0_1.length : Int) ≤ a1 then some (0, [], 1) else some (a0_0, l0_1.set a1.toNat (swapL (rd_T37 l0_1 a1)), 0)) else some (0, [], chk a0_0 l0_1)
theorem k37_two {W : World} {base g n cap : Nat} {ok : Nat → Prop} {L : List S37} (h : Kd.R k37 37 W base ok (.slice (some ⟨g, 0, none⟩) n cap) L) (i : Int) (h0 : 0 ≤ i) (h1 : i < n) (a b : Int) :
    Kd.R k37 37 ((W.setCell ⟨g, i.toNat * 4, none⟩ (.int .i64 a)).setCell ⟨g, i.toNat * 4 + 1, none⟩ (.int .i64 b)) base ok (.slice (some ⟨g, 0, none⟩) n cap) (L.set i.toNat ⟨a, b, (rd_T37 L i).f2, (rd_T37 L i).f3⟩) := by
  have hn : n = L.length := (Kd.R_reads' h).1
  obtain ⟨c, hcl, hM, hcc, _⟩ := Kd.R_elem h z37 i h0 h1
  have hx := k37_openM hM
  have hg : L.getD i.toNat z37 = rd_T37 L i := rfl
  rw [hg] at hx
  subst hx
  have r1 := (Kd.R_seg h i h0 h1 (j := 0) (seg := [.int .i64 a]) hcl hcc (by simp [k37]; decide) (x' := ⟨a, (rd_T37 L i).f1, (rd_T37 L i).f2, (rd_T37 L i).f3⟩) (okp := fun k => ok k ∧ k ≠ g) (k37_mkM _ _ _ ⟨a, (rd_T37 L i).f1, (rd_T37 L i).f2, (rd_T37 L i).f3⟩) (fun _ hk => hk)).1
  obtain ⟨c2, hcl2, hM2, hcc2, _⟩ := Kd.R_elem r1 z37 i h0 h1
  have hx2 := k37_openM hM2
  have hg2 : (L.set i.toNat ⟨a, (rd_T37 L i).f1, (rd_T37 L i).f2, (rd_T37 L i).f3⟩).getD i.toNat z37 = (⟨a, (rd_T37 L i).f1, (rd_T37 L i).f2, (rd_T37 L i).f3⟩ : S37) := by
    have : i.toNat < L.length := by omega
    simp [List.getD_eq_getElem?_getD, this]
  rw [hg2] at hx2
  subst hx2
  have r2 := (Kd.R_seg r1 i h0 h1 (j := 1) (seg := [.int .i64 b]) hcl2 hcc2 (by simp [k37]; decide) (x' := ⟨a, b, (rd_T37 L i).f2, (rd_T37 L i).f3⟩) (okp := fun k => ok k ∧ k ≠ g) (k37_mkM _ _ _ ⟨a, b, (rd_T37 L i).f2, (rd_T37 L i).f3⟩) (fun _ hk => hk)).1
  rw [List.set_set] at r2
  exact r2
set_option maxHeartbeats 2000000 in
set_option maxRecDepth 100000 in
/-- slices.Clone at []api.Line. -/
theorem cloneL_calls (A : Option Addr) (c : Nat) (l : List S37) (w : World) (hr : Kd.C k37 w A l.length l) (hlen : l.length ≤ 1000000) :
    Calls Try.prog 85 #[.slice A l.length c] w fun e w' => ∃ v : Value, e = .returned v ∧ Kd.R k37 37 w' w.heap.size (fun _ => True) v l ∧ Below w.heap.size w w' := by
  have q22 : ∀ (w : World) (a : Option Addr) (n c n' c' : Nat), (binOp .eql 22 (.slice a n c) (.slice none n' c')).run Try.prog w = .ok (.bool a.isNone) w := fun w a n c n' c' => Lib.run_eql_slice_nil w _ _ a n c n' c' Try.underlying22
  cases A with
  | none =>
    have h0 : l = [] := by
      rcases Nat.eq_zero_or_pos l.length with h | h
      · exact List.eq_nil_of_length_eq_zero h
      · obtain ⟨ad, h, _⟩ := hr.2.2 h; cases h
    subst h0
    clear hr
    go_enter Try.func85, Try.ntmps85
    go_wp2
    go_ret
    exact ⟨_, rfl, Kd.R_nil _ _ _ _ _, Below.refl _ _⟩
  | some ad =>
    have HR := Lib.hid hr
    clear hr
    go_enter Try.func85, Try.ntmps85
    go_wp2_with (at_builtin; refine Kd.R_append_rows k37 (Rr := k37.K (w.alloc (.cells #[] 37))) (w0 := w) w.heap.size rfl _ _ 22 37 (.agg #[(.int .i64 0), (.int .i64 0), (.int .i64 0), (.int .i64 0)]) 32 rfl Try.underlying22 info37 rfl (by decide) (by decide) (.slice (some ⟨w.heap.size, 0, none⟩) 0 0) [] l (some ad) l.length c (fun _ => True) (fun _ => False) rfl rfl ?aO ?aR ?aM (fun _ hk => hk.elim) (fun _ _ => trivial) ?aB ?ab ?al ?_; (case aO => exact ⟨fun _ _ => trivial, [], World.ownsRow_made w #[] 0 (Nat.le_refl _) (Nat.zero_le _) rfl, ⟨rfl, fun j p hj => by simp at hj⟩⟩); (case aR => exact Kd.C_below HR.out ((Below.refl _ w).alloc (Nat.le_refl _) _)); (case aM => exact fun x cs hx => by rw [k37_open hx]; exact k37_mkM _ _ _ x); (case aB => exact (Below.refl _ w).alloc (Nat.le_refl _) _); (case ab => simp); (case al => simp; omega); intro v1 w1 h1 hb1 hg1 hat1; rw [List.nil_append] at h1; obtain ⟨A1, c1, rfl⟩ := Kd.R_slice h1; have H1 := Lib.hid h1; have HB1 := Lib.hid hb1; clear h1 hb1 hg1 hat1)
    go_wp2
    go_ret
    exact ⟨_, rfl, H1.out, HB1.out⟩
theorem boxesR {w w4 : World} {c0 c1 : Array Value} {t0 t1 : TypeId} (h : Below ((w.alloc (.cells c0 t0)).alloc (.cells c1 t1)).heap.size ((w.alloc (.cells c0 t0)).alloc (.cells c1 t1)) w4) :
    w4.heap[w.heap.size]? = some (.cells c0 t0 (0, 0)) ∧ w4.heap[w.heap.size + 1]? = some (.cells c1 t1 (0, 0)) ∧ w.heap.size + 2 ≤ w4.heap.size ∧ Below w.heap.size w w4 := by
  have b0 := heap_alloc_new w (.cells c0 t0)
  have z0 : (w.alloc (.cells c0 t0)).heap.size = w.heap.size + 1 := by simp
  generalize hA : w.alloc (.cells c0 t0) = wA at *
  have hbA : Below w.heap.size w wA := by rw [← hA]; exact (Below.refl _ _).alloc (Nat.le_refl _) _
  have b1 := heap_alloc_new wA (.cells c1 t1)
  have b01 := blk_alloc b0 (.cells c1 t1)
  have hbB : Below w.heap.size w (wA.alloc (.cells c1 t1)) := hbA.alloc (by omega) _
  have z1 : (wA.alloc (.cells c1 t1)).heap.size = w.heap.size + 1 + 1 := by simp [z0]
  rw [z0] at b1
  generalize wA.alloc (.cells c1 t1) = wB at *
  exact ⟨(h.block _ (by omega)).trans b01, (h.block _ (by omega)).trans b1, by have := h.size; omega, hbB.trans (h.mono (by omega))⟩
set_option maxRecDepth 100000 in
set_option maxHeartbeats 4000000 in
theorem net_Reverse.calls (a0_0 : Int) (A0_1 : Option Addr) (c0_1 : Nat) (l0_1 : List (S37)) (a1 : Int) (r1 : Int) (r2 : List (S37)) (r3 : Int) (w : World) (hr0_1 : Kd.C k37 w A0_1 l0_1.length l0_1) (hc0_1 : l0_1.length ≤ c0_1) (h : net_Reverse.f a0_0 l0_1 a1 = some (r1, r2, r3)) :
    Calls Try.prog 34 #[.agg #[.int .i64 a0_0, .slice A0_1 l0_1.length c0_1], .int .i64 a1] w fun e w' => ∃ v1_ : Value, e = .returned (.tuple #[.agg #[.int .i64 r1, v1_], .int .i64 r3]) ∧ Kd.R k37 37 w' w.heap.size (fun _ => True) v1_ r2 ∧ Below w.heap.size w w' := by
  have hu24 := Try.underlying24
  have hu37 := Try.underlying37
  have HR0 := Lib.hid hr0_1
  clear hr0_1
  rw [net_Reverse.f] at h
  by_cases hv : chk a0_0 l0_1 = 0
  · rw [if_pos hv] at h
    have HF : RowKit.Hid (net_Check.f a0_0 l0_1 = some 0) := Lib.hid (by rw [net_Check.f, hv])
    have HV := Lib.hid hv
    clear hv
    by_cases hneg : a1 < 0
    · rw [if_pos hneg] at h
      simp only [Option.some.injEq, Prod.mk.injEq] at h
      obtain ⟨rfl, rfl, rfl⟩ := h
      have q1 : decide (a1 < 0) = true := decide_eq_true hneg
      clear hneg
      go_enter Try.func34, Try.ntmps34
      go_wp2_with (go_at_call 35; refine (net_Check.calls a0_0 A0_1 c0_1 l0_1 0 _ ?side1 hc0_1 HF.out).mono ?_; (case side1 => exact Kd.C_below HR0.out (((Below.refl _ w).alloc (Nat.le_refl _) _).alloc (by simp) _)); rintro e w4 ⟨rfl, hb4⟩; obtain ⟨k0, k1, hsz, hbw⟩ := boxesR hb4; have K0 := Lib.hid k0; have K1 := Lib.hid k1; have HBW := Lib.hid hbw; have HSZ := Lib.hid hsz; clear hb4 k0 k1 hbw hsz; have c00 : w4.cell? ⟨w.heap.size, 0, none⟩ = some (.int .i64 a0_0) := (blk_cell K0.out 0).trans rfl; have c01 : w4.cell? ⟨w.heap.size, 1, none⟩ = some (.slice A0_1 l0_1.length c0_1) := (blk_cell K0.out 1).trans rfl; have c10 : w4.cell? ⟨w.heap.size + 1, 0, none⟩ = some (.int .i64 0) := (blk_cell K1.out 0).trans rfl; have c11 : w4.cell? ⟨w.heap.size + 1, 1, none⟩ = some (.slice none 0 0) := (blk_cell K1.out 1).trans rfl; have f10 := blk_frozen K1.out 0; have f11 := blk_frozen K1.out 1)
      rw [setCell_id (i := 0) (v := .int .i64 0) K1.out rfl, setCell_id (i := 1) (v := .slice none 0 0) K1.out rfl]
      exact bodyPost_ret (v := .tuple #[.agg #[.int .i64 0, .slice none 0 0], .int .i64 1]) (by simp [results, Try.f34, go_sem, c10, c11]) rfl ⟨_, rfl, Kd.R_nil _ _ _ _ _, HBW.out⟩
    · rw [if_neg hneg] at h
      have q1 : decide (a1 < 0) = false := decide_eq_false hneg
      by_cases hbig : (l0_1.length : Int) ≤ a1
      · rw [if_pos hbig] at h
        simp only [Option.some.injEq, Prod.mk.injEq] at h
        obtain ⟨rfl, rfl, rfl⟩ := h
        have q2 : decide ((l0_1.length : Int) ≤ a1) = true := decide_eq_true hbig
        clear hneg hbig
        go_enter Try.func34, Try.ntmps34
        go_wp2_with (go_at_call 35; refine (net_Check.calls a0_0 A0_1 c0_1 l0_1 0 _ ?side1 hc0_1 HF.out).mono ?_; (case side1 => exact Kd.C_below HR0.out (((Below.refl _ w).alloc (Nat.le_refl _) _).alloc (by simp) _)); rintro e w4 ⟨rfl, hb4⟩; obtain ⟨k0, k1, hsz, hbw⟩ := boxesR hb4; have K0 := Lib.hid k0; have K1 := Lib.hid k1; have HBW := Lib.hid hbw; have HSZ := Lib.hid hsz; clear hb4 k0 k1 hbw hsz; have c00 : w4.cell? ⟨w.heap.size, 0, none⟩ = some (.int .i64 a0_0) := (blk_cell K0.out 0).trans rfl; have c01 : w4.cell? ⟨w.heap.size, 1, none⟩ = some (.slice A0_1 l0_1.length c0_1) := (blk_cell K0.out 1).trans rfl; have c10 : w4.cell? ⟨w.heap.size + 1, 0, none⟩ = some (.int .i64 0) := (blk_cell K1.out 0).trans rfl; have c11 : w4.cell? ⟨w.heap.size + 1, 1, none⟩ = some (.slice none 0 0) := (blk_cell K1.out 1).trans rfl; have f10 := blk_frozen K1.out 0; have f11 := blk_frozen K1.out 1)
        rw [setCell_id (i := 0) (v := .int .i64 0) K1.out rfl, setCell_id (i := 1) (v := .slice none 0 0) K1.out rfl]
        exact bodyPost_ret (v := .tuple #[.agg #[.int .i64 0, .slice none 0 0], .int .i64 1]) (by simp [results, Try.f34, go_sem, c10, c11]) rfl ⟨_, rfl, Kd.R_nil _ _ _ _ _, HBW.out⟩
      · rw [if_neg hbig] at h
        simp only [Option.some.injEq, Prod.mk.injEq] at h
        obtain ⟨rfl, rfl, rfl⟩ := h
        have q2 : decide ((l0_1.length : Int) ≤ a1) = false := decide_eq_false hbig
        have HN := Lib.hid hneg
        have HG := Lib.hid hbig
        clear hneg hbig
        go_enter Try.func34, Try.ntmps34
        go_wp2_with (first | (go_at_call 35; refine (net_Check.calls a0_0 A0_1 c0_1 l0_1 0 _ ?side1 hc0_1 HF.out).mono ?_; (case side1 => exact Kd.C_below HR0.out (((Below.refl _ w).alloc (Nat.le_refl _) _).alloc (by simp) _)); rintro e w4 ⟨rfl, hb4⟩; obtain ⟨k0, k1, hsz, hbw⟩ := boxesR hb4; have K0 := Lib.hid k0; have K1 := Lib.hid k1; have HBW := Lib.hid hbw; have HSZ := Lib.hid hsz; clear hb4 k0 k1 hbw hsz; have c00 : w4.cell? ⟨w.heap.size, 0, none⟩ = some (.int .i64 a0_0) := (blk_cell K0.out 0).trans rfl; have c01 : w4.cell? ⟨w.heap.size, 1, none⟩ = some (.slice A0_1 l0_1.length c0_1) := (blk_cell K0.out 1).trans rfl; have c10 : w4.cell? ⟨w.heap.size + 1, 0, none⟩ = some (.int .i64 0) := (blk_cell K1.out 0).trans rfl; have c11 : w4.cell? ⟨w.heap.size + 1, 1, none⟩ = some (.slice none 0 0) := (blk_cell K1.out 1).trans rfl; have f10 := blk_frozen K1.out 0; have f11 := blk_frozen K1.out 1; have l0 : w.heap.size < w4.heap.size := (by have := HSZ.out; omega); have l1 : w.heap.size + 1 < w4.heap.size := (by have := HSZ.out; omega)) | fail)
        go_region_with (go_at_call 85; refine (cloneL_calls A0_1 c0_1 l0_1 _ ?sideC ?sideL).mono ?_; (case sideC => first | exact Kd.C_below HR0.out HBW.out.drew | exact Kd.C_below HR0.out (HBW.out.alloc HBW.out.size _).drew); (case sideL => have := (chk_ok HV.out).2.2.1; omega); rintro e w5 ⟨v5, rfl, r5, b5⟩; obtain ⟨g5, c5, rfl, hg5b, hg5l, _⟩ := Kd.R_form r5 (by have := HN.out; have := HG.out; omega); have hs5 := HSZ.out; have k05 : w5.heap[w.heap.size]? = some (.cells #[.int .i64 a0_0, .slice A0_1 l0_1.length c0_1] 24 (0, 0)) := (by first | exact (b5.block _ (by simp; omega)).trans K0.out | exact (b5.block _ (by simp; omega)).trans (blk_alloc K0.out _)); have k15 : w5.heap[w.heap.size + 1]? = some (.cells #[.int .i64 0, .slice none 0 0] 24 (0, 0)) := (by first | exact (b5.block _ (by simp; omega)).trans K1.out | exact (b5.block _ (by simp; omega)).trans (blk_alloc K1.out _)); have K05 := Lib.hid k05; have K15 := Lib.hid k15; have R5 : RowKit.Hid (Kd.R k37 37 w5 w4.heap.size (fun _ => True) (.slice (some ⟨g5, 0, none⟩) l0_1.length c5) l0_1) := Lib.hid (Kd.R_lower r5 (by simp)); have HB5 : RowKit.Hid (Below w.heap.size w w5) := (by first | exact Lib.hid (HBW.out.drew.trans (b5.mono (by simp; omega))) | exact Lib.hid ((HBW.out.alloc HBW.out.size _).drew.trans (b5.mono (by simp; omega)))); have z05 : w5.cell? ⟨w.heap.size, 0, none⟩ = some (.int .i64 a0_0) := (blk_cell K05.out 0).trans rfl; have z15 : w5.cell? ⟨w.heap.size + 1, 0, none⟩ = some (.int .i64 0) := (blk_cell K15.out 0).trans rfl; have z16 : w5.cell? ⟨w.heap.size + 1, 1, none⟩ = some (.slice none 0 0) := (blk_cell K15.out 1).trans rfl; have y15 := blk_frozen K15.out 0; have y16 := blk_frozen K15.out 1; (first | (have k25 : w5.heap[w4.heap.size]? = some (.cells #[.int .i64 0, .slice none 0 0] 24 (0, 0)) := (b5.block _ (by simp; done)).trans (heap_alloc_new w4 _); have K25 := Lib.hid k25; have z25 : w5.cell? ⟨w4.heap.size, 0, none⟩ = some (.int .i64 0) := (blk_cell K25.out 0).trans rfl; have z26 : w5.cell? ⟨w4.heap.size, 1, none⟩ = some (.slice none 0 0) := (blk_cell K25.out 1).trans rfl; have y25 := blk_frozen K25.out 0; have y26 := blk_frozen K25.out 1; clear k25) | skip); have l05 : w.heap.size < w5.heap.size := (by have := b5.size; simp at this; omega); have l15 : w.heap.size + 1 < w5.heap.size := (by have := b5.size; simp at this; omega); (first | (have l25 : w4.heap.size < w5.heap.size := (by have := b5.size; simp at this; omega)) | skip); clear r5 b5 hs5 k05 k15)
        all_goals (first
          | (generalize hw6 : w5.alloc (Obj.cells #[.int .i64 a0_0, .slice (some ⟨g5, 0, none⟩) l0_1.length c5] 24) = w6
             obtain ⟨g, hg⟩ : ∃ g, g = w5.heap.size := ⟨_, rfl⟩
             rw [← hg]
             have k6 : w6.heap[g]? = some (.cells #[.int .i64 a0_0, .slice (some ⟨g5, 0, none⟩) l0_1.length c5] 24 (0, 0)) := by rw [← hw6, hg]; exact heap_alloc_new w5 _
             have k16 : w6.heap[w.heap.size + 1]? = some (.cells #[.int .i64 0, .slice none 0 0] 24 (0, 0)) := by rw [← hw6]; exact blk_alloc K15.out _
             have r6 : Kd.R k37 37 w6 w4.heap.size (fun _ => True) (.slice (some ⟨g5, 0, none⟩) l0_1.length c5) l0_1 := by rw [← hw6]; exact Kd.R_alloc R5.out _
             have b6 : Below w.heap.size w w6 := by rw [← hw6]; exact HB5.out.alloc HB5.out.size _)
          | (generalize hw6 : (w5.setCell ⟨w4.heap.size, 0, none⟩ (.int .i64 a0_0)).setCell ⟨w4.heap.size, 1, none⟩ (.slice (some ⟨g5, 0, none⟩) l0_1.length c5) = w6
             obtain ⟨g, hg⟩ : ∃ g, g = w4.heap.size := ⟨_, rfl⟩
             rw [← hg]
             have k6 : w6.heap[g]? = some (.cells #[.int .i64 a0_0, .slice (some ⟨g5, 0, none⟩) l0_1.length c5] 24 (0, 0)) := by rw [← hw6, hg]; exact blk_set (blk_set K25.out 0 _) 1 _
             have k16 : w6.heap[w.heap.size + 1]? = some (.cells #[.int .i64 0, .slice none 0 0] 24 (0, 0)) := by rw [← hw6]; exact blk_far (blk_far K15.out (by simp; omega) _) (by simp; omega) _
             have r6 : Kd.R k37 37 w6 w4.heap.size (fun _ => True) (.slice (some ⟨g5, 0, none⟩) l0_1.length c5) l0_1 := by rw [← hw6]; exact Kd.R_set (Kd.R_set R5.out K25.out (by decide) 0 _) (blk_set K25.out 0 _) (by decide) 1 _
             have b6 : Below w.heap.size w w6 := by rw [← hw6]; exact (HB5.out.setCell (p := ⟨w4.heap.size, 0, none⟩) (by have := HSZ.out; simp; omega) _).setCell (p := ⟨w4.heap.size, 1, none⟩) (by have := HSZ.out; simp; omega) _))
        all_goals (
          have hlb : 0 ≤ a1 := by have := HN.out; omega
          have hub : a1 < (l0_1.length : Int) := by have := HG.out; omega
          obtain ⟨cs, hcl, hM, hcc, hfr⟩ := Kd.R_elem r6 z37 a1 hlb hub
          have hx := k37_openM hM
          rw [show l0_1.getD a1.toNat z37 = rd_T37 l0_1 a1 from rfl] at hx
          subst hx
          have x0 : w6.cell? ⟨g5, a1.toNat * 4, none⟩ = some (.int .i64 (rd_T37 l0_1 a1).f0) := hcc 0 _ rfl
          have x1 : w6.cell? ⟨g5, a1.toNat * 4 + 1, none⟩ = some (.int .i64 (rd_T37 l0_1 a1).f1) := hcc 1 _ rfl
          have x2 : w6.frozen? ⟨g5, a1.toNat * 4, none⟩ = false := hfr 0
          have x3 : w6.frozen? ⟨g5, a1.toNat * 4 + 1, none⟩ = false := hfr 1
          have q3 : decide (0 ≤ a1) = true := decide_eq_true hlb
          have q4 : decide (a1 < (l0_1.length : Int)) = true := decide_eq_true hub
          have q5 : (0 ≤ a1) = True := eq_true hlb
          have q6 : (a1 < (l0_1.length : Int)) = True := eq_true hub
          have X := Lib.hid hw6
          have K6 := Lib.hid k6
          have K16 := Lib.hid k16
          have R6 := Lib.hid r6
          have B6 := Lib.hid b6
          have c60 : w6.cell? ⟨g, 0, none⟩ = some (.int .i64 a0_0) := (blk_cell K6.out 0).trans rfl
          have c61 : w6.cell? ⟨g, 1, none⟩ = some (.slice (some ⟨g5, 0, none⟩) l0_1.length c5) := (blk_cell K6.out 1).trans rfl
          have c70 : w6.cell? ⟨w.heap.size + 1, 0, none⟩ = some (.int .i64 0) := (blk_cell K16.out 0).trans rfl
          have c71 : w6.cell? ⟨w.heap.size + 1, 1, none⟩ = some (.slice none 0 0) := (blk_cell K16.out 1).trans rfl
          have f70 := blk_frozen K16.out 0
          have f71 := blk_frozen K16.out 1
          clear hw6 k6 k16 r6 b6 hlb hub hcc hM hcl hfr hg
          clear z05 z15 z16 y15 y16 c00 c01 c10 c11 f10 f11 l0 l1 l05 l15
          go_wp2
          go_region
          clear c60 c61 c70 c71 f70 f71 x0 x1 x2 x3
          generalize hw7 : ((w6.setCell ⟨g5, a1.toNat * 4, none⟩ (.int .i64 (rd_T37 l0_1 a1).f1)).setCell ⟨g5, a1.toNat * 4 + 1, none⟩ (.int .i64 (rd_T37 l0_1 a1).f0)).drew = w7
          obtain ⟨cells5, h5⟩ := Kd.R_typed R6.out g5 (by simp [Value.ownBlock])
          have n1 : g ≠ g5 := blk_ne K6.out h5 (by decide)
          have n2 : w.heap.size + 1 ≠ g5 := blk_ne K16.out h5 (by decide)
          have k7 : w7.heap[g]? = some (.cells #[.int .i64 a0_0, .slice (some ⟨g5, 0, none⟩) l0_1.length c5] 24 (0, 0)) := by rw [← hw7]; exact blk_drew (blk_far (blk_far K6.out n1 _) n1 _)
          have k17 : w7.heap[w.heap.size + 1]? = some (.cells #[.int .i64 0, .slice none 0 0] 24 (0, 0)) := by rw [← hw7]; exact blk_drew (blk_far (blk_far K16.out n2 _) n2 _)
          have r7 : Kd.R k37 37 w7 w4.heap.size (fun _ => True) (.slice (some ⟨g5, 0, none⟩) l0_1.length c5) (l0_1.set a1.toNat (swapL (rd_T37 l0_1 a1))) := by rw [← hw7]; exact Kd.R_drew (k37_two R6.out a1 HN.out HG.out _ _)
          have b7 : Below w.heap.size w w7 := by
            have hb := Kd.R_base R6.out g5 (by simp [Value.ownBlock])
            have := HSZ.out
            rw [← hw7]; exact ((B6.out.setCell (p := ⟨g5, a1.toNat * 4, none⟩) (by simp; omega) _).setCell (p := ⟨g5, a1.toNat * 4 + 1, none⟩) (by simp; omega) _).drew
          have K7 := Lib.hid k7
          have K17 := Lib.hid k17
          have R7 := Lib.hid r7
          have B7 := Lib.hid b7
          have c60 : w7.cell? ⟨g, 0, none⟩ = some (.int .i64 a0_0) := (blk_cell K7.out 0).trans rfl
          have c61 : w7.cell? ⟨g, 1, none⟩ = some (.slice (some ⟨g5, 0, none⟩) l0_1.length c5) := (blk_cell K7.out 1).trans rfl
          have c70 : w7.cell? ⟨w.heap.size + 1, 0, none⟩ = some (.int .i64 0) := (blk_cell K17.out 0).trans rfl
          have c71 : w7.cell? ⟨w.heap.size + 1, 1, none⟩ = some (.slice none 0 0) := (blk_cell K17.out 1).trans rfl
          have f70 := blk_frozen K17.out 0
          have f71 := blk_frozen K17.out 1
          clear hw7 k7 k17 r7 b7 h5 n1 n2
          go_wp2
          have K8 := blk_set (blk_set K17.out 0 (.int .i64 a0_0)) 1 (.slice (some ⟨g5, 0, none⟩) l0_1.length c5)
          have c80 := (blk_cell K8 0).trans rfl
          have c81 := (blk_cell K8 1).trans rfl
          exact bodyPost_ret (v := .tuple #[.agg #[.int .i64 a0_0, .slice (some ⟨g5, 0, none⟩) l0_1.length c5], .int .i64 0]) (by simp [results, Try.f34, go_sem, c80, c81]) rfl ⟨_, rfl, Kd.R_lower (Kd.R_set (Kd.R_set R7.out K17.out (by decide) 0 _) (blk_set K17.out 0 _) (by decide) 1 _) (by have := HSZ.out; omega), (B7.out.setCell (p := ⟨w.heap.size + 1, 0, none⟩) (by simp) _).setCell (p := ⟨w.heap.size + 1, 1, none⟩) (by simp) _⟩)
  · rw [if_neg hv] at h
    simp only [Option.some.injEq, Prod.mk.injEq] at h
    obtain ⟨rfl, rfl, rfl⟩ := h
    have HF : RowKit.Hid (net_Check.f a0_0 l0_1 = some (chk a0_0 l0_1)) := Lib.hid rfl
    obtain ⟨e0, he⟩ : ∃ e0, e0 = chk a0_0 l0_1 := ⟨_, rfl⟩
    rw [← he] at HF hv ⊢
    have q0 : decide (e0 = 0) = false := decide_eq_false hv
    clear he
    go_enter Try.func34, Try.ntmps34
    go_wp2_with (go_at_call 35; refine (net_Check.calls a0_0 A0_1 c0_1 l0_1 e0 _ ?side1 hc0_1 HF.out).mono ?_; (case side1 => exact Kd.C_below HR0.out (((Below.refl _ w).alloc (Nat.le_refl _) _).alloc (by simp) _)); rintro e w4 ⟨rfl, hb4⟩; obtain ⟨k0, k1, hsz, hbw⟩ := boxesR hb4; have K0 := Lib.hid k0; have K1 := Lib.hid k1; have HBW := Lib.hid hbw; have HSZ := Lib.hid hsz; clear hb4 k0 k1 hbw hsz; have c00 : w4.cell? ⟨w.heap.size, 0, none⟩ = some (.int .i64 a0_0) := (blk_cell K0.out 0).trans rfl; have c01 : w4.cell? ⟨w.heap.size, 1, none⟩ = some (.slice A0_1 l0_1.length c0_1) := (blk_cell K0.out 1).trans rfl; have c10 : w4.cell? ⟨w.heap.size + 1, 0, none⟩ = some (.int .i64 0) := (blk_cell K1.out 0).trans rfl; have c11 : w4.cell? ⟨w.heap.size + 1, 1, none⟩ = some (.slice none 0 0) := (blk_cell K1.out 1).trans rfl; have f10 := blk_frozen K1.out 0; have f11 := blk_frozen K1.out 1)
    rw [setCell_id (i := 0) (v := .int .i64 0) K1.out rfl, setCell_id (i := 1) (v := .slice none 0 0) K1.out rfl]
    exact bodyPost_ret (v := .tuple #[.agg #[.int .i64 0, .slice none 0 0], .int .i64 e0]) (by simp [results, Try.f34, go_sem, c10, c11]) rfl ⟨_, rfl, Kd.R_nil _ _ _ _ _, HBW.out⟩

end Go.Proofs.Ytdpgdelimffjpaa.P
