-- Written by wip/drive.py (a prover's driver over the kit's print.py); hand-proved contracts stand among the printed ones. Lean checks it.
import Derived.Test.YtdpgdelimffjpaaFBase
import Derived.Test.YtdpgdelimffjpaaF32
import Derived.Test.YtdpgdelimffjpaaF81
import Derived.Test.YtdpgdelimffjpaaF81
import Derived.Outline
import Derived.Lib.Hide
import Derived.Deep.QuietTactic
import Derived.BigQuiet
import Derived.BigRegion
namespace Go.Proofs.Ytdpgdelimffjpaa.P
open Go.RowKit Go.Proofs.YtdpgdelimffjpaaW.PrintWords Go.Proofs.YtdpgdelimffjpaaW.PrintLast Go.Proofs.YtdpgdelimffjpaaW.PrintMore
attribute [local go_sem] max2_int min2_int max_two min_two max_three min_three max_four min_four   -- for this text's walks alone
set_option linter.unusedVariables false
set_option linter.unusedSimpArgs false

/-! ### island_Consistent: function 37: by hand -/
-- import Derived.Test.YtdpgdelimffjpaaF81
-- import Derived.Outline
-- import Derived.Lib.Hide
-- import Derived.Deep.QuietTactic
-- import Derived.BigQuiet
-- import Derived.BigRegion
set_option maxRecDepth 100000 in
set_option maxHeartbeats 4000000 in
theorem unlike_calls (g : Nat) (A : Option Addr) (c : Nat) (l : List Int) (x : S37) (w : World) (hg : w.cell? ⟨g, 0, none⟩ = some (.slice A l.length c)) (hl : Kd.C (Kd.int .i64) w A l.length l) (u v : Nat) (hu : x.f0 = (u : Int)) (hv : x.f1 = (v : Int)) (hul : u < l.length) (hvl : v < l.length) :
    Calls Try.prog 87 #[.agg #[.int .i64 x.f0, .int .i64 x.f1, .int .i64 x.f2, .int .i64 x.f3], .pointer (some ⟨g, 0, none⟩)] w fun e w' => e = .returned (.bool (rd l (u : Int) != rd l (v : Int))) ∧ Below w.heap.size w w' := by
  have hu37 := Try.underlying37
  rw [hu, hv]
  have hgl := World.block_lt_of_cell? w _ hg
  obtain ⟨ad, e0, e1⟩ := Kd.at_int hl (u : Int) (by omega) (by omega)
  subst e0
  obtain ⟨ad2, e2, e3⟩ := Kd.at_int hl (v : Int) (by omega) (by omega)
  cases e2
  rw [Int.toNat_natCast] at e1 e3
  obtain ⟨xu, hxu⟩ : ∃ x, x = rd l (u : Int) := ⟨_, rfl⟩
  obtain ⟨xv, hxv⟩ : ∃ x, x = rd l (v : Int) := ⟨_, rfl⟩
  rw [← hxu] at e1
  rw [← hxv] at e3
  rw [← hxu, ← hxv]
  clear hxu hxv hu hv
  have hL := Kd.C_max hl
  have h1l := World.block_lt_of_cell? w _ e1
  have h3l := World.block_lt_of_cell? w _ e3
  clear hl
  go_enter Try.func87, Try.ntmps87
  go_wp2_with fail
  go_quiet (fail)
  go_wp2_with fail
  go_ret
  exact ⟨rfl, pw_below_drewN (below_alloc (Below.refl _ _) _) _⟩
def unl (l : List Int) (x : S37) : Bool := rd l x.f0 != rd l x.f1
set_option maxRecDepth 100000 in
set_option maxHeartbeats 4000000 in
theorem indexFunc_calls (g : Nat) (A : Option Addr) (c : Nat) (l : List Int) (Am : Option Addr) (cm : Nat) (SL : List S37) (w : World) (hg : w.heap[g]? = some (.cells #[.slice A l.length c] 25 (0, 0))) (hl : Kd.C (Kd.int .i64) w A l.length l) (hS : Kd.C k37 w Am SL.length SL) (hok : ∀ i : Nat, i < SL.length → ∃ u v : Nat, (rd_T37 SL (i : Int)).f0 = (u : Int) ∧ (rd_T37 SL (i : Int)).f1 = (v : Int) ∧ u < l.length ∧ v < l.length) :
    Calls Try.prog 113 #[.slice Am SL.length cm, .func (.func 87) #[] #[.pointer (some ⟨g, 0, none⟩)]] w fun e w' => ∃ i : Int, e = .returned (.int .i64 i) ∧ (0 ≤ i ↔ ∃ j : Nat, j < SL.length ∧ unl l (rd_T37 SL (j : Int)) = true) ∧ Below w.heap.size w w' := by
  have hu37 := Try.underlying37
  have HG := Lib.hid hg
  have HL := Lib.hid hl
  have HS := Lib.hid hS
  have HOK := Lib.hid hok
  have hLS := Kd.C_max hS
  clear hg hl hS hok
  go_enter Try.func113, Try.ntmps113
  go_wp2_with fail
  go_loopg [8] SL.length (fun kq v8 wr => ∃ i : Nat, i ≤ SL.length ∧ v8 = .int .i64 (i : Int) ∧ Hid (kq = SL.length - i ∧ Below w.heap.size w wr ∧ ∀ j : Nat, j < i → unl l (rd_T37 SL (j : Int)) = false))
  case atStart => exact ⟨0, Nat.zero_le _, rfl, rfl, Below.refl _ _, fun j hj => absurd hj (Nat.not_lt_zero _)⟩
  case round =>
    obtain ⟨i, hi, rfl, HI⟩ := hrel
    by_cases hlt : i < SL.length
    · have q1 : decide ((i : Int) < (SL.length : Int)) = true := decide_eq_true (by omega)
      obtain ⟨u, v, hu, hv, hul, hvl⟩ := HOK.out i hlt
      obtain ⟨ad, hAm, e0, e1, e2, e3⟩ := at_T37 (Kd.C_below HS.out HI.out.2.1) (i : Int) (by omega) (by omega)
      subst hAm
      rw [Int.toNat_natCast] at e0 e1 e2 e3
      obtain ⟨x, hx⟩ : ∃ x, x = rd_T37 SL (i : Int) := ⟨_, rfl⟩
      rw [← hx] at e0 e1 e2 e3 hu hv
      have HX := Lib.hid hx
      clear hx
      obtain ⟨b, hb⟩ : ∃ b, b = unl l x := ⟨_, rfl⟩
      have hcall := unlike_calls g A c l x wr ((blk_cell (blk_below HG.out HI.out.2.1) 0).trans rfl) (Kd.C_below HL.out HI.out.2.1) u v hu hv hul hvl
      have hbe : (rd l (u : Int) != rd l (v : Int)) = b := by rw [hb, unl, hu, hv]
      rw [hbe] at hcall
      have HB := Lib.hid hb
      have HCALL := Lib.hid hcall
      clear hb hcall hbe hu hv
      cases b with
      | true =>
        go_wp2_with (go_at_call 87; refine HCALL.out.mono ?_; rintro e w' ⟨rfl, hb'⟩; have HB' := Lib.hid hb'; clear hb')
        go_ret
        exact ⟨_, rfl, ⟨fun _ => ⟨i, hlt, by rw [← HX.out]; exact HB.out.symm⟩, fun _ => by omega⟩, HI.out.2.1.trans (HB'.out.mono HI.out.2.1.size)⟩
      | false =>
        go_wp2_with (go_at_call 87; refine HCALL.out.mono ?_; rintro e w' ⟨rfl, hb'⟩; have HB' := Lib.hid hb'; clear hb')
        go_roundg (SL.length - (i + 1))
        case measure => have := HI.out.1; omega
        case rel =>
          refine ⟨i + 1, by omega, rfl, rfl, HI.out.2.1.trans (HB'.out.mono HI.out.2.1.size), fun j hj => ?_⟩
          by_cases hji : j = i
          · rw [hji, ← HX.out]; exact HB.out.symm
          · exact HI.out.2.2 j (by omega)
    · have q1 : decide ((i : Int) < (SL.length : Int)) = false := decide_eq_false (by omega)
      go_wp2_with fail
      go_ret
      refine ⟨_, rfl, ⟨fun h => absurd h (by decide), fun ⟨j, hj, hu⟩ => ?_⟩, HI.out.2.1⟩
      rw [HI.out.2.2 j (by omega)] at hu
      cases hu
set_option maxRecDepth 100000 in
set_option maxHeartbeats 4000000 in
theorem containsFunc_calls (g : Nat) (A : Option Addr) (c : Nat) (l : List Int) (Am : Option Addr) (cm : Nat) (SL : List S37) (w : World) (hg : w.heap[g]? = some (.cells #[.slice A l.length c] 25 (0, 0))) (hl : Kd.C (Kd.int .i64) w A l.length l) (hS : Kd.C k37 w Am SL.length SL) (hok : ∀ i : Nat, i < SL.length → ∃ u v : Nat, (rd_T37 SL (i : Int)).f0 = (u : Int) ∧ (rd_T37 SL (i : Int)).f1 = (v : Int) ∧ u < l.length ∧ v < l.length) (b : Bool) (hb : b = true ↔ ∃ j : Nat, j < SL.length ∧ unl l (rd_T37 SL (j : Int)) = true) :
    Calls Try.prog 88 #[.slice Am SL.length cm, .func (.func 87) #[] #[.pointer (some ⟨g, 0, none⟩)]] w fun e w' => e = .returned (.bool b) ∧ Below w.heap.size w w' := by
  have HC := Lib.hid (indexFunc_calls g A c l Am cm SL w hg hl hS hok)
  have HB := Lib.hid hb
  clear hg hl hS hok hb
  go_enter Try.func88, Try.ntmps88
  go_wp2_with fail
  go_at_call 113
  refine HC.out.mono ?_
  rintro e w1 ⟨i, rfl, hi, hb1⟩
  have HB1 := Lib.hid hb1
  cases b with
  | true =>
    have h0 : 0 ≤ i := hi.2 (HB.out.1 rfl)
    have q1 : decide (0 ≤ i) = true := decide_eq_true h0
    clear hi hb1
    go_wp2_with fail
    go_ret
    exact ⟨rfl, HB1.out⟩
  | false =>
    have h0 : ¬ 0 ≤ i := fun h => by have := HB.out.2 (hi.1 h); cases this
    have q1 : decide (0 ≤ i) = false := decide_eq_false h0
    clear hi hb1
    go_wp2_with fail
    go_ret
    exact ⟨rfl, HB1.out⟩
def island_Consistent.f (a0_0 : Int) (l0_1 : List (S37)) (l1 : List Int) (l2 : List Int) : Option (Bool × Int) :=
  if outsV a0_0 l0_1 l1 = 0 then (if a0_0 < (l2.length : Int) then some (false, 5) else some ((edges l0_1 l1).all (fun e => rd l2 (e.1 : Int) == rd l2 (e.2 : Int)), 0)) else some (false, outsV a0_0 l0_1 l1)
/-- What the copied labels read: the labels, with zeros behind. -/
theorem rd_pad (l : List Int) (n : Nat) (i : Nat) : rd (l ++ List.replicate n (0 : Int)) (i : Int) = rd l (i : Int) := by
  simp only [rd, Int.toNat_natCast, List.getD_eq_getElem?_getD]
  by_cases h : i < l.length
  · rw [List.getElem?_append_left h]
  · rw [List.getElem?_append_right (by omega), List.getElem?_eq_none (by omega : l.length ≤ i), List.getElem?_replicate]
    split <;> rfl
/-- 'unlike' on the lines in service, against the edges. -/
theorem unl_edges {N : Nat} {L : List S37} {out : List Int} (h : outsV (N : Int) L out = 0) {SL : List S37} (hSL : SL = (inn L out).map (fun (k : Nat) => rd_T37 L (k : Int))) (lk : List Int) (l2 : List Int) (hlk : ∀ i : Nat, rd lk (i : Int) = rd l2 (i : Int)) : (!(edges L out).all (fun e => rd l2 (e.1 : Int) == rd l2 (e.2 : Int))) = true ↔ ∃ j : Nat, j < SL.length ∧ unl lk (rd_T37 SL (j : Int)) = true := by
  have hle : (edges L out).length = SL.length := by unfold edges; rw [hSL, List.length_map, List.length_map]
  have hget : ∀ (j : Nat) (hj : j < (edges L out).length), rd lk (rd_T37 SL (j : Int)).f0 = rd l2 ((edges L out)[j].1 : Int) ∧ rd lk (rd_T37 SL (j : Int)).f1 = rd l2 ((edges L out)[j].2 : Int) := by
    intro j hj
    obtain ⟨u, v, hu, hv, _, _, _, htk⟩ := edge_ok h hSL j (by omega)
    rw [List.take_succ_eq_append_getElem hj] at htk
    have e := List.append_cancel_left htk
    simp only [List.cons.injEq, and_true] at e
    rw [e, hu, hv]
    exact ⟨hlk u, hlk v⟩
  constructor
  · intro ha
    simp only [Bool.not_eq_true', List.all_eq_false] at ha
    obtain ⟨e, he, hne⟩ := ha
    obtain ⟨j, hj, rfl⟩ := List.getElem_of_mem he
    refine ⟨j, by omega, ?_⟩
    obtain ⟨e1, e2⟩ := hget j hj
    rw [unl, e1, e2]
    simpa using hne
  · rintro ⟨j, hj, hu⟩
    have hj' : j < (edges L out).length := by omega
    obtain ⟨e1, e2⟩ := hget j hj'
    rw [unl, e1, e2] at hu
    simp only [Bool.not_eq_true', List.all_eq_false]
    exact ⟨_, List.getElem_mem hj', by simpa using hu⟩
theorem info3s : (Try.prog.info? 3).map (·.size) = some 1 := by
  have e := info3
  rw [Option.map_eq_some_iff] at e
  obtain ⟨i, hi, hz⟩ := e
  simp only [Prod.mk.injEq] at hz
  rw [hi, Option.map_some, hz.2.1]
set_option maxRecDepth 100000 in
set_option maxHeartbeats 4000000 in
theorem island_Consistent.calls (a0_0 : Int) (A0_1 : Option Addr) (c0_1 : Nat) (l0_1 : List (S37)) (A1 : Option Addr) (c1 : Nat) (l1 : List Int) (A2 : Option Addr) (c2 : Nat) (l2 : List Int) (r1 : Bool) (r2 : Int) (w : World) (hr0_1 : Kd.C k37 w A0_1 l0_1.length l0_1) (hc0_1 : l0_1.length ≤ c0_1) (hr1 : Kd.C (Kd.int .i64) w A1 l1.length l1) (hc1 : l1.length ≤ c1) (hr2 : Kd.C (Kd.int .i64) w A2 l2.length l2) (hc2 : l2.length ≤ c2) (h : island_Consistent.f a0_0 l0_1 l1 l2 = some (r1, r2)) :
    Calls Try.prog 37 #[.agg #[.int .i64 a0_0, .slice A0_1 l0_1.length c0_1], .slice A1 l1.length c1, .slice A2 l2.length c2] w fun e w' => e = .returned (.tuple #[.bool r1, .int .i64 r2]) ∧ Below w.heap.size w w' := by
  have hu24 := Try.underlying24
  have hu37 := Try.underlying37
  have HR0 := Lib.hid hr0_1
  have HR1 := Lib.hid hr1
  have HR2 := Lib.hid hr2
  have hL2 := Kd.C_max hr2
  clear hr0_1 hr1 hr2
  have HB1 := Lib.hid (below_alloc (Below.refl w.heap.size w) (.cells #[.int .i64 a0_0, .slice A0_1 l0_1.length c0_1] 24))
  have blk0 := heap_alloc_new w (.cells #[.int .i64 a0_0, .slice A0_1 l0_1.length c0_1] 24)
  have BK := Lib.hid blk0
  clear blk0
  by_cases hv : outsV a0_0 l0_1 l1 = 0
  · rw [island_Consistent.f, if_pos hv] at h
    obtain ⟨SL, hSL⟩ : ∃ SL, SL = (inn l0_1 l1).map (fun (k : Nat) => rd_T37 l0_1 (k : Int)) := ⟨_, rfl⟩
    have hst : net_Strip.f a0_0 l0_1 l1 = some (a0_0, SL, (inn l0_1 l1).map (fun (k : Nat) => (k : Int)), 0) := by rw [net_Strip.f, if_pos hv, hSL]
    have HSL := Lib.hid hSL
    have HST := Lib.hid hst
    have HV := Lib.hid hv
    clear hst hv hSL
    have hN := (chk_ok (outsV_ok HV.out).1)
    obtain ⟨N, rfl⟩ := Int.eq_ofNat_of_zero_le (show 0 ≤ a0_0 by omega)
    have hN6 : N ≤ 6 := by omega
    clear hN
    by_cases hlong : (N : Int) < (l2.length : Int)
    · rw [if_pos hlong] at h
      simp only [Option.some.injEq, Prod.mk.injEq] at h
      obtain ⟨rfl, rfl⟩ := h
      have q1 : decide ((N : Int) < (l2.length : Int)) = true := decide_eq_true hlong
      go_enter Try.func37, Try.ntmps37
      go_wp2_with fail
      go_at_call 32
      refine (net_Strip.calls N _ _ l0_1 _ _ l1 _ _ _ _ _ ?side1 hc0_1 ?side2 hc1 HST.out).mono ?_
      (case side1 => exact Kd.C_below HR0.out HB1.out)
      (case side2 => exact Kd.C_below HR1.out HB1.out)
      rintro e w4 ⟨v1, v2, rfl, hs1, hs2, hb4⟩
      obtain ⟨Am, cm, rfl⟩ := Kd.R_slice hs1
      have k0 := blk_below BK.out hb4
      have hw0 : w.heap.size < w4.heap.size := blk_lt k0
      have c00 : w4.cell? ⟨w.heap.size, 0, none⟩ = some (.int .i64 (N : Int)) := (blk_cell k0 0).trans rfl
      have HB4 := Lib.hid (HB1.out.trans (hb4.mono HB1.out.size))
      clear hs1 hs2 hb4 k0
      go_wp2_with fail
      refine bodyPost_ret (v := .tuple #[.bool false, .int .i64 5]) (by simp [results, Try.f37, go_sem]) rfl ⟨rfl, HB4.out.alloc (by omega) _⟩
    · rw [if_neg hlong] at h
      simp only [Option.some.injEq, Prod.mk.injEq] at h
      obtain ⟨h1, rfl⟩ := h
      have q1 : decide ((N : Int) < (l2.length : Int)) = false := decide_eq_false hlong
      have HR := Lib.hid h1
      clear h1
      go_enter Try.func37, Try.ntmps37
      go_wp2_with fail
      go_at_call 32
      refine (net_Strip.calls N _ _ l0_1 _ _ l1 _ _ _ _ _ ?side1 hc0_1 ?side2 hc1 HST.out).mono ?_
      (case side1 => exact Kd.C_below HR0.out HB1.out)
      (case side2 => exact Kd.C_below HR1.out HB1.out)
      rintro e w4 ⟨v1, v2, rfl, hs1, hs2, hb4⟩
      obtain ⟨Am, cm, rfl⟩ := Kd.R_slice hs1
      have k0 := blk_below BK.out hb4
      have hw0 : w.heap.size < w4.heap.size := blk_lt k0
      have c00 : w4.cell? ⟨w.heap.size, 0, none⟩ = some (.int .i64 (N : Int)) := (blk_cell k0 0).trans rfl
      have HB4 := Lib.hid (HB1.out.trans (hb4.mono HB1.out.size))
      have S1 := Lib.hid (Kd.R_reads' hs1).2.2
      have K0 := Lib.hid k0
      clear hs1 hs2 hb4 k0
      obtain ⟨W4, hW4⟩ : ∃ W4, W4 = w4.alloc (.cells #[.int .i64 (N : Int), .slice Am SL.length cm] 24) := ⟨_, rfl⟩
      have M4 := Lib.hid (show W4.heap[w4.heap.size]? = some (.cells #[.int .i64 (N : Int), .slice Am SL.length cm] 24 (0, 0)) by rw [hW4]; exact heap_alloc_new w4 _)
      have S4 := Lib.hid (show Kd.C k37 W4 Am SL.length SL by rw [hW4]; exact Kd.C_alloc S1.out _)
      have R4 := Lib.hid (show Kd.C (Kd.int .i64) W4 A2 l2.length l2 by rw [hW4]; exact Kd.C_alloc (Kd.C_below HR2.out HB4.out) _)
      have B4 := Lib.hid (show Below w.heap.size w W4 by rw [hW4]; exact HB4.out.alloc (by omega) _)
      have z4 : W4.heap.size = w4.heap.size + 1 := by rw [hW4]; simp
      have HW4 := Lib.hid hW4
      clear hW4
      go_wp2_with (first | ((with_reducible refine gate_dst (N := 32) rfl ?_); rw [← HW4.out]; refine Kd.R_make (Kd.int .i64) (w0 := W4) W4.heap.size 3 rfl (N := 32) rfl 25 _ _ rfl (N : Int) rfl rfl Try.underlying25 (.int .i64 0) 8 info3 rfl (by decide) (by omega) 0 (ok := fun _ => True) (okp := fun _ => True) rfl (fun _ hk => hk) trivial (by omega) (by omega) (Below.refl _ _) (Nat.le_refl _) ?_; intro v5 w5 ho5 hb5 hg5 hn5; rw [Int.toNat_natCast] at ho5; obtain ⟨A5, c5, rfl⟩ := Kd.R_slice ho5; rw [List.length_replicate] at ho5; have HO5 := Lib.hid ho5; have HB5 := Lib.hid hb5; clear ho5 hb5 hg5 hn5) | ((with_reducible refine gate_dst (N := 35) rfl ?_); refine Kd.R_copy (enc := Value.int .i64) (h1 := fun _ => rfl) (0 : Int) (w0 := W4) W4.heap.size rfl (.tmp 33) (.tmp 34) 25 25 3 rfl Try.underlying25 info3s (.slice A5 N c5) (List.replicate N (0 : Int)) l2 A2 l2.length c2 (fun _ => True) ?a1 ?a2 ?a3 ?a4 ?a5 ?a6 ?_; (case a1 => rfl); (case a2 => rfl); (case a3 => exact (Kd.R_alloc HO5.out (.cells #[.slice A5 N c5] 25))); (case a4 => exact (Kd.C_alloc (Kd.C_below R4.out HB5.out) (.cells #[.slice A5 N c5] 25))); (case a5 => exact (HB5.out.alloc HB5.out.size _)); (case a6 => exact (Nat.le_trans HB5.out.size (by simp))); intro w6 ho6 hb6 hg6; have hbx := blk_grown (heap_alloc_new w5 (.cells #[.slice A5 N c5] 25)) hg6 (fun e => by have := Kd.R_lt HO5.out _ e.symm; omega); have m6 := blk_below M4.out hb6; have s6 := Kd.C_below S4.out hb6; have HO6 := Lib.hid ho6; have HBX := Lib.hid hbx; have M6 := Lib.hid m6; have S6 := Lib.hid s6; have B6 := Lib.hid (B4.out.trans (hb6.mono B4.out.size)); have c61 : w6.cell? ⟨w4.heap.size, 1, none⟩ = some (.slice Am SL.length cm) := (blk_cell m6 1).trans rfl; clear ho6 hb6 hg6 hbx m6 s6))
      obtain ⟨lk, hlk⟩ : ∃ lk, lk = l2 ++ List.replicate (N - l2.length) (0 : Int) := ⟨_, rfl⟩
      have hl2N : l2.length ≤ N := by omega
      have e6 : l2.take (min l2.length (List.replicate N (0 : Int)).length) ++ (List.replicate N (0 : Int)).drop (min l2.length (List.replicate N (0 : Int)).length) = lk := by
        rw [List.length_replicate, Nat.min_eq_left hl2N, List.take_length, List.drop_replicate, hlk]
      have hlN : lk.length = N := by rw [hlk, List.length_append, List.length_replicate]; omega
      have ho6 := HO6.out
      rw [e6] at ho6
      have hrdk : ∀ i : Nat, rd lk (i : Int) = rd l2 (i : Int) := fun i => by rw [hlk]; exact rd_pad l2 _ i
      have hC6 := (Kd.R_reads' ho6).2.2
      have hcall := containsFunc_calls w5.heap.size A5 c5 lk Am cm SL w6 (by rw [hlN]; exact HBX.out) hC6 S6.out (fun i hi => by
        obtain ⟨u, v, e1, e2, e3, e4, _, _⟩ := edge_ok HV.out HSL.out i hi
        exact ⟨u, v, e1, e2, by omega, by omega⟩) (!r1) (by rw [← HR.out]; exact unl_edges HV.out HSL.out lk l2 hrdk)
      go_at_call 88
      refine hcall.mono ?_
      rintro e w7 ⟨rfl, hb7⟩
      have B7 := Lib.hid (B6.out.trans (hb7.mono B6.out.size))
      clear hcall hC6 ho6 hb7
      go_wp2_with fail
      refine bodyPost_ret (v := .tuple #[.bool r1, .int .i64 0]) (by simp [results, Try.f37, go_sem]) rfl ⟨rfl, B7.out⟩
  · obtain ⟨ev, hev⟩ : ∃ ev, ev = outsV a0_0 l0_1 l1 := ⟨_, rfl⟩
    have hst : net_Strip.f a0_0 l0_1 l1 = some (0, [], [], ev) := by rw [net_Strip.f, if_neg hv, hev]
    rw [island_Consistent.f, if_neg hv, ← hev] at h
    simp only [Option.some.injEq, Prod.mk.injEq] at h
    obtain ⟨rfl, rfl⟩ := h
    rw [← hev] at hv
    have t1 : (ev != 0) = true := by rw [bne_iff_ne]; exact hv
    have HST := Lib.hid hst
    clear hst hv hev
    go_enter Try.func37, Try.ntmps37
    go_wp2_with fail
    go_at_call 32
    refine (net_Strip.calls a0_0 _ _ l0_1 _ _ l1 _ _ _ _ _ ?side1 hc0_1 ?side2 hc1 HST.out).mono ?_
    (case side1 => exact Kd.C_below HR0.out HB1.out)
    (case side2 => exact Kd.C_below HR1.out HB1.out)
    rintro e w4 ⟨v1, v2, rfl, hs1, hs2, hb4⟩
    obtain ⟨Am, cm, rfl⟩ := Kd.R_slice hs1
    have HB4 := Lib.hid (HB1.out.trans (hb4.mono HB1.out.size))
    have hw0 : w.heap.size ≤ w4.heap.size := HB4.out.size
    clear hs1 hs2 hb4
    go_wp2_with fail
    refine bodyPost_ret (v := .tuple #[.bool false, .int .i64 ev]) (by simp [results, Try.f37, go_sem]) rfl ⟨rfl, HB4.out.alloc hw0 _⟩

end Go.Proofs.Ytdpgdelimffjpaa.P
