-- Written by wip/drive.py (a prover's driver over the kit's print.py); hand-proved contracts stand among the printed ones. Lean checks it.
import Derived.Test.YtdpgdelimffjpaaFBase
import Derived.Test.YtdpgdelimffjpaaF56
import Derived.Test.YtdpgdelimffjpaaF57
import Derived.Test.YtdpgdelimffjpaaHBoxes
import Derived.Lib.Hide
import Derived.BigQuiet
import Derived.BigRegion
namespace Go.Proofs.Ytdpgdelimffjpaa.P
open Go.RowKit Go.Proofs.YtdpgdelimffjpaaW.PrintWords Go.Proofs.YtdpgdelimffjpaaW.PrintLast Go.Proofs.YtdpgdelimffjpaaW.PrintMore
attribute [local go_sem] max2_int min2_int max_two min_two max_three min_three max_four min_four   -- for this text's walks alone
set_option linter.unusedVariables false
set_option linter.unusedSimpArgs false

/-! ### tree_Bridges: function 55: by hand -/
-- import Derived.Test.YtdpgdelimffjpaaHBoxes
-- import Derived.Lib.Hide
-- import Derived.BigQuiet
-- import Derived.BigRegion
def usesW (k : Int) (way : List Int) : Bool := rd way k != 0
def tree_Bridges.f (k : Nat) (a0_0 : Int) (l0_1 : List (S37)) (l1 : List Int) : Option (List Int × Int) :=
  (tree_Tree.f k a0_0 l0_1 l1).bind fun t => (tree_Cycles.f k a0_0 l0_1 l1).bind fun a =>
    if (∀ x ∈ t.1, ∀ way ∈ a.1, 0 ≤ x ∧ x < (way.length : Int)) ∧ t.1.length ≤ 1000000 then some (t.1.filter (fun x => !a.1.any (usesW x)), t.2) else none
theorem tree_Bridges.mono : ∀ a0 a1 a2 k, LeO (tree_Bridges.f k a0 a1 a2) (tree_Bridges.f (k + 1) a0 a1 a2) := by
  intro a0 a1 a2 k r h
  unfold tree_Bridges.f at h ⊢
  obtain ⟨t, ht, h⟩ := Option.bind_eq_some_iff.1 h
  obtain ⟨a, ha, h⟩ := Option.bind_eq_some_iff.1 h
  rw [tree_Tree.mono _ _ _ k _ ht, Option.bind_some, tree_Cycles.mono _ _ _ k _ ha, Option.bind_some]
  exact h
set_option maxRecDepth 100000 in
set_option maxHeartbeats 4000000 in
theorem used_calls (g : Nat) (A : Option Addr) (c : Nat) (way : List Int) (k : Int) (w : World) (hg : w.cell? ⟨g, 0, none⟩ = some (.int .i64 k)) (hl : Kd.C (Kd.int .i64) w A way.length way) (h0 : 0 ≤ k) (h1 : k < (way.length : Int)) :
    Calls Try.prog 100 #[.slice A way.length c, .pointer (some ⟨g, 0, none⟩)] w fun e w' => e = .returned (.bool (usesW k way)) ∧ Below w.heap.size w w' := by
  obtain ⟨ad, e0, e1⟩ := Kd.at_int hl k h0 h1
  subst e0
  unfold usesW
  obtain ⟨x, hx⟩ : ∃ x, x = rd way k := ⟨_, rfl⟩
  rw [← hx] at e1 ⊢
  have q1 : (0 ≤ k) = True := eq_true h0
  have q2 : (k < (way.length : Int)) = True := eq_true h1
  have q3 : decide (0 ≤ k) = true := decide_eq_true h0
  have q4 : decide (k < (way.length : Int)) = true := decide_eq_true h1
  have hL := Kd.C_max hl
  clear hl hx
  go_enter Try.func100, Try.ntmps100
  go_wp2_with fail
  go_ret
  exact ⟨rfl, Below.refl _ _⟩
set_option maxRecDepth 100000 in
set_option maxHeartbeats 4000000 in
theorem indexUsed_calls (g : Nat) (k : Int) (Am : Option Addr) (cm : Nat) (SL : List (List Int)) (w : World) (hg : w.heap[g]? = some (.cells #[.int .i64 k] 3 (0, 0))) (hS : Kd.C (Kd.slice 3 (Kd.int .i64)) w Am SL.length SL) (hok : ∀ way ∈ SL, 0 ≤ k ∧ k < (way.length : Int)) :
    Calls Try.prog 117 #[.slice Am SL.length cm, .func (.func 100) #[] #[.pointer (some ⟨g, 0, none⟩)]] w fun e w' => ∃ i : Int, e = .returned (.int .i64 i) ∧ (0 ≤ i ↔ SL.any (usesW k) = true) ∧ Below w.heap.size w w' := by
  have HG := Lib.hid hg
  have HS := Lib.hid hS
  have HOK := Lib.hid hok
  have hLS := Kd.C_max hS
  clear hg hS hok
  go_enter Try.func117, Try.ntmps117
  go_wp2_with fail
  go_loopg [8] SL.length (fun kq v8 wr => ∃ i : Nat, i ≤ SL.length ∧ v8 = .int .i64 (i : Int) ∧ Hid (kq = SL.length - i ∧ Below w.heap.size w wr ∧ ∀ (j : Nat) (hj : j < SL.length), j < i → usesW k SL[j] = false))
  case atStart => exact ⟨0, Nat.zero_le _, rfl, rfl, Below.refl _ _, fun j _ hj => absurd hj (Nat.not_lt_zero _)⟩
  case round =>
    obtain ⟨i, hi, rfl, HI⟩ := hrel
    by_cases hlt : i < SL.length
    · have q1 : decide ((i : Int) < (SL.length : Int)) = true := decide_eq_true (by omega)
      obtain ⟨ad, A0, c0, hAm, e0, hc0, hC0⟩ := at_L1 (Kd.C_below HS.out HI.out.2.1) (i : Int) (by omega) (by omega)
      subst hAm
      have hrd : rd_L1 SL (i : Int) = SL[i] := by simp [rd_L1, List.getD_eq_getElem?_getD, hlt]
      rw [hrd] at e0 hc0 hC0
      rw [Int.toNat_natCast] at e0
      obtain ⟨hk0, hk1⟩ := HOK.out SL[i] (List.getElem_mem hlt)
      obtain ⟨way, hway⟩ : ∃ way, way = SL[i] := ⟨_, rfl⟩
      rw [← hway] at e0 hc0 hC0 hk1
      have HWAY := Lib.hid hway
      have hcall := used_calls g A0 c0 way k wr ((blk_cell (blk_below HG.out HI.out.2.1) 0).trans rfl) hC0 hk0 hk1
      obtain ⟨b, hb⟩ : ∃ b, b = usesW k way := ⟨_, rfl⟩
      rw [← hb] at hcall
      have HB := Lib.hid hb
      have HCALL := Lib.hid hcall
      clear hb hcall hway hC0 hc0 hk0 hk1
      cases b with
      | true =>
        go_wp2_with (go_at_call 100; refine HCALL.out.mono ?_; rintro e w' ⟨rfl, hb'⟩; have HB' := Lib.hid hb'; clear hb')
        go_ret
        exact ⟨_, rfl, ⟨fun _ => List.any_eq_true.2 ⟨SL[i], List.getElem_mem hlt, by rw [← HWAY.out]; exact HB.out.symm⟩, fun _ => by omega⟩, HI.out.2.1.trans (HB'.out.mono HI.out.2.1.size)⟩
      | false =>
        go_wp2_with (go_at_call 100; refine HCALL.out.mono ?_; rintro e w' ⟨rfl, hb'⟩; have HB' := Lib.hid hb'; clear hb')
        go_roundg (SL.length - (i + 1))
        case measure => have := HI.out.1; omega
        case rel =>
          refine ⟨i + 1, by omega, by go_num, rfl, HI.out.2.1.trans (HB'.out.mono HI.out.2.1.size), fun j hjl hj => ?_⟩
          by_cases hji : j = i
          · subst hji; rw [← HWAY.out]; exact HB.out.symm
          · exact HI.out.2.2 j hjl (by omega)
    · have q1 : decide ((i : Int) < (SL.length : Int)) = false := decide_eq_false (by omega)
      go_wp2_with fail
      go_ret
      refine ⟨_, rfl, ⟨fun h => absurd h (by decide), fun hu => ?_⟩, HI.out.2.1⟩
      obtain ⟨x, hx, hu⟩ := List.any_eq_true.1 hu
      obtain ⟨j, hj, rfl⟩ := List.getElem_of_mem hx
      rw [HI.out.2.2 j hj (by omega)] at hu
      cases hu
set_option maxRecDepth 100000 in
set_option maxHeartbeats 4000000 in
theorem containsUsed_calls (g : Nat) (k : Int) (Am : Option Addr) (cm : Nat) (SL : List (List Int)) (w : World) (hg : w.heap[g]? = some (.cells #[.int .i64 k] 3 (0, 0))) (hS : Kd.C (Kd.slice 3 (Kd.int .i64)) w Am SL.length SL) (hok : ∀ way ∈ SL, 0 ≤ k ∧ k < (way.length : Int)) (b : Bool) (hb : b = SL.any (usesW k)) :
    Calls Try.prog 99 #[.slice Am SL.length cm, .func (.func 100) #[] #[.pointer (some ⟨g, 0, none⟩)]] w fun e w' => e = .returned (.bool b) ∧ Below w.heap.size w w' := by
  have HC := Lib.hid (indexUsed_calls g k Am cm SL w hg hS hok)
  have HB := Lib.hid hb
  clear hg hS hok hb
  go_enter Try.func99, Try.ntmps99
  go_wp2_with fail
  go_at_call 117
  refine HC.out.mono ?_
  rintro e w1 ⟨i, rfl, hi, hb1⟩
  have HB1 := Lib.hid hb1
  cases b with
  | true =>
    have h0 : 0 ≤ i := hi.2 HB.out.symm
    have q1 : decide (0 ≤ i) = true := decide_eq_true h0
    clear hi hb1
    go_wp2_with fail
    go_ret
    exact ⟨rfl, HB1.out⟩
  | false =>
    have h0 : ¬ 0 ≤ i := fun h => by have := hi.1 h; rw [← HB.out] at this; cases this
    have q1 : decide (0 ≤ i) = false := decide_eq_false h0
    clear hi hb1
    go_wp2_with fail
    go_ret
    exact ⟨rfl, HB1.out⟩
set_option maxRecDepth 100000 in
set_option maxHeartbeats 8000000 in
theorem tree_Bridges.calls (k : Nat) (a0_0 : Int) (A0_1 : Option Addr) (c0_1 : Nat) (l0_1 : List (S37)) (A1 : Option Addr) (c1 : Nat) (l1 : List Int) (r1 : List Int) (r2 : Int) (w : World) (hr0_1 : Kd.C k37 w A0_1 l0_1.length l0_1) (hc0_1 : l0_1.length ≤ c0_1) (hr1 : Kd.C (Kd.int .i64) w A1 l1.length l1) (hc1 : l1.length ≤ c1) (h : tree_Bridges.f k a0_0 l0_1 l1 = some (r1, r2)) :
    Calls Try.prog 55 #[.agg #[.int .i64 a0_0, .slice A0_1 l0_1.length c0_1], .slice A1 l1.length c1] w fun e w' => ∃ v0_ : Value, e = .returned (.tuple #[v0_, .int .i64 r2]) ∧ Kd.R (Kd.int .i64) 3 w' w.heap.size (fun _ => True) v0_ r1 ∧ Below w.heap.size w w' := by
  unfold tree_Bridges.f at h
  obtain ⟨⟨t, e1⟩, ht, h⟩ := Option.bind_eq_some_iff.1 h
  obtain ⟨⟨a, e2⟩, ha, h⟩ := Option.bind_eq_some_iff.1 h
  split at h
  · rename_i hg
    simp only [Option.some.injEq, Prod.mk.injEq] at h
    obtain ⟨rfl, rfl⟩ := h
    have hu24 := Try.underlying24
    have HG := Lib.hid hg
    have HT := Lib.hid ht
    have HA := Lib.hid ha
    have HR0 := Lib.hid hr0_1
    have HR1 := Lib.hid hr1
    have hmf : ∀ (fn : Fn) (first cap : Array Value) (w : World), (Instr.makeFunc fn first cap).run Try.prog w = .ok (.func fn first cap) w := fun _ _ _ _ => rfl
    clear hg ht ha hr0_1 hr1
    go_enter Try.func55, Try.ntmps55
    go_wp2_with fail
    go_at_call 56
    refine (tree_Tree.calls k a0_0 A0_1 c0_1 l0_1 A1 c1 l1 t e1 _ (Kd.C_alloc HR0.out _) hc0_1 (Kd.C_alloc HR1.out _) hc1 HT.out).mono ?_
    rintro e w1 ⟨v1, rfl, h1, b1⟩
    obtain ⟨A2, c2, rfl⟩ := Kd.R_slice h1
    have b1' := (below_alloc (Below.refl w.heap.size w) (.cells #[.int .i64 a0_0, .slice A0_1 l0_1.length c0_1] 24)).trans (b1.mono (by simp))
    have X1 : RowKit.Hid (Kd.R (Kd.int .i64) 3 w1 w.heap.size (fun _ => True) (.slice A2 t.length c2) t) := Lib.hid (Kd.R_lower h1 (by simp))
    have B1 := Lib.hid b1'
    have K1 := Lib.hid ((b1.block _ (by simp)).trans (blk_new w _))
    clear h1 b1 b1'
    have c10 : w1.cell? ⟨w.heap.size, 0, none⟩ = some (.int .i64 a0_0) := (blk_cell K1.out 0).trans rfl
    have c11 : w1.cell? ⟨w.heap.size, 1, none⟩ = some (.slice A0_1 l0_1.length c0_1) := (blk_cell K1.out 1).trans rfl
    go_wp2_with fail
    go_at_call 57
    refine (tree_Cycles.calls k a0_0 A0_1 c0_1 l0_1 A1 c1 l1 a e2 _ (Kd.C_below HR0.out B1.out) hc0_1 (Kd.C_below HR1.out B1.out) hc1 HA.out).mono ?_
    rintro e w2 ⟨v2, rfl, h2, b2⟩
    obtain ⟨A3, c3, rfl⟩ := Kd.R_slice (Kd.S_R h2)
    have hS2 := (Kd.R_reads' (Kd.S_R h2)).2.2
    have X2 := Lib.hid (Kd.R_below X1.out b2)
    have Y2 := Lib.hid hS2
    have B2 := Lib.hid (B1.out.trans (b2.mono B1.out.size))
    clear h2 b2 hS2 B1 X1 c10 c11
    go_wp2_with fail
    obtain ⟨Bz, hBz⟩ : ∃ Bz, Bz = w2.heap.size := ⟨_, rfl⟩
    have HBZ := Lib.hid hBz
    have hlt := (Kd.R_reads' X2.out).2.2
    have htl := Kd.C_max hlt
    have XT := Lib.hid hlt
    clear hBz hlt
    go_loopg [4, 25] t.length (fun kq v4 v25 wr => ∃ i : Nat, i ≤ t.length ∧ v25 = .int .i64 (i : Int) ∧ Hid (kq = t.length - i ∧ Kd.R (Kd.int .i64) 3 wr Bz (fun _ => True) v4 ((t.take i).filter (fun x => !a.any (usesW x))) ∧ Below w2.heap.size w2 wr))
    case atStart => exact ⟨0, Nat.zero_le _, rfl, rfl, Kd.R_nil _ _ _ _ _, Below.refl _ _⟩
    case round =>
      obtain ⟨i, hi, rfl, HI⟩ := hrel
      by_cases hlt : i < t.length
      · have q1 : decide ((i : Int) < (t.length : Int)) = true := decide_eq_true (by omega)
        obtain ⟨hkq, hr4, hbw⟩ := HI.out
        obtain ⟨A4, c4, rfl⟩ := Kd.R_slice hr4
        obtain ⟨X, hX⟩ : ∃ X, X = (t.take i).filter (fun x => !a.any (usesW x)) := ⟨_, rfl⟩
        rw [← hX] at hr4 ⊢
        have hXl : X.length ≤ 1000000 := by
          rw [hX]
          refine Nat.le_trans (List.length_filter_le _ _) ?_
          rw [List.length_take]; have := HG.out.2; omega
        obtain ⟨ad, hAd, hx⟩ := Kd.at_int (Kd.C_below XT.out hbw) (i : Int) (by omega) (by omega)
        subst hAd
        obtain ⟨kk, hkk⟩ : ∃ kk, kk = t[i] := ⟨_, rfl⟩
        rw [rd_nat _ i hlt, ← hkk, Int.toNat_natCast] at hx
        have hkm : kk ∈ t := by rw [hkk]; exact List.getElem_mem hlt
        obtain ⟨b, hb⟩ : ∃ b, b = a.any (usesW kk) := ⟨_, rfl⟩
        have hcall := containsUsed_calls wr.heap.size kk A3 c3 a (wr.alloc (.cells #[.int .i64 kk] 3)) (blk_new wr _) (Kd.C_alloc (Kd.C_below Y2.out hbw) _) (fun way hw => HG.out.1 kk hkm way hw) b hb
        have hnext : (t.take (i + 1)).filter (fun x => !a.any (usesW x)) = if b = true then X else X ++ [kk] := by
          rw [List.take_succ_eq_append_getElem hlt, List.filter_append, ← hX, ← hkk, hb]
          by_cases hc : a.any (usesW kk) = true
          · rw [if_pos hc]; simp [hc]
          · rw [if_neg hc]; simp [hc]
        have hsz : Bz ≤ wr.heap.size := by rw [HBZ.out]; exact hbw.size
        have HCALL := Lib.hid hcall
        have HNEXT := Lib.hid hnext
        have HR4 := Lib.hid hr4
        have HBW := Lib.hid hbw
        have HXL := Lib.hid hXl
        have HSZ := Lib.hid hsz
        clear hcall hnext hr4 hbw hXl hsz hX hkk hkm hb
        cases b with
        | true =>
          go_wp2_with (go_at_call 99; refine HCALL.out.mono ?_; rintro e w' ⟨rfl, hb'⟩; have HB' := Lib.hid hb'; clear hb')
          go_roundg (t.length - (i + 1))
          case measure => have := HI.out.1; omega
          case rel =>
            have hb3 := (below_alloc (Below.refl wr.heap.size wr) (.cells #[.int .i64 kk] 3)).trans (HB'.out.mono (by simp))
            exact ⟨i + 1, by omega, by go_num, rfl, by rw [HNEXT.out, if_pos (by trivial)]; exact Kd.R_below HR4.out hb3, HBW.out.trans (hb3.mono HBW.out.size)⟩
        | false =>
          go_wp2_with (first | (go_at_call 99; refine HCALL.out.mono ?_; rintro e w' ⟨rfl, hb'⟩; have hb3 := (below_alloc (Below.refl wr.heap.size wr) (.cells #[.int .i64 kk] 3)).trans (hb'.mono (by simp)); have kb := (hb'.block wr.heap.size (by simp)).trans (blk_new wr _); have KB := Lib.hid kb; have HB3 := Lib.hid hb3; have cb : w'.cell? ⟨wr.heap.size, 0, none⟩ = some (.int .i64 kk) := (blk_cell KB.out 0).trans rfl; clear hb' hb3 kb) | ((with_reducible refine gate_builtin (b := .append) (xs := #[.tmp 33, .tmp 35]) rfl ?_); at_builtin; refine Kd.R_append (Kd.int .i64) (w0 := w2) Bz rfl (.tmp 33) (.tmp 35) 25 3 (.int .i64 0) 8 rfl Try.underlying25 info3 rfl (by decide) (by omega) (.slice A4 X.length c4) X kk [.int .i64 kk] (fun _ => True) (fun _ => False) rfl rfl ?aP (fun _ hk => hk.elim) ?aF ?aO ?aB ?aS ?aL ?_; (case aP => exact rfl); (case aF => exact (fun _ _ => trivial)); (case aO => exact Kd.R_below HR4.out HB3.out); (case aB => rw [HBZ.out]; exact HBW.out.trans (HB3.out.mono HBW.out.size)); (case aS => exact Nat.le_trans HSZ.out HB3.out.size); (case aL => have := HXL.out; omega); intro v1 w5 hr5 hb5 hg5 hat5; have R5 := Lib.hid hr5; have B5 := Lib.hid hb5; clear hr5 hb5 hg5 hat5))
          go_roundg (t.length - (i + 1))
          case measure => have := HI.out.1; omega
          case rel => exact ⟨i + 1, by omega, by go_num, rfl, by rw [HNEXT.out, if_neg (by simp)]; exact R5.out, by have := B5.out; rw [HBZ.out] at this; exact this⟩
      · have q1 : decide ((i : Int) < (t.length : Int)) = false := decide_eq_false (by omega)
        have hit : i = t.length := by omega
        subst hit
        obtain ⟨hkq, hr4, hbw⟩ := HI.out
        rw [List.take_length] at hr4
        obtain ⟨A4, c4, rfl⟩ := Kd.R_slice hr4
        have HR4 := Lib.hid hr4
        have HBW := Lib.hid hbw
        clear hr4 hbw hkq
        go_wp2_with fail
        exact bodyPost_ret (v := .tuple #[.slice A4 (t.filter (fun x => !a.any (usesW x))).length c4, .int .i64 e1]) (by simp [results, Try.f55, go_sem]) rfl ⟨_, rfl, Kd.R_lower HR4.out (by rw [HBZ.out]; exact B2.out.size), B2.out.trans (HBW.out.mono B2.out.size)⟩
  · cases h

end Go.Proofs.Ytdpgdelimffjpaa.P
