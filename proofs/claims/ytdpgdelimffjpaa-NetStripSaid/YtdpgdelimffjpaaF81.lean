-- Written by wip/drive.py (a prover's driver over the kit's print.py); hand-proved contracts stand among the printed ones. Lean checks it.
import Derived.Test.YtdpgdelimffjpaaFBase
import Derived.Test.YtdpgdelimffjpaaF32
import Derived.Test.YtdpgdelimffjpaaF35
import Derived.Test.YtdpgdelimffjpaaHLab
import Derived.Outline
import Derived.Lib.Hide
import Derived.Deep.QuietTactic
import Derived.BigQuiet
import Derived.BigRegion
namespace Go.Proofs.Ytdpgdelimffjpaa.P
open Go.RowKit Go.Proofs.YtdpgdelimffjpaaW.PrintWords Go.Proofs.YtdpgdelimffjpaaW.PrintLast Go.Proofs.YtdpgdelimffjpaaW.PrintMore
attribute [local go_sem] max2_int min2_int max_two min_two max_three min_three max_four min_four   -- for this text's walks alone
set_option linter.unusedVariables false
set_option linter.unusedSimpArgs false

/-! ### island_stands: function 81: by hand -/
-- import Derived.Test.YtdpgdelimffjpaaHLab
-- import Derived.Outline
-- import Derived.Lib.Hide
-- import Derived.Deep.QuietTactic
-- import Derived.BigQuiet
-- import Derived.BigRegion
set_option maxRecDepth 100000 in
set_option maxHeartbeats 4000000 in
theorem find_calls (g : Nat) (A : Option Addr) (c : Nat) (l : List Int) (f : Nat → Nat) (N : Nat) (b : Nat) (w : World) (hg : w.cell? ⟨g, 0, none⟩ = some (.slice A l.length c)) (hl : Kd.C (Kd.int .i64) w A l.length l) (hu : UF l f N) (hb : b < N) :
    Calls Try.prog 105 #[.int .i64 (b : Int), .pointer (some ⟨g, 0, none⟩)] w fun e w' => e = .returned (.int .i64 ((f b : Nat) : Int)) ∧ w' = w := by
  have hN : l.length = N := hu.len
  have HU := Lib.hid hu
  have HL := Lib.hid hl
  have HN := Lib.hid hN
  clear hu hl hN
  go_enter Try.func105, Try.ntmps105
  go_wp2_with fail
  go_loopg [0] b (fun k v0 w' => ∃ x : Nat, v0 = .int .i64 (x : Int) ∧ Hid (x < N ∧ f x = f b ∧ k = x) ∧ w' = w)
  case atStart => exact ⟨b, rfl, ⟨hb, rfl, rfl⟩, rfl⟩
  case round =>
    obtain ⟨x, rfl, HX, rfl⟩ := hrel
    obtain ⟨p, hp, hpx, hfp, hpe⟩ := HU.out.par x HX.out.1
    have hxl : x < l.length := by rw [HN.out]; exact HX.out.1
    have hxi : (x : Int) < (l.length : Int) := by omega
    obtain ⟨ad, e0, e1⟩ := Kd.at_int HL.out (x : Int) (by omega) hxi
    subst e0
    rw [Int.toNat_natCast, hp] at e1
    have HP := Lib.hid hp
    have HF := Lib.hid hfp
    have HPE := Lib.hid hpe
    clear hp hfp hpe
    by_cases hpx' : p = x
    · have t1 : ((p : Int) != (x : Int)) = false := by rw [bne_eq_false_iff_eq]; omega
      have HPX := Lib.hid hpx'
      clear hpx'
      go_wp2_with fail
      go_ret
      have hfx : f b = x := by rw [← HX.out.2.1, HPE.out HPX.out]
      rw [hfx]
      exact ⟨rfl, rfl⟩
    · have t1 : ((p : Int) != (x : Int)) = true := by rw [bne_iff_ne]; omega
      go_wp2_with fail
      go_roundg p
      case measure => have := HX.out.2.2; omega
      case rel => exact ⟨p, rfl, ⟨by have := HX.out.1; omega, by rw [HF.out]; exact HX.out.2.1, rfl⟩, rfl⟩

theorem boxes2 {w w4 : World} {c0 c1 : Array Value} {t0 t1 : TypeId} (h : Below ((w.alloc (.cells c0 t0)).alloc (.cells c1 t1)).heap.size ((w.alloc (.cells c0 t0)).alloc (.cells c1 t1)) w4) :
    w4.heap[w.heap.size]? = some (.cells c0 t0 (0, 0)) ∧ w4.heap[w.heap.size + 1]? = some (.cells c1 t1 (0, 0)) ∧ w.heap.size + 2 ≤ w4.heap.size ∧ Below w.heap.size w w4 := by
  have b0 := heap_alloc_new w (.cells c0 t0)
  have z0 : (w.alloc (.cells c0 t0)).heap.size = w.heap.size + 1 := by simp
  generalize hA : w.alloc (.cells c0 t0) = wA at *
  have hbA : Below w.heap.size w wA := by rw [← hA]; exact (Below.refl _ _).alloc (Nat.le_refl _) _
  have b1 := heap_alloc_new wA (.cells c1 t1)
  have b01 := blk_alloc b0 (.cells c1 t1)
  have hbB : Below w.heap.size w (wA.alloc (.cells c1 t1)) := hbA.alloc (by omega) _
  have z1 : (wA.alloc (.cells c1 t1)).heap.size = w.heap.size + 1 + 1 := by simp [z0]
  rw [z0] at b1
  generalize wA.alloc (.cells c1 t1) = wB at *
  exact ⟨(h.block _ (by omega)).trans b01, (h.block _ (by omega)).trans b1, by have := h.size; omega, hbB.trans (h.mono (by omega))⟩
structure St (a0 : Int) (H B0 g6 : Nat) (Am : Option Addr) (cm : Nat) (SL : List S37) (w : World) (v : Value) (X : List Int) (W : World) : Prop where
  b : W.heap[H + 1]? = some (.cells #[v] 25 (0, 0))
  m : W.heap[g6]? = some (.cells #[.int .i64 a0, .slice Am SL.length cm] 24 (0, 0))
  s : Kd.R k37 37 W H (fun k => k < B0 ∧ k ≠ H + 1) (.slice Am SL.length cm) SL
  r : Kd.R (Kd.int .i64) 3 W B0 (fun _ => True) v X
  bl : Below H w W
  sz : B0 ≤ W.heap.size
section
variable {a0 : Int} {H B0 g6 : Nat} {Am : Option Addr} {cm : Nat} {SL : List S37} {w W W5 : World} {v v' : Value} {X X' : List Int}
theorem St.alloc (h : St a0 H B0 g6 Am cm SL w v X W) (hH : H ≤ B0) (o : Obj) : St a0 H B0 g6 Am cm SL w v X (W.alloc o) :=
  ⟨blk_alloc h.b _, blk_alloc h.m _, Kd.R_alloc h.s _, Kd.R_alloc h.r _, h.bl.alloc (by have := h.sz; omega) _, by have := h.sz; simp; omega⟩
theorem St.drew (h : St a0 H B0 g6 Am cm SL w v X W) : St a0 H B0 g6 Am cm SL w v X W.drew := ⟨h.b, h.m, Kd.R_drew h.s, Kd.R_drew h.r, h.bl.drew, h.sz⟩
theorem St.drewN (h : St a0 H B0 g6 Am cm SL w v X W) (n : Nat) : St a0 H B0 g6 Am cm SL w v X (W.drewN n) := ⟨h.b, h.m, Kd.R_drewN h.s n, Kd.R_drewN h.r n, pw_below_drewN h.bl n, h.sz⟩
theorem St.append (h : St a0 H B0 g6 Am cm SL w v X W) (hH : H + 1 < B0) (h6 : g6 < B0) (h6' : g6 ≠ H + 1) (hr : Kd.R (Kd.int .i64) 3 W5 B0 (fun _ => True) v' X') (hg : W.grownBy W5 v.ownBlock) : W5.heap[H + 1]? = some (.cells #[v] 25 (0, 0)) ∧ St a0 H B0 g6 Am cm SL w v' X' (W5.setCell ⟨H + 1, 0, none⟩ v') := by
  have hne : ∀ k, k < B0 → some k ≠ v.ownBlock := fun k hk e => by have := Kd.R_base h.r k e.symm; omega
  have hb5 := blk_grown h.b hg (hne _ hH)
  refine ⟨hb5, blk_set hb5 0 v', blk_far (p := ⟨H + 1, 0, none⟩) (blk_grown h.m hg (hne _ h6)) h6' v', ?_, ?_, ?_, ?_⟩
  · exact Kd.R_far (Kd.R_grown h.s hg (fun k hk => hne k hk.1)) (fun k hk => hk.2) _
  · exact Kd.R_mono (Kd.R_far (Kd.R_reok (ok := fun k => k ≠ H + 1) rfl hr (fun k e => by have := Kd.R_base hr k e; omega)) (fun k hk => hk) _) (fun _ _ => trivial)
  · exact (h.bl.grown hg (by have := h.sz; omega) (fun k e => by have := Kd.R_base h.r k e; omega)).setCell (p := ⟨H + 1, 0, none⟩) (by simp) _
  · have := hg.size; have := h.sz; simp [World.setCell]; omega
theorem St.put {g c : Nat} (h : St a0 H B0 g6 Am cm SL w (.slice (some ⟨g, 0, none⟩) X.length c) X W) (hH : H + 1 < B0) (h6 : g6 < B0) (i : Nat) (y : Int) : St a0 H B0 g6 Am cm SL w (.slice (some ⟨g, 0, none⟩) X.length c) (X.set i y) (W.setCell ⟨g, i, none⟩ (.int .i64 y)) := by
  obtain ⟨hr, hg⟩ := Kd.R_put h.r (i : Int) y
  simp only [Int.toNat_natCast] at hr hg
  have hg0 : B0 ≤ g := Kd.R_base h.r g rfl
  have hne : ∀ k, k < B0 → k ≠ g := fun k hk => by omega
  refine ⟨blk_far (p := ⟨g, i, none⟩) h.b (hne _ hH) _, blk_far (p := ⟨g, i, none⟩) h.m (hne _ h6) _, Kd.R_far h.s (fun k hk => hne k hk.1) _, hr, h.bl.setCell (p := ⟨g, i, none⟩) (by show H ≤ g; omega) _, by have := h.sz; simp [World.setCell]; omega⟩
theorem St.cellf {g c : Nat} (h : St a0 H B0 g6 Am cm SL w (.slice (some ⟨g, 0, none⟩) X.length c) X W) (i : Nat) (hi : i < X.length) : W.cell? ⟨g, i, none⟩ = some (.int .i64 (rd X (i : Int))) ∧ W.frozen? ⟨g, i, none⟩ = false := by
  have e := Kd.R_cell (d := (0 : Int)) h.r (i : Int) (by omega) (by omega)
  rw [Int.toNat_natCast] at e
  exact e
end
def edges (L : List S37) (out : List Int) : List (Nat × Nat) := (inn L out).map (fun (k : Nat) => ((rd_T37 L (k : Int)).f0.toNat, (rd_T37 L (k : Int)).f1.toNat))
theorem edge_ok {N : Nat} {L : List S37} {out : List Int} (h : outsV (N : Int) L out = 0) {SL : List S37} (hSL : SL = (inn L out).map (fun (k : Nat) => rd_T37 L (k : Int))) (i : Nat) (hi : i < SL.length) : ∃ u v : Nat, (rd_T37 SL (i : Int)).f0 = (u : Int) ∧ (rd_T37 SL (i : Int)).f1 = (v : Int) ∧ u < N ∧ v < N ∧ u ≠ v ∧ (edges L out).take (i + 1) = (edges L out).take i ++ [(u, v)] := by
  have hi' : i < (inn L out).length := by rw [hSL] at hi; simpa using hi
  obtain ⟨k, hk⟩ : ∃ k, k = (inn L out)[i]'hi' := ⟨_, rfl⟩
  have hkm : k ∈ inn L out := by rw [hk]; exact List.getElem_mem _
  have hkl : k < L.length := by
    unfold inn at hkm
    rw [List.mem_filter, List.mem_range] at hkm
    exact hkm.1
  have hrd : rd_T37 SL (i : Int) = rd_T37 L (k : Int) := by
    rw [hSL, hk]
    simp [rd_T37, List.getD_eq_getElem?_getD, hi']
  have hmem : rd_T37 L (k : Int) ∈ L := by
    simp only [rd_T37, List.getD_eq_getElem?_getD, Int.toNat_natCast, List.getElem?_eq_getElem hkl, Option.getD_some]
    exact List.getElem_mem _
  obtain ⟨hck, _, _⟩ := outsV_ok h
  have hok := (chk_ok hck).2.2.2 _ hmem
  simp only [okLine, Bool.and_eq_true, decide_eq_true_eq, bne_iff_ne, ne_eq] at hok
  obtain ⟨⟨⟨⟨a1, a2, a3, a4⟩, a5⟩, _⟩, _⟩ := hok
  refine ⟨(rd_T37 L (k : Int)).f0.toNat, (rd_T37 L (k : Int)).f1.toNat, by rw [hrd]; omega, by rw [hrd]; omega, by omega, by omega, by omega, ?_⟩
  have hl : i < (edges L out).length := by unfold edges; rw [List.length_map]; exact hi'
  have hg : (edges L out)[i]? = some ((rd_T37 L (k : Int)).f0.toNat, (rd_T37 L (k : Int)).f1.toNat) := by
    unfold edges; rw [List.getElem?_map, List.getElem?_eq_getElem hi', ← hk]; rfl
  rw [List.getElem?_eq_getElem hl] at hg
  rw [List.take_succ_eq_append_getElem hl, Option.some.inj hg]
def island_stands.f (a0_0 : Int) (l0_1 : List (S37)) (l1 : List Int) : Option (List Int × Int) :=
  if outsV a0_0 l0_1 l1 = 0 then some ((List.range a0_0.toNat).map (fun (b : Nat) => ((lab (edges l0_1 l1) b : Nat) : Int)), 0) else some ([], outsV a0_0 l0_1 l1)
set_option maxRecDepth 100000 in
set_option maxHeartbeats 4000000 in
theorem island_stands.calls (a0_0 : Int) (A0_1 : Option Addr) (c0_1 : Nat) (l0_1 : List (S37)) (A1 : Option Addr) (c1 : Nat) (l1 : List Int) (r1 : List Int) (r2 : Int) (w : World) (hr0_1 : Kd.C k37 w A0_1 l0_1.length l0_1) (hc0_1 : l0_1.length ≤ c0_1) (hr1 : Kd.C (Kd.int .i64) w A1 l1.length l1) (hc1 : l1.length ≤ c1) (h : island_stands.f a0_0 l0_1 l1 = some (r1, r2)) :
    Calls Try.prog 81 #[.agg #[.int .i64 a0_0, .slice A0_1 l0_1.length c0_1], .slice A1 l1.length c1] w fun e w' => ∃ v0_ : Value, e = .returned (.tuple #[v0_, .int .i64 r2]) ∧ Kd.R (Kd.int .i64) 3 w' w.heap.size (fun _ => True) v0_ r1 ∧ Below w.heap.size w w' := by
  have hu24 := Try.underlying24
  have hu37 := Try.underlying37
  have HR0 := Lib.hid hr0_1
  have HR1 := Lib.hid hr1
  clear hr0_1 hr1
  have hb2 : Below w.heap.size w ((w.alloc (.cells #[.int .i64 a0_0, .slice A0_1 l0_1.length c0_1] 24)).alloc (.cells #[.slice none 0 0] 25)) := ((Below.refl _ w).alloc (Nat.le_refl _) _).alloc (by simp) _
  have HB2 := Lib.hid hb2
  clear hb2
  by_cases hv : outsV a0_0 l0_1 l1 = 0
  · have hst : net_Strip.f a0_0 l0_1 l1 = some (a0_0, (inn l0_1 l1).map (fun (k : Nat) => rd_T37 l0_1 (k : Int)), (inn l0_1 l1).map (fun (k : Nat) => (k : Int)), 0) := by rw [net_Strip.f, if_pos hv]
    rw [island_stands.f, if_pos hv] at h
    simp only [Option.some.injEq, Prod.mk.injEq] at h
    obtain ⟨rfl, rfl⟩ := h
    obtain ⟨SL, hSL⟩ : ∃ SL, SL = (inn l0_1 l1).map (fun (k : Nat) => rd_T37 l0_1 (k : Int)) := ⟨_, rfl⟩
    rw [← hSL] at hst
    have HSL := Lib.hid hSL
    clear hSL
    have HST := Lib.hid hst
    have HV := Lib.hid hv
    clear hst hv
    go_enter Try.func81, Try.ntmps81
    go_wp2_with fail
    go_step3
    go_wp2_with (fail)
    go_at_call 32
    refine (net_Strip.calls a0_0 _ _ l0_1 _ _ l1 _ _ _ _ _ ?side1 hc0_1 ?side2 hc1 HST.out).mono ?_
    (case side1 => exact Kd.C_below HR0.out HB2.out)
    (case side2 => exact Kd.C_below HR1.out HB2.out)
    rintro e w4 ⟨v1, v2, rfl, hs1, hs2, hb4⟩
    obtain ⟨Am, cm, rfl⟩ := Kd.R_slice hs1
    obtain ⟨k0, k1, hsz, hbw⟩ := boxes2 hb4
    have hw0 : w.heap.size < w4.heap.size := by omega
    have hw1 : w.heap.size + 1 < w4.heap.size := by omega
    have c00 : w4.cell? ⟨w.heap.size, 0, none⟩ = some (.int .i64 a0_0) := (blk_cell k0 0).trans rfl
    have S1 := Lib.hid (Kd.R_lower (base' := w.heap.size) hs1 (by rw [World.size_alloc, World.size_alloc]; omega))
    have K0 := Lib.hid k0
    have K1 := Lib.hid k1
    have HBW := Lib.hid hbw
    clear hs1 hs2 hb4 k0 k1 hbw
    go_wp2_with fail
    obtain ⟨hck, hri, hro⟩ := outsV_ok HV.out
    obtain ⟨hn1, hn6, hlen10, hok⟩ := chk_ok hck
    obtain ⟨N, rfl⟩ := Int.eq_ofNat_of_zero_le (show 0 ≤ a0_0 by omega)
    have HOK := Lib.hid hok
    have hSL10 : SL.length ≤ 10 := by
      have e : SL.length ≤ l0_1.length := by
        rw [HSL.out, List.length_map]
        exact Nat.le_trans (List.length_filter_le _ _) (by rw [List.length_range]; exact Nat.le_refl _)
      omega
    clear hck hri hro hok
    obtain ⟨B0, hB0⟩ : ∃ B0, B0 = w4.heap.size + 1 := ⟨_, rfl⟩
    have st0 : St (N : Int) w.heap.size B0 w4.heap.size Am cm SL w (.slice none 0 0) [] (w4.alloc (.cells #[.int .i64 (N : Int), .slice Am SL.length cm] 24)) :=
      ⟨blk_alloc K1.out _, heap_alloc_new w4 _, Kd.R_mono (Kd.R_bound (Kd.R_alloc (Kd.R_reok (ok := fun k => k < B0 ∧ k ≠ w.heap.size + 1) rfl S1.out (fun k e => ⟨by have := Kd.R_lt S1.out k e; omega, fun e' => Kd.R_ne S1.out K1.out (by decide) (by rw [← e', e])⟩)) _)) (fun k hk => hk.1), Kd.R_nil _ _ _ _ _, HBW.out.alloc (by omega) _, by simp; omega⟩
    have ST0 := Lib.hid st0
    have h6a : w4.heap.size < B0 := by omega
    have h6b : w4.heap.size ≠ w.heap.size + 1 := by omega
    have hHB : w.heap.size + 1 < B0 := by omega
    generalize w4.heap.size = g6 at ST0 h6a h6b hB0 ⊢
    generalize w4.alloc (.cells #[.int .i64 (N : Int), .slice Am SL.length cm] 24) = wA at ST0 ⊢
    clear st0 S1 K0 K1 HBW hw0 hw1 c00 hsz hB0
    go_loopg [27] N (fun kq v27 wr => ∃ k : Nat, k ≤ N ∧ v27 = .int .i64 (k : Int) ∧ Hid (kq = N - k ∧ ∃ v, St (N : Int) w.heap.size B0 g6 Am cm SL w v ((List.range k).map (fun (b : Nat) => (b : Int))) wr))
    case atStart => exact ⟨0, Nat.zero_le _, rfl, by simp, _, ST0.out⟩
    case round =>
      obtain ⟨k, hk, rfl, HK⟩ := hrel
      obtain ⟨v, hst⟩ := HK.out.2
      by_cases hlt : k < N
      · have q1 : decide ((k : Int) < (N : Int)) = true := decide_eq_true (by omega)
        obtain ⟨A8, c8, rfl⟩ := Kd.R_slice hst.r
        obtain ⟨X, hX⟩ : ∃ X, X = (List.range k).map (fun (b : Nat) => (b : Int)) := ⟨_, rfl⟩
        have hXl : X.length = k := by rw [hX]; simp
        rw [← hX] at hst
        have HX := Lib.hid hX
        have HXL := Lib.hid hXl
        have ST := Lib.hid hst
        clear hX hXl hst
        have c20 : wr.cell? ⟨w.heap.size + 1, 0, none⟩ = some (.slice A8 X.length c8) := (blk_cell ST.out.b 0).trans rfl
        have hlen : (X.length + 1) * 8 ≤ 140737488355328 := by have := HXL.out; have := hn6; omega
        have hwB : B0 ≤ wr.heap.size := ST.out.sz
        go_wp2_with (first | ((with_reducible refine gate_builtin (b := .append) (xs := #[.tmp 30, .tmp 32]) rfl ?_); at_builtin; refine Kd.R_append (Kd.int .i64) (w0 := wr) B0 rfl (.tmp 30) (.tmp 32) 25 3 (.int .i64 0) 8 rfl Try.underlying25 info3 rfl (by decide) (by omega) (.slice A8 X.length c8) X (k : Int) [.int .i64 (k : Int)] (fun _ => True) (fun _ => False) rfl rfl ?aP (fun _ hk => hk.elim) ?aF ?aO ?aB ?aS ?aL ?_; (case aP => exact rfl); (case aF => exact (fun _ _ => trivial)); (case aO => exact ST.out.r); (case aB => exact Below.refl _ _); (case aS => exact hwB); (case aL => exact hlen); intro v1 w5 hr5 hb5 hg5 hat5; obtain ⟨A9, c9, rfl⟩ := Kd.R_slice hr5; obtain ⟨hbx, hst'⟩ := ST.out.append hHB h6a h6b hr5 hg5; have HST' := Lib.hid hst'; have c21 : w5.cell? ⟨w.heap.size + 1, 0, none⟩ = some (.slice A8 X.length c8) := (blk_cell hbx 0).trans rfl; have f21 := blk_frozen hbx; clear hbx hst' hr5 hb5 hg5 hat5))
        go_roundg (N - (k + 1))
        case measure => have := HK.out.1; omega
        case rel =>
          refine ⟨k + 1, by omega, rfl, rfl, .slice A9 (X.length + 1) c9, ?_⟩
          have e1 : (List.range (k + 1)).map (fun (b : Nat) => (b : Int)) = X ++ [(k : Int)] := by rw [List.range_succ, List.map_append, ← HX.out]; rfl
          rw [e1]
          have h := HST'.out
          simp only [List.length_append, List.length_cons, List.length_nil, Nat.zero_add] at h
          exact h
      · have q1 : decide ((k : Int) < (N : Int)) = false := decide_eq_false (by omega)
        go_wp2_with fail
        have hkN : k = N := by omega
        subst hkN
        have hXN : UF ((List.range k).map (fun (b : Nat) => (b : Int))) (lab ((edges l0_1 l1).take 0)) k := UF.start k
        obtain ⟨X0, hX0⟩ : ∃ X, X = (List.range k).map (fun (b : Nat) => (b : Int)) := ⟨_, rfl⟩
        rw [← hX0] at hst hXN
        have ST := Lib.hid hst
        have HUF := Lib.hid hXN
        clear hst hXN hX0 HK ST0
        have c61 : wr.cell? ⟨g6, 1, none⟩ = some (.slice Am SL.length cm) := (blk_cell ST.out.m 1).trans rfl
        go_step3
        go_wp2_with fail
        obtain ⟨A8, c8, rfl⟩ := Kd.R_slice ST.out.r
        go_loopg [39] SL.length (fun kq v39 wr => ∃ i : Nat, i ≤ SL.length ∧ v39 = .int .i64 (i : Int) ∧ Hid (kq = SL.length - i ∧ ∃ A c X, St (k : Int) w.heap.size B0 g6 Am cm SL w (.slice A X.length c) X wr ∧ UF X (lab ((edges l0_1 l1).take i)) k))
        case atStart => exact ⟨0, Nat.zero_le _, rfl, rfl, A8, c8, X0, ST.out, HUF.out⟩
        case round =>
          obtain ⟨i, hi, rfl, HI⟩ := hrel
          obtain ⟨A, c, X, hst, huf⟩ := HI.out.2
          have ST := Lib.hid hst
          have HUF := Lib.hid huf
          clear hst huf
          by_cases hlt2 : i < SL.length
          · have q1 : decide ((i : Int) < (SL.length : Int)) = true := decide_eq_true (by omega)
            obtain ⟨u, v, hu0, hv0, hu, hv, huv, htk⟩ := edge_ok HV.out HSL.out i hlt2
            obtain ⟨ad, hAm, e0, e1, e2, e3⟩ := at_T37 (Kd.R_reads' ST.out.s).2.2 (i : Int) (by omega) (by omega)
            subst hAm
            rw [Int.toNat_natCast] at e0 e1 e2 e3
            rw [hu0] at e0
            rw [hv0] at e1
            obtain ⟨x2, hx2⟩ : ∃ x, x = (rd_T37 SL (i : Int)).f2 := ⟨_, rfl⟩
            obtain ⟨x3, hx3⟩ : ∃ x, x = (rd_T37 SL (i : Int)).f3 := ⟨_, rfl⟩
            rw [← hx2] at e2
            rw [← hx3] at e3
            clear hx2 hx3 hu0 hv0
            have ST2 := Lib.hid (fun n => ((ST.out.alloc (by omega) (.cells #[.int .i64 (u : Int), .int .i64 (v : Int), .int .i64 x2, .int .i64 x3] 37))).drewN n)
            have HTK := Lib.hid htk
            have HNE := Lib.hid huv
            clear htk huv
            go_wp2_with fail
            go_quiet (first
              | (rename_i nn; go_at_call_of 105 (Value.int IntKind.i64 (u : Int)); refine Calls.quiet_of_same (find_calls (w.heap.size + 1) A c X (lab ((edges l0_1 l1).take i)) k u _ ?_ ?_ HUF.out hu); exact (blk_cell (ST2.out nn).b 0).trans rfl; exact (Kd.R_reads' (ST2.out nn).r).2.2)
              | (rename_i nn; go_at_call_of 105 (Value.int IntKind.i64 (v : Int)); refine Calls.quiet_of_same (find_calls (w.heap.size + 1) A c X (lab ((edges l0_1 l1).take i)) k v _ ?_ ?_ HUF.out hv); exact (blk_cell (ST2.out nn).b 0).trans rfl; exact (Kd.R_reads' (ST2.out nn).r).2.2))
            generalize hLa : lab ((edges l0_1 l1).take i) u = la
            generalize hLb : lab ((edges l0_1 l1).take i) v = lb
            have HLA := Lib.hid hLa
            have HLB := Lib.hid hLb
            clear hLa hLb
            have ST3 := Lib.hid (ST2.out nq)
            have HLA2 := Lib.hid (HUF.out.le u)
            have HLB2 := Lib.hid (HUF.out.le v)
            clear ST ST2
            generalize (wr.alloc (.cells #[.int .i64 (u : Int), .int .i64 (v : Int), .int .i64 x2, .int .i64 x3] 37)).drewN nq = W at ST3 ⊢
            by_cases hll : la = lb
            · have t1 : ((la : Int) == (lb : Int)) = true := by rw [beq_iff_eq]; omega
              have HLL := Lib.hid hll
              clear hll
              go_wp2_with fail
              go_roundg (SL.length - (i + 1))
              case measure => have := HI.out.1; omega
              case rel =>
                refine ⟨i + 1, by omega, rfl, rfl, A, c, X, ST3.out, ?_⟩
                rw [HTK.out, lab_snoc, merge_same (by show lab _ u = lab _ v; rw [HLA.out, HLB.out, HLL.out])]
                exact HUF.out
            · have t1 : ((la : Int) == (lb : Int)) = false := by rw [beq_eq_false_iff_ne]; omega
              have HLL := Lib.hid hll
              clear hll
              have hXl := HUF.out.len
              obtain ⟨g, cap, hAc, hgB, hgW, _⟩ := Kd.R_form ST3.out.r (by omega)
              simp only [Value.slice.injEq, true_and] at hAc
              obtain ⟨rfl, rfl⟩ := hAc
              have c40 : W.cell? ⟨w.heap.size + 1, 0, none⟩ = some (.slice (some ⟨g, 0, none⟩) X.length c) := (blk_cell ST3.out.b 0).trans rfl
              have hla : la < X.length := by have := HLA2.out; have := HLA.out; omega
              have hlb : lb < X.length := by have := HLB2.out; have := HLB.out; omega
              obtain ⟨cXa, fXa⟩ := ST3.out.cellf la hla
              obtain ⟨cXb, fXb⟩ := ST3.out.cellf lb hlb
              have hua := HUF.out.union hu hv (by rw [HLA.out, HLB.out]; exact HLL.out)
              rw [HLA.out, HLB.out] at hua
              have HUA := Lib.hid hua
              clear hua
              have HPT := Lib.hid (fun j y => ST3.out.put hHB h6a j y)
              rcases Nat.lt_or_gt_of_ne HLL.out with hlt | hlt
              · have q2 : decide ((la : Int) < (lb : Int)) = true := decide_eq_true (by omega)
                have q3 : decide ((lb : Int) < (la : Int)) = false := decide_eq_false (by omega)
                rw [Nat.max_eq_right (by omega), Nat.min_eq_left (by omega)] at HUA
                go_wp2_with fail
                go_roundg (SL.length - (i + 1))
                case measure => have := HI.out.1; omega
                case rel =>
                  refine ⟨i + 1, by omega, rfl, rfl, some ⟨g, 0, none⟩, c, X.set lb (la : Int), ?_, ?_⟩
                  · rw [List.length_set]; exact HPT.out lb (la : Int)
                  · rw [HTK.out, lab_snoc]; exact HUA.out
              · have q2 : decide ((la : Int) < (lb : Int)) = false := decide_eq_false (by omega)
                have q3 : decide ((lb : Int) < (la : Int)) = true := decide_eq_true (by omega)
                rw [Nat.max_eq_left (by omega), Nat.min_eq_right (by omega)] at HUA
                go_wp2_with fail
                go_roundg (SL.length - (i + 1))
                case measure => have := HI.out.1; omega
                case rel =>
                  refine ⟨i + 1, by omega, rfl, rfl, some ⟨g, 0, none⟩, c, X.set la (lb : Int), ?_, ?_⟩
                  · rw [List.length_set]; exact HPT.out la (lb : Int)
                  · rw [HTK.out, lab_snoc]; exact HUA.out
          · have q1 : decide ((i : Int) < (SL.length : Int)) = false := decide_eq_false (by omega)
            have hiS : i = SL.length := by omega
            subst hiS
            have hE : (edges l0_1 l1).take SL.length = edges l0_1 l1 := List.take_of_length_le (by unfold edges; rw [HSL.out, List.length_map, List.length_map]; exact Nat.le_refl _)
            rw [hE] at HUF
            generalize hF : lab (edges l0_1 l1) = F at HUF ⊢
            have HF := Lib.hid hF
            clear hF hE HI
            have c40 : wr.cell? ⟨w.heap.size + 1, 0, none⟩ = some (.slice A X.length c) := (blk_cell ST.out.b 0).trans rfl
            have hXl := HUF.out.len
            go_wp2_with fail
            go_loopg [65] X.length (fun kq v65 wr => ∃ j : Nat, j ≤ k ∧ v65 = .int .i64 (j : Int) ∧ Hid (kq = k - j ∧ ∃ A c X, St (k : Int) w.heap.size B0 g6 Am cm SL w (.slice A X.length c) X wr ∧ UF X F k ∧ ∀ b : Nat, b < j → rd X (b : Int) = ((F b : Nat) : Int)))
            case atStart => exact ⟨0, Nat.zero_le _, rfl, by omega, A, c, X, ST.out, HUF.out, fun b hb => absurd hb (Nat.not_lt_zero _)⟩
            case round =>
              obtain ⟨j, hj, rfl, HJ⟩ := hrel
              obtain ⟨A, c, Y, hst, huf, hrd⟩ := HJ.out.2
              have ST := Lib.hid hst
              have HUF := Lib.hid huf
              have HRD := Lib.hid hrd
              clear hst huf hrd
              have hYl := HUF.out.len
              by_cases hlt3 : j < k
              · have q1 : decide ((j : Int) < (X.length : Int)) = true := decide_eq_true (by omega)
                obtain ⟨g, cap, hAc, hgB, hgW, _⟩ := Kd.R_form ST.out.r (by omega)
                simp only [Value.slice.injEq, true_and] at hAc
                obtain ⟨rfl, rfl⟩ := hAc
                have st2 := ST.out.drew
                obtain ⟨cX, fX⟩ := st2.cellf j (by omega)
                have c40 : wr.drew.cell? ⟨w.heap.size + 1, 0, none⟩ = some (.slice (some ⟨g, 0, none⟩) Y.length c) := (blk_cell st2.b 0).trans rfl
                have ST2 := Lib.hid st2
                clear st2 ST
                go_wp2_with fail
                go_region_with (go_at_call 105; refine (find_calls (w.heap.size + 1) (some ⟨g, 0, none⟩) c Y F k j _ c40 (Kd.R_reads' ST2.out.r).2.2 HUF.out hlt3).mono ?_; rintro e w' ⟨rfl, rfl⟩)
                all_goals go_wp2_with fail
                all_goals (go_roundg (k - (j + 1)); (case measure => have := HJ.out.1; omega); (case rel =>
                  refine ⟨j + 1, by omega, rfl, rfl, some ⟨g, 0, none⟩, c, Y.set j ((F j : Nat) : Int), ?_, HUF.out.flat hlt3, ?_⟩
                  · rw [List.length_set]; exact ST2.out.put hHB h6a j _
                  · intro b hb
                    rw [rd_set (by omega)]
                    by_cases hbj : b = j
                    · rw [if_pos hbj, hbj]
                    · rw [if_neg hbj]; exact HRD.out b (by omega)))
              · have q1 : decide ((j : Int) < (X.length : Int)) = false := decide_eq_false (by omega)
                have hjk : j = k := by omega
                subst hjk
                have c40 : wr.cell? ⟨w.heap.size + 1, 0, none⟩ = some (.slice A Y.length c) := (blk_cell ST.out.b 0).trans rfl
                have HYL := Lib.hid hYl
                clear hYl
                have f40 := blk_frozen ST.out.b 0
                go_wp2_with fail
                rw [Exit.noGoto_ret]
                have hY : Y = (List.range j).map (fun (b : Nat) => ((F b : Nat) : Int)) := by
                  have hYl := HYL.out
                  refine List.ext_getElem (by rw [hYl, List.length_map, List.length_range]) (fun n h1 h2 => ?_)
                  have e := HRD.out n (by omega)
                  rw [rd_nat _ _ h1] at e
                  rw [e, List.getElem_map, List.getElem_range]
                have e1 : wr.setCell ⟨w.heap.size + 1, 0, none⟩ (.slice A Y.length c) = wr := setCell_id (i := 0) ST.out.b rfl
                try rw [e1]
                refine bodyPost_ret (v := .tuple #[.slice A Y.length c, .int .i64 0]) (by simp [results, Try.f81, go_sem, c40]) rfl ⟨_, rfl, ?_, ST.out.bl⟩
                have hF' : lab (edges l0_1 l1) = F := HF.out
                rw [hF', Int.toNat_natCast, ← hY]
                exact Kd.R_lower ST.out.r (by omega)
  · obtain ⟨ev, hev⟩ : ∃ ev, ev = outsV a0_0 l0_1 l1 := ⟨_, rfl⟩
    have hst : net_Strip.f a0_0 l0_1 l1 = some (0, [], [], ev) := by rw [net_Strip.f, if_neg hv, hev]
    rw [island_stands.f, if_neg hv, ← hev] at h
    simp only [Option.some.injEq, Prod.mk.injEq] at h
    obtain ⟨rfl, rfl⟩ := h
    rw [← hev] at hv
    have t1 : (ev != 0) = true := by rw [bne_iff_ne]; exact hv
    have HST := Lib.hid hst
    clear hst hv hev
    go_enter Try.func81, Try.ntmps81
    go_wp2_with fail
    go_step3
    go_wp2_with (fail)
    go_at_call 32
    refine (net_Strip.calls a0_0 _ _ l0_1 _ _ l1 _ _ _ _ _ ?side1 hc0_1 ?side2 hc1 HST.out).mono ?_
    (case side1 => exact Kd.C_below HR0.out HB2.out)
    (case side2 => exact Kd.C_below HR1.out HB2.out)
    rintro e w4 ⟨v1, v2, rfl, hs1, hs2, hb4⟩
    obtain ⟨Am, cm, rfl⟩ := Kd.R_slice hs1
    obtain ⟨k0, k1, hsz, hbw⟩ := boxes2 hb4
    have hw1 : w.heap.size + 1 < w4.heap.size := by omega
    have c1 : w4.cell? ⟨w.heap.size + 1, 0, none⟩ = some (.slice none 0 0) := (blk_cell k1 0).trans rfl
    have f1 := blk_frozen k1 0
    have e1 : w4.setCell ⟨w.heap.size + 1, 0, none⟩ (.slice none 0 0) = w4 := setCell_id (i := 0) k1 rfl
    have c2 : ∀ o, (w4.alloc o).cell? ⟨w.heap.size + 1, 0, none⟩ = some (.slice none 0 0) := fun o => (blk_cell (blk_alloc k1 o) 0).trans rfl
    have C2 := Lib.hid c2
    clear c2
    have HBW := Lib.hid (fun o => hbw.alloc (by omega : w.heap.size ≤ w4.heap.size) o)
    have K1 := Lib.hid k1
    have E1 := Lib.hid e1
    clear hs1 hs2 hb4 k0 k1 hbw e1
    go_wp2_with fail
    try rw [Exit.noGoto_ret]
    rw [E1.out]
    refine bodyPost_ret (v := .tuple #[.slice none 0 0, .int .i64 ev]) (by have c2 := C2.out; simp [results, Try.f81, go_sem, c2]) rfl ⟨_, rfl, Kd.R_nil _ _ _ _ _, HBW.out _⟩

end Go.Proofs.Ytdpgdelimffjpaa.P
