/- Texts of this claim, merged: the words that print.sh and the prover's driver wrote, and hand-proved contracts and lemmas, less what this claim does not name. Lean checks them. -/
import Derived.RegionTactic
import Derived.ChangeAlike
import Derived.Lib.SmallJoins
import Derived.Deep.Slices
import Derived.Deep.Fields
import Derived.ChangeSame
import Derived.WalkKit
import Derived.ProofKit
import Derived.OpenShut
import Derived.ChangeOld
import Derived.Test.YtdpgdelimffjpaaRows
import Derived.KernelRfl
import Derived.JoinedOf
import Derived.Shelf.Sort.Plain
import Derived.Shelf.Slices.CompactI
import Derived.Shelf.Slices.In.SortNone
import Derived.Test.YtdpgdelimffjpaaProg
import Derived.Lib.SlicesCompact
import Derived.Sort.OwnSortedInts
import Derived.Lib.OwnBridge
import Derived.Lib.RowBridge
import Derived.Lib.Hide
import Derived.Test.YtdpgdelimffjpaaK4a
import Derived.Test.YtdpgdelimffjpaaK4b
namespace Go.Proofs.Ytdpgdelimffjpaa.P
open Go.RowKit Go.Proofs.YtdpgdelimffjpaaW.PrintWords Go.Proofs.YtdpgdelimffjpaaW.PrintLast Go.Proofs.YtdpgdelimffjpaaW.PrintMore
attribute [local go_sem] max2_int min2_int max_two min_two max_three min_three max_four min_four
set_option linter.unusedVariables false
set_option linter.unusedSimpArgs false
theorem k37_two23 {W : World} {base g n cap : Nat} {ok : Nat → Prop} {L : List S37} (h : Kd.R k37 37 W base ok (.slice (some ⟨g, 0, none⟩) n cap) L) (i : Int) (h0 : 0 ≤ i) (h1 : i < n) (a b : Int) :
    Kd.R k37 37 ((W.setCell ⟨g, i.toNat * 4 + 2, none⟩ (.int .i64 a)).setCell ⟨g, i.toNat * 4 + 3, none⟩ (.int .i64 b)) base ok (.slice (some ⟨g, 0, none⟩) n cap) (L.set i.toNat ⟨(rd_T37 L i).f0, (rd_T37 L i).f1, a, b⟩) := by
  have hn : n = L.length := (Kd.R_reads' h).1
  obtain ⟨c, hcl, hM, hcc, _⟩ := Kd.R_elem h z37 i h0 h1
  have hx := k37_openM hM
  have hg : L.getD i.toNat z37 = rd_T37 L i := rfl
  rw [hg] at hx
  subst hx
  have r1 := (Kd.R_seg h i h0 h1 (j := 2) (seg := [.int .i64 a]) hcl hcc (by simp [k37]; decide) (x' := ⟨(rd_T37 L i).f0, (rd_T37 L i).f1, a, (rd_T37 L i).f3⟩) (okp := fun k => ok k ∧ k ≠ g) (k37_mkM _ _ _ ⟨(rd_T37 L i).f0, (rd_T37 L i).f1, a, (rd_T37 L i).f3⟩) (fun _ hk => hk)).1
  obtain ⟨c2, hcl2, hM2, hcc2, _⟩ := Kd.R_elem r1 z37 i h0 h1
  have hx2 := k37_openM hM2
  have hg2 : (L.set i.toNat ⟨(rd_T37 L i).f0, (rd_T37 L i).f1, a, (rd_T37 L i).f3⟩).getD i.toNat z37 = (⟨(rd_T37 L i).f0, (rd_T37 L i).f1, a, (rd_T37 L i).f3⟩ : S37) := by
    have : i.toNat < L.length := by omega
    simp [List.getD_eq_getElem?_getD, this]
  rw [hg2] at hx2
  subst hx2
  have r2 := (Kd.R_seg r1 i h0 h1 (j := 3) (seg := [.int .i64 b]) hcl2 hcc2 (by simp [k37]; decide) (x' := ⟨(rd_T37 L i).f0, (rd_T37 L i).f1, a, b⟩) (okp := fun k => ok k ∧ k ≠ g) (k37_mkM _ _ _ ⟨(rd_T37 L i).f0, (rd_T37 L i).f1, a, b⟩) (fun _ hk => hk)).1
  rw [List.set_set] at r2
  exact r2
set_option maxRecDepth 100000 in
set_option maxHeartbeats 4000000 in
theorem pylonlaw15_IslandReverse.long (k : Nat) (a0_0 : Int) (A0_1 : Option Addr) (c0_1 : Nat) (l0_1 : List S37) (A1 : Option Addr) (c1 : Nat) (l1 : List Int) (a2 a3 a4 : Int) (w : World) (hr0_1 : Kd.C k37 w A0_1 l0_1.length l0_1) (hc0_1 : l0_1.length ≤ c0_1) (hr1 : Kd.C (Kd.int .i64) w A1 l1.length l1) (hc1 : l1.length ≤ c1) (hlong : ql14Long.f k a0_0 l0_1 [l1] = some true) :
  Calls Try.prog 4 #[.agg #[.int .i64 a0_0, .slice A0_1 l0_1.length c0_1], .slice A1 l1.length c1, .int .i64 a2, .int .i64 a3, .int .i64 a4] w fun e w' => e = .returned (.bool true) ∧ Below w.heap.size w w' := by
 have hu24 := Try.underlying24
 have hu37 := Try.underlying37
 have XN := Lib.hid hr0_1
 have XO := Lib.hid hr1
 clear hr0_1 hr1
 have HLONG := Lib.hid hlong
 clear hlong
 go_enter Try.func4, Try.ntmps4
 go_wp2_with (first | ((with_reducible refine gate_dst (N := 5) rfl ?_); (try (refine gG (by rfl) ?_; dsimp only)); refine bE ?hg (N := 5) ?hd (cs := #[.int .i64 a0_0, .slice A0_1 l0_1.length c0_1]) (t := 24) ?hr ?_; (case hd => rfl); (case hg => rfl); (case hr => first | (go_simp; done) | (go_simp; rfl)); intro gn hg w1 hbox hb; have B2 := Lib.hid (hb); have K3 := Lib.hid (show w1.heap[gn]? = some (.cells #[.int .i64 a0_0, .slice A0_1 l0_1.length c0_1] 24 (0, 0)) from hbox); have c_0_K3 : w1.cell? ⟨gn, 0, none⟩ = some (.int .i64 a0_0) := (kC K3.out 0).trans rfl; have c_1_K3 : w1.cell? ⟨gn, 1, none⟩ = some (.slice A0_1 l0_1.length c0_1) := (kC K3.out 1).trans rfl; have l_K3 : gn < w1.heap.size := blk_lt K3.out; clear hb hbox hg) | ((with_reducible refine gate_dst (N := 19) rfl ?_); (try (refine gG (by rfl) ?_; dsimp only)); refine rows_event ?hg (N := 19) ?hd (n := 1) (inner := [.slice A1 l1.length c1]) (e := 25) ?hr ?_; (case hd => rfl); (case hg => rfl); (case hr => first | (go_simp; done) | (go_simp; rfl)); intro gl hg w4 hrow hb; have B5 := Lib.hid (B2.out.trans (hb.mono B2.out.size)); clear c_0_K3 c_1_K3 l_K3; have K6 := Lib.hid (show w4.heap[gn]? = some (.cells #[.int .i64 a0_0, .slice A0_1 l0_1.length c0_1] 24 (0, 0)) from kB K3.out hb); clear K3; have c_0_K6 : w4.cell? ⟨gn, 0, none⟩ = some (.int .i64 a0_0) := (kC K6.out 0).trans rfl; have c_1_K6 : w4.cell? ⟨gn, 1, none⟩ = some (.slice A0_1 l0_1.length c0_1) := (kC K6.out 1).trans rfl; have l_K6 : gn < w4.heap.size := blk_lt K6.out; clear B2; have X7 := Lib.hid (show Kd.C (Kd.slice 3 (Kd.int .i64)) w4 (some ⟨gl, 0, none⟩) 1 [l1] from C_rows1 hrow (Kd.C_below XO.out B5.out) hc1); clear hb hrow hg))
 go_at_call 28
 refine (ql14Long.calls k a0_0 _ _ l0_1 (some ⟨gl, 0, none⟩) 1 [l1] true _ (Kd.C_below XN.out B5.out) hc0_1 X7.out (Nat.le_refl _) HLONG.out).mono ?_
 rintro e_ w8 ⟨rfl, hb⟩
 have B9 := Lib.hid (B5.out.trans (hb.mono B5.out.size))
 clear c_0_K6 c_1_K6 l_K6
 have K10 := Lib.hid (show w8.heap[gn]? = some (.cells #[.int .i64 a0_0, .slice A0_1 l0_1.length c0_1] 24 (0, 0)) from kB K6.out hb)
 clear K6
 have c_0_K10 : w8.cell? ⟨gn, 0, none⟩ = some (.int .i64 a0_0) := (kC K10.out 0).trans rfl
 have c_1_K10 : w8.cell? ⟨gn, 1, none⟩ = some (.slice A0_1 l0_1.length c0_1) := (kC K10.out 1).trans rfl
 have l_K10 : gn < w8.heap.size := blk_lt K10.out
 have X11 := Lib.hid (Kd.C_below X7.out hb)
 clear X7; clear B5; clear hb
 go_wp2_with fail
 go_at_call 29
 refine (ql15awake.calls true _ rfl).mono ?_
 rintro e_ w12 ⟨rfl, hb⟩
 have B13 := Lib.hid (B9.out.trans (hb.mono B9.out.size))
 clear c_0_K10 c_1_K10 l_K10
 have K14 := Lib.hid (show w12.heap[gn]? = some (.cells #[.int .i64 a0_0, .slice A0_1 l0_1.length c0_1] 24 (0, 0)) from kB K10.out hb)
 clear K10
 have c_0_K14 : w12.cell? ⟨gn, 0, none⟩ = some (.int .i64 a0_0) := (kC K14.out 0).trans rfl
 have c_1_K14 : w12.cell? ⟨gn, 1, none⟩ = some (.slice A0_1 l0_1.length c0_1) := (kC K14.out 1).trans rfl
 have l_K14 : gn < w12.heap.size := blk_lt K14.out
 clear B9; clear hb
 go_wp2_with fail
 go_ret
 exact ⟨rfl, B13.out⟩
set_option maxRecDepth 100000 in
set_option maxHeartbeats 4000000 in
theorem pylonlaw15_IslandReverse.bad (k : Nat) (a0_0 : Int) (A0_1 : Option Addr) (c0_1 : Nat) (l0_1 : List S37) (A1 : Option Addr) (c1 : Nat) (l1 : List Int) (a2 a3 a4 : Int) (w : World) (hr0_1 : Kd.C k37 w A0_1 l0_1.length l0_1) (hc0_1 : l0_1.length ≤ c0_1) (hr1 : Kd.C (Kd.int .i64) w A1 l1.length l1) (hc1 : l1.length ≤ c1) (hlong : ql14Long.f k a0_0 l0_1 [l1] = some false) (bm : Int) (Lm : List S37) (e : Int) (hrev : nReverse.f a0_0 l0_1 a2 = some (bm, Lm, e)) (he : e ≠ 0) :
  Calls Try.prog 4 #[.agg #[.int .i64 a0_0, .slice A0_1 l0_1.length c0_1], .slice A1 l1.length c1, .int .i64 a2, .int .i64 a3, .int .i64 a4] w fun e w' => e = .returned (.bool true) ∧ Below w.heap.size w w' := by
 have hu24 := Try.underlying24
 have hu37 := Try.underlying37
 have XN := Lib.hid hr0_1
 have XO := Lib.hid hr1
 clear hr0_1 hr1
 have HREV := Lib.hid hrev
 clear hrev
 have he0 : (e == 0) = false := beq_eq_false_iff_ne.2 he
 have he1 : (e != 0) = true := bne_iff_ne.2 he
 clear he
 have HLONG := Lib.hid hlong
 clear hlong
 go_enter Try.func4, Try.ntmps4
 go_wp2_with (first | ((with_reducible refine gate_dst (N := 5) rfl ?_); (try (refine gG (by rfl) ?_; dsimp only)); refine bE ?hg (N := 5) ?hd (cs := #[.int .i64 a0_0, .slice A0_1 l0_1.length c0_1]) (t := 24) ?hr ?_; (case hd => rfl); (case hg => rfl); (case hr => first | (go_simp; done) | (go_simp; rfl)); intro gn hg w1 hbox hb; have B2 := Lib.hid (hb); have K3 := Lib.hid (show w1.heap[gn]? = some (.cells #[.int .i64 a0_0, .slice A0_1 l0_1.length c0_1] 24 (0, 0)) from hbox); have c_0_K3 : w1.cell? ⟨gn, 0, none⟩ = some (.int .i64 a0_0) := (kC K3.out 0).trans rfl; have c_1_K3 : w1.cell? ⟨gn, 1, none⟩ = some (.slice A0_1 l0_1.length c0_1) := (kC K3.out 1).trans rfl; have l_K3 : gn < w1.heap.size := blk_lt K3.out; clear hb hbox hg) | ((with_reducible refine gate_dst (N := 19) rfl ?_); (try (refine gG (by rfl) ?_; dsimp only)); refine rows_event ?hg (N := 19) ?hd (n := 1) (inner := [.slice A1 l1.length c1]) (e := 25) ?hr ?_; (case hd => rfl); (case hg => rfl); (case hr => first | (go_simp; done) | (go_simp; rfl)); intro gl hg w4 hrow hb; have B5 := Lib.hid (B2.out.trans (hb.mono B2.out.size)); clear c_0_K3 c_1_K3 l_K3; have K6 := Lib.hid (show w4.heap[gn]? = some (.cells #[.int .i64 a0_0, .slice A0_1 l0_1.length c0_1] 24 (0, 0)) from kB K3.out hb); clear K3; have c_0_K6 : w4.cell? ⟨gn, 0, none⟩ = some (.int .i64 a0_0) := (kC K6.out 0).trans rfl; have c_1_K6 : w4.cell? ⟨gn, 1, none⟩ = some (.slice A0_1 l0_1.length c0_1) := (kC K6.out 1).trans rfl; have l_K6 : gn < w4.heap.size := blk_lt K6.out; clear B2; have X7 := Lib.hid (show Kd.C (Kd.slice 3 (Kd.int .i64)) w4 (some ⟨gl, 0, none⟩) 1 [l1] from C_rows1 hrow (Kd.C_below XO.out B5.out) hc1); clear hb hrow hg))
 go_at_call 28
 refine (ql14Long.calls k a0_0 _ _ l0_1 (some ⟨gl, 0, none⟩) 1 [l1] false _ (Kd.C_below XN.out B5.out) hc0_1 X7.out (Nat.le_refl _) HLONG.out).mono ?_
 rintro e_ w8 ⟨rfl, hb⟩
 have B9 := Lib.hid (B5.out.trans (hb.mono B5.out.size))
 clear c_0_K6 c_1_K6 l_K6
 have K10 := Lib.hid (show w8.heap[gn]? = some (.cells #[.int .i64 a0_0, .slice A0_1 l0_1.length c0_1] 24 (0, 0)) from kB K6.out hb)
 clear K6
 have c_0_K10 : w8.cell? ⟨gn, 0, none⟩ = some (.int .i64 a0_0) := (kC K10.out 0).trans rfl
 have c_1_K10 : w8.cell? ⟨gn, 1, none⟩ = some (.slice A0_1 l0_1.length c0_1) := (kC K10.out 1).trans rfl
 have l_K10 : gn < w8.heap.size := blk_lt K10.out
 have X11 := Lib.hid (Kd.C_below X7.out hb)
 clear X7; clear B5; clear hb
 go_wp2_with fail
 go_at_call 29
 refine (ql15awake.calls true _ rfl).mono ?_
 rintro e_ w12 ⟨rfl, hb⟩
 have B13 := Lib.hid (B9.out.trans (hb.mono B9.out.size))
 clear c_0_K10 c_1_K10 l_K10
 have K14 := Lib.hid (show w12.heap[gn]? = some (.cells #[.int .i64 a0_0, .slice A0_1 l0_1.length c0_1] 24 (0, 0)) from kB K10.out hb)
 clear K10
 have c_0_K14 : w12.cell? ⟨gn, 0, none⟩ = some (.int .i64 a0_0) := (kC K14.out 0).trans rfl
 have c_1_K14 : w12.cell? ⟨gn, 1, none⟩ = some (.slice A0_1 l0_1.length c0_1) := (kC K14.out 1).trans rfl
 have l_K14 : gn < w12.heap.size := blk_lt K14.out
 clear B9; clear hb
 go_wp2_with fail
 go_at_call 34
 refine (nReverse.calls a0_0 _ _ l0_1 a2 bm Lm e _ (Kd.C_below XN.out B13.out) hc0_1 HREV.out).mono ?_
 rintro e_ w15 ⟨vm, rfl, ho, hb⟩
 have B16 := Lib.hid (B13.out.trans (hb.mono B13.out.size))
 clear c_0_K14 c_1_K14 l_K14
 have K17 := Lib.hid (show w15.heap[gn]? = some (.cells #[.int .i64 a0_0, .slice A0_1 l0_1.length c0_1] 24 (0, 0)) from kB K14.out hb)
 clear K14
 have c_0_K17 : w15.cell? ⟨gn, 0, none⟩ = some (.int .i64 a0_0) := (kC K17.out 0).trans rfl
 have c_1_K17 : w15.cell? ⟨gn, 1, none⟩ = some (.slice A0_1 l0_1.length c0_1) := (kC K17.out 1).trans rfl
 have l_K17 : gn < w15.heap.size := blk_lt K17.out
 clear B13
 obtain ⟨Am, cm, rfl⟩ := Kd.R_slice ho
 clear hb ho
 go_wp2_with (first | ((with_reducible refine gate_dst (N := 11) rfl ?_); (try (refine gG (by rfl) ?_; dsimp only)); refine bE ?hg (N := 11) ?hd (cs := #[.int .i64 0, .slice none 0 0]) (t := 24) ?hr ?_; (case hd => rfl); (case hg => rfl); (case hr => first | (go_simp; done) | (go_simp; rfl)); intro gm hg w18 hbox hb; have GEgm := Lib.hid (show w.heap.size ≤ gm from by rw [hg]; exact (B16.out).size); have B19 := Lib.hid (B16.out.trans (hb.mono B16.out.size)); clear c_0_K17 c_1_K17 l_K17; have K20 := Lib.hid (show w18.heap[gn]? = some (.cells #[.int .i64 a0_0, .slice A0_1 l0_1.length c0_1] 24 (0, 0)) from kB K17.out hb); clear K17; have c_0_K20 : w18.cell? ⟨gn, 0, none⟩ = some (.int .i64 a0_0) := (kC K20.out 0).trans rfl; have c_1_K20 : w18.cell? ⟨gn, 1, none⟩ = some (.slice A0_1 l0_1.length c0_1) := (kC K20.out 1).trans rfl; have l_K20 : gn < w18.heap.size := blk_lt K20.out; clear B16; have K21 := Lib.hid (show w18.heap[gm]? = some (.cells #[.int .i64 0, .slice none 0 0] 24 (0, 0)) from hbox); have c_0_K21 : w18.cell? ⟨gm, 0, none⟩ = some (.int .i64 0) := (kC K21.out 0).trans rfl; have c_1_K21 : w18.cell? ⟨gm, 1, none⟩ = some (.slice none 0 0) := (kC K21.out 1).trans rfl; have l_K21 : gm < w18.heap.size := blk_lt K21.out; have f_0_K21 := kF K21.out 0; have f_1_K21 := kF K21.out 1; clear hb hbox hg))
 go_ret
 exact ⟨rfl, bS (bS B19.out GEgm.out) GEgm.out⟩
set_option maxRecDepth 100000 in
set_option maxHeartbeats 4000000 in
theorem pylonlaw15_IslandReverse.unlike (k : Nat) (a0_0 : Int) (A0_1 : Option Addr) (c0_1 : Nat) (l0_1 : List S37) (A1 : Option Addr) (c1 : Nat) (l1 : List Int) (a2 a3 a4 : Int) (w : World) (hr0_1 : Kd.C k37 w A0_1 l0_1.length l0_1) (hc0_1 : l0_1.length ≤ c0_1) (hr1 : Kd.C (Kd.int .i64) w A1 l1.length l1) (hc1 : l1.length ≤ c1) (hlong : ql14Long.f k a0_0 l0_1 [l1] = some false) (bm : Int) (Lm : List S37) (hrev : nReverse.f a0_0 l0_1 a2 = some (bm, Lm, 0)) (hlen : Lm.length = l0_1.length) (ha0 : 0 ≤ a2) (ha1 : a2 < (l0_1.length : Int)) (ck : Int) (hck : nCheck.f bm (Lm.set a2.toNat ⟨(rd_T37 Lm a2).f0, (rd_T37 Lm a2).f1, a3, a4⟩) = some ck) (hk : ck ≠ 0) :
  Calls Try.prog 4 #[.agg #[.int .i64 a0_0, .slice A0_1 l0_1.length c0_1], .slice A1 l1.length c1, .int .i64 a2, .int .i64 a3, .int .i64 a4] w fun e w' => e = .returned (.bool true) ∧ Below w.heap.size w w' := by
 have hu24 := Try.underlying24
 have hu37 := Try.underlying37
 have hk0 : (ck != 0) = true := bne_iff_ne.2 hk
 clear hk
 have XN := Lib.hid hr0_1
 have XO := Lib.hid hr1
 clear hr0_1 hr1
 have HREV := Lib.hid hrev
 clear hrev
 have hb1 : a2 < (Lm.length : Int) := by omega
 have hlen1 : ((Lm.length : Int) != (l0_1.length : Int)) = false := bne_eq_false_iff_eq.2 (by omega)
 clear hlen
 have HCK := Lib.hid hck
 clear hck
 have HLONG := Lib.hid hlong
 clear hlong
 go_enter Try.func4, Try.ntmps4
 go_wp2_with (first | ((with_reducible refine gate_dst (N := 5) rfl ?_); (try (refine gG (by rfl) ?_; dsimp only)); refine bE ?hg (N := 5) ?hd (cs := #[.int .i64 a0_0, .slice A0_1 l0_1.length c0_1]) (t := 24) ?hr ?_; (case hd => rfl); (case hg => rfl); (case hr => first | (go_simp; done) | (go_simp; rfl)); intro gn hg w1 hbox hb; have B2 := Lib.hid (hb); have K3 := Lib.hid (show w1.heap[gn]? = some (.cells #[.int .i64 a0_0, .slice A0_1 l0_1.length c0_1] 24 (0, 0)) from hbox); have c_0_K3 : w1.cell? ⟨gn, 0, none⟩ = some (.int .i64 a0_0) := (kC K3.out 0).trans rfl; have c_1_K3 : w1.cell? ⟨gn, 1, none⟩ = some (.slice A0_1 l0_1.length c0_1) := (kC K3.out 1).trans rfl; have l_K3 : gn < w1.heap.size := blk_lt K3.out; clear hb hbox hg) | ((with_reducible refine gate_dst (N := 19) rfl ?_); (try (refine gG (by rfl) ?_; dsimp only)); refine rows_event ?hg (N := 19) ?hd (n := 1) (inner := [.slice A1 l1.length c1]) (e := 25) ?hr ?_; (case hd => rfl); (case hg => rfl); (case hr => first | (go_simp; done) | (go_simp; rfl)); intro gl hg w4 hrow hb; have B5 := Lib.hid (B2.out.trans (hb.mono B2.out.size)); clear c_0_K3 c_1_K3 l_K3; have K6 := Lib.hid (show w4.heap[gn]? = some (.cells #[.int .i64 a0_0, .slice A0_1 l0_1.length c0_1] 24 (0, 0)) from kB K3.out hb); clear K3; have c_0_K6 : w4.cell? ⟨gn, 0, none⟩ = some (.int .i64 a0_0) := (kC K6.out 0).trans rfl; have c_1_K6 : w4.cell? ⟨gn, 1, none⟩ = some (.slice A0_1 l0_1.length c0_1) := (kC K6.out 1).trans rfl; have l_K6 : gn < w4.heap.size := blk_lt K6.out; clear B2; have X7 := Lib.hid (show Kd.C (Kd.slice 3 (Kd.int .i64)) w4 (some ⟨gl, 0, none⟩) 1 [l1] from C_rows1 hrow (Kd.C_below XO.out B5.out) hc1); clear hb hrow hg))
 go_at_call 28
 refine (ql14Long.calls k a0_0 _ _ l0_1 (some ⟨gl, 0, none⟩) 1 [l1] false _ (Kd.C_below XN.out B5.out) hc0_1 X7.out (Nat.le_refl _) HLONG.out).mono ?_
 rintro e_ w8 ⟨rfl, hb⟩
 have B9 := Lib.hid (B5.out.trans (hb.mono B5.out.size))
 clear c_0_K6 c_1_K6 l_K6
 have K10 := Lib.hid (show w8.heap[gn]? = some (.cells #[.int .i64 a0_0, .slice A0_1 l0_1.length c0_1] 24 (0, 0)) from kB K6.out hb)
 clear K6
 have c_0_K10 : w8.cell? ⟨gn, 0, none⟩ = some (.int .i64 a0_0) := (kC K10.out 0).trans rfl
 have c_1_K10 : w8.cell? ⟨gn, 1, none⟩ = some (.slice A0_1 l0_1.length c0_1) := (kC K10.out 1).trans rfl
 have l_K10 : gn < w8.heap.size := blk_lt K10.out
 have X11 := Lib.hid (Kd.C_below X7.out hb)
 clear X7; clear B5; clear hb
 go_wp2_with fail
 go_at_call 29
 refine (ql15awake.calls true _ rfl).mono ?_
 rintro e_ w12 ⟨rfl, hb⟩
 have B13 := Lib.hid (B9.out.trans (hb.mono B9.out.size))
 clear c_0_K10 c_1_K10 l_K10
 have K14 := Lib.hid (show w12.heap[gn]? = some (.cells #[.int .i64 a0_0, .slice A0_1 l0_1.length c0_1] 24 (0, 0)) from kB K10.out hb)
 clear K10
 have c_0_K14 : w12.cell? ⟨gn, 0, none⟩ = some (.int .i64 a0_0) := (kC K14.out 0).trans rfl
 have c_1_K14 : w12.cell? ⟨gn, 1, none⟩ = some (.slice A0_1 l0_1.length c0_1) := (kC K14.out 1).trans rfl
 have l_K14 : gn < w12.heap.size := blk_lt K14.out
 clear B9; clear hb
 go_wp2_with fail
 go_at_call 34
 refine (nReverse.calls a0_0 _ _ l0_1 a2 bm Lm 0 _ (Kd.C_below XN.out B13.out) hc0_1 HREV.out).mono ?_
 rintro e_ w15 ⟨vm, rfl, ho, hb⟩
 have HO := Lib.hid (Kd.R_lower ho B13.out.size)
 have B16 := Lib.hid (B13.out.trans (hb.mono B13.out.size))
 clear c_0_K14 c_1_K14 l_K14
 have K17 := Lib.hid (show w15.heap[gn]? = some (.cells #[.int .i64 a0_0, .slice A0_1 l0_1.length c0_1] 24 (0, 0)) from kB K14.out hb)
 clear K14
 have c_0_K17 : w15.cell? ⟨gn, 0, none⟩ = some (.int .i64 a0_0) := (kC K17.out 0).trans rfl
 have c_1_K17 : w15.cell? ⟨gn, 1, none⟩ = some (.slice A0_1 l0_1.length c0_1) := (kC K17.out 1).trans rfl
 have l_K17 : gn < w15.heap.size := blk_lt K17.out
 clear B13
 obtain ⟨Am, cm, rfl⟩ := Kd.R_slice ho
 clear hb ho
 go_wp2_with (first | ((with_reducible refine gate_dst (N := 11) rfl ?_); (try (refine gG (by rfl) ?_; dsimp only)); refine bE ?hg (N := 11) ?hd (cs := #[.int .i64 0, .slice none 0 0]) (t := 24) ?hr ?_; (case hd => rfl); (case hg => rfl); (case hr => first | (go_simp; done) | (go_simp; rfl)); intro gm hg w18 hbox hb; have NEgn_gm := Lib.hid (show gn ≠ gm from fun h_ => by have q_ := l_K17; rw [h_, hg] at q_; exact Nat.lt_irrefl _ q_); have GEgm := Lib.hid (show w.heap.size ≤ gm from by rw [hg]; exact (B16.out).size); have B19 := Lib.hid (B16.out.trans (hb.mono B16.out.size)); clear c_0_K17 c_1_K17 l_K17; have K20 := Lib.hid (show w18.heap[gn]? = some (.cells #[.int .i64 a0_0, .slice A0_1 l0_1.length c0_1] 24 (0, 0)) from kB K17.out hb); clear K17; have c_0_K20 : w18.cell? ⟨gn, 0, none⟩ = some (.int .i64 a0_0) := (kC K20.out 0).trans rfl; have c_1_K20 : w18.cell? ⟨gn, 1, none⟩ = some (.slice A0_1 l0_1.length c0_1) := (kC K20.out 1).trans rfl; have l_K20 : gn < w18.heap.size := blk_lt K20.out; have O21 := Lib.hid (Kd.R_below HO.out hb); clear HO; clear B16; have K22 := Lib.hid (show w18.heap[gm]? = some (.cells #[.int .i64 0, .slice none 0 0] 24 (0, 0)) from hbox); have c_0_K22 : w18.cell? ⟨gm, 0, none⟩ = some (.int .i64 0) := (kC K22.out 0).trans rfl; have c_1_K22 : w18.cell? ⟨gm, 1, none⟩ = some (.slice none 0 0) := (kC K22.out 1).trans rfl; have l_K22 : gm < w18.heap.size := blk_lt K22.out; have f_0_K22 := kF K22.out 0; have f_1_K22 := kF K22.out 1; clear hb hbox hg; have hne1_ := NEgn_gm.out; have hne2_ := Ne.symm NEgn_gm.out))
 have nB_ : Below w.heap.size w ((w18.setCell ⟨gm, 0, none⟩ (.int .i64 bm)).setCell ⟨gm, 1, none⟩ (.slice Am Lm.length cm)) := (bS (bS B19.out GEgm.out) GEgm.out)
 have nK_ : ((w18.setCell ⟨gm, 0, none⟩ (.int .i64 bm)).setCell ⟨gm, 1, none⟩ (.slice Am Lm.length cm)).heap[gm]? = some (.cells #[.int .i64 bm, .slice Am Lm.length cm] 24 (0, 0)) := (kP (cs := #[.int .i64 bm, .slice none 0 0]) (kP (cs := #[.int .i64 0, .slice none 0 0]) K22.out 0 (.int .i64 bm) rfl) 1 (.slice Am Lm.length cm) rfl)
 have nb0_ : ((w18.setCell ⟨gm, 0, none⟩ (.int .i64 bm)).setCell ⟨gm, 1, none⟩ (.slice Am Lm.length cm)).heap[gn]? = some (.cells #[.int .i64 a0_0, .slice A0_1 l0_1.length c0_1] 24 (0, 0)) := (kR (kR K20.out (NEgn_gm.out) _) (NEgn_gm.out) _)
 have no0_ := (Kd.R_set (Kd.R_set O21.out K22.out (by decide) 0 (.int .i64 bm)) (kP (cs := #[.int .i64 0, .slice none 0 0]) K22.out 0 (.int .i64 bm) rfl) (by decide) 1 (.slice Am Lm.length cm))
 clear c_0_K20 c_1_K20 l_K20; clear c_0_K22 c_1_K22 l_K22 f_0_K22 f_1_K22
 generalize (w18.setCell ⟨gm, 0, none⟩ (.int .i64 bm)).setCell ⟨gm, 1, none⟩ (.slice Am Lm.length cm) = w23 at nB_ nK_ nb0_ no0_ ⊢
 clear K20; clear K22
 have B24 := Lib.hid nB_
 clear nB_ B19
 have K25 := Lib.hid nb0_
 clear nb0_
 have c_0_K25 : w23.cell? ⟨gn, 0, none⟩ = some (.int .i64 a0_0) := (kC K25.out 0).trans rfl
 have c_1_K25 : w23.cell? ⟨gn, 1, none⟩ = some (.slice A0_1 l0_1.length c0_1) := (kC K25.out 1).trans rfl
 have l_K25 : gn < w23.heap.size := blk_lt K25.out
 have K26 := Lib.hid nK_
 clear nK_
 have c_0_K26 : w23.cell? ⟨gm, 0, none⟩ = some (.int .i64 bm) := (kC K26.out 0).trans rfl
 have c_1_K26 : w23.cell? ⟨gm, 1, none⟩ = some (.slice Am Lm.length cm) := (kC K26.out 1).trans rfl
 have l_K26 : gm < w23.heap.size := blk_lt K26.out
 have f_0_K26 := kF K26.out 0
 have f_1_K26 := kF K26.out 1
 have O27 := Lib.hid no0_
 clear no0_ O21
 obtain ⟨gA, cA, eA, gb_, _, cellsA, hcA⟩ := Kd.R_form O27.out (by omega)
 injection eA with e1 e2 e3
 subst e1; subst e3
 have GA := Lib.hid gb_
 clear gb_ hcA
 obtain ⟨cs_, hcl_, hM_, hcc_, hfr_⟩ := Kd.R_elem O27.out z37 a2 (by omega) (by omega)
 have hcs_ := k37_openM hM_
 subst hcs_
 have z2_ : w23.cell? ⟨gA, a2.toNat * 4 + 2, none⟩ = some (.int .i64 (Lm.getD a2.toNat z37).f2) := hcc_ 2 _ rfl
 have z3_ : w23.cell? ⟨gA, a2.toNat * 4 + 3, none⟩ = some (.int .i64 (Lm.getD a2.toNat z37).f3) := hcc_ 3 _ rfl
 have fz2_ : w23.frozen? ⟨gA, a2.toNat * 4 + 2, none⟩ = false := hfr_ 2
 have fz3_ : w23.frozen? ⟨gA, a2.toNat * 4 + 3, none⟩ = false := hfr_ 3
 clear hcc_ hfr_ hM_ hcl_
 have i0_ : (0 ≤ a2) = True := eq_true ha0
 have i1_ : (a2 < (Lm.length : Int)) = True := eq_true (by omega)
 have j0_ : decide (0 ≤ a2) = true := decide_eq_true ha0
 have j1_ : decide (a2 < (Lm.length : Int)) = true := decide_eq_true (by omega)
 have NA1 := Lib.hid (show gn ≠ gA from fun e_ => Kd.R_ne O27.out K25.out (by decide) (by rw [e_]; rfl))
 have NA2 := Lib.hid (show gm ≠ gA from fun e_ => Kd.R_ne O27.out K26.out (by decide) (by rw [e_]; rfl))
 have hna1_ := NA1.out
 have hna2_ := NA2.out
 have hnb1_ := Ne.symm NA1.out
 have hnb2_ := Ne.symm NA2.out
 go_region
 go_wp2_with fail
 have nB_ : Below w.heap.size w ((w23.setCell ⟨gA, a2.toNat * 4 + 2, none⟩ (.int .i64 a3)).setCell ⟨gA, a2.toNat * 4 + 3, none⟩ (.int .i64 a4)).drew := bD (bS (bS B24.out GA.out) GA.out)
 have nb0_ : (((w23.setCell ⟨gA, a2.toNat * 4 + 2, none⟩ (.int .i64 a3)).setCell ⟨gA, a2.toNat * 4 + 3, none⟩ (.int .i64 a4)).drew).heap[gn]? = some (.cells #[.int .i64 a0_0, .slice A0_1 l0_1.length c0_1] 24 (0, 0)) := kD (kR (kR K25.out NA1.out _) NA1.out _)
 have nb1_ : (((w23.setCell ⟨gA, a2.toNat * 4 + 2, none⟩ (.int .i64 a3)).setCell ⟨gA, a2.toNat * 4 + 3, none⟩ (.int .i64 a4)).drew).heap[gm]? = some (.cells #[.int .i64 bm, .slice (some ⟨gA, 0, none⟩) Lm.length cm] 24 (0, 0)) := kD (kR (kR K26.out NA2.out _) NA2.out _)
 have no_ := Kd.R_drew (k37_two23 O27.out a2 ha0 hb1 a3 a4)
 clear c_0_K25 c_1_K25 l_K25; clear c_0_K26 c_1_K26 l_K26 f_0_K26 f_1_K26; clear z2_ z3_ fz2_ fz3_
 generalize ((w23.setCell ⟨gA, a2.toNat * 4 + 2, none⟩ (.int .i64 a3)).setCell ⟨gA, a2.toNat * 4 + 3, none⟩ (.int .i64 a4)).drew = w28 at nB_ nb0_ nb1_ no_ ⊢
 clear K25 K26 B24 O27
 have B29 := Lib.hid nB_
 have K30 := Lib.hid nb0_
 clear nb0_
 have c_0_K30 : w28.cell? ⟨gn, 0, none⟩ = some (.int .i64 a0_0) := (kC K30.out 0).trans rfl
 have c_1_K30 : w28.cell? ⟨gn, 1, none⟩ = some (.slice A0_1 l0_1.length c0_1) := (kC K30.out 1).trans rfl
 have l_K30 : gn < w28.heap.size := blk_lt K30.out
 have K31 := Lib.hid nb1_
 clear nb1_
 have c_0_K31 : w28.cell? ⟨gm, 0, none⟩ = some (.int .i64 bm) := (kC K31.out 0).trans rfl
 have c_1_K31 : w28.cell? ⟨gm, 1, none⟩ = some (.slice (some ⟨gA, 0, none⟩) Lm.length cm) := (kC K31.out 1).trans rfl
 have l_K31 : gm < w28.heap.size := blk_lt K31.out
 have f_0_K31 := kF K31.out 0
 have f_1_K31 := kF K31.out 1
 have O32 := Lib.hid no_
 clear no_ nB_
 obtain ⟨L2, hL2⟩ : ∃ L2, L2 = Lm.set a2.toNat ⟨(rd_T37 Lm a2).f0, (rd_T37 Lm a2).f1, a3, a4⟩ := ⟨_, rfl⟩
 have hlen2 : L2.length = Lm.length := by rw [hL2, List.length_set]
 rw [← hL2] at O32 HCK
 have HL2 := Lib.hid hlen2
 clear hL2 hlen2
 have hcon := nCheck.calls bm (some ⟨gA, 0, none⟩) cm L2 _ w28 (Kd.R_reads' O32.out).2.2 (by rw [HL2.out]; exact (Kd.R_reads' O32.out).2.1) HCK.out
 rw [HL2.out] at hcon
 go_at_call 35
 refine hcon.mono ?_
 rintro e_ w33 ⟨rfl, hb⟩
 clear hcon
 have B34 := Lib.hid (B29.out.trans (hb.mono B29.out.size))
 clear c_0_K30 c_1_K30 l_K30
 have K35 := Lib.hid (show w33.heap[gn]? = some (.cells #[.int .i64 a0_0, .slice A0_1 l0_1.length c0_1] 24 (0, 0)) from kB K30.out hb)
 clear K30
 have c_0_K35 : w33.cell? ⟨gn, 0, none⟩ = some (.int .i64 a0_0) := (kC K35.out 0).trans rfl
 have c_1_K35 : w33.cell? ⟨gn, 1, none⟩ = some (.slice A0_1 l0_1.length c0_1) := (kC K35.out 1).trans rfl
 have l_K35 : gn < w33.heap.size := blk_lt K35.out
 clear c_0_K31 c_1_K31 l_K31 f_0_K31 f_1_K31
 have K36 := Lib.hid (show w33.heap[gm]? = some (.cells #[.int .i64 bm, .slice (some ⟨gA, 0, none⟩) Lm.length cm] 24 (0, 0)) from kB K31.out hb)
 clear K31
 have c_0_K36 : w33.cell? ⟨gm, 0, none⟩ = some (.int .i64 bm) := (kC K36.out 0).trans rfl
 have c_1_K36 : w33.cell? ⟨gm, 1, none⟩ = some (.slice (some ⟨gA, 0, none⟩) Lm.length cm) := (kC K36.out 1).trans rfl
 have l_K36 : gm < w33.heap.size := blk_lt K36.out
 have f_0_K36 := kF K36.out 0
 have f_1_K36 := kF K36.out 1
 have O37 := Lib.hid (Kd.R_below O32.out hb)
 clear O32; clear B29; clear hb
 go_wp2_with fail
 go_ret
 exact ⟨rfl, B34.out⟩
set_option maxRecDepth 100000 in
set_option maxHeartbeats 4000000 in
theorem pylonlaw15_IslandReverse.like (k : Nat) (a0_0 : Int) (A0_1 : Option Addr) (c0_1 : Nat) (l0_1 : List S37) (A1 : Option Addr) (c1 : Nat) (l1 : List Int) (a2 a3 a4 : Int) (w : World) (hr0_1 : Kd.C k37 w A0_1 l0_1.length l0_1) (hc0_1 : l0_1.length ≤ c0_1) (hr1 : Kd.C (Kd.int .i64) w A1 l1.length l1) (hc1 : l1.length ≤ c1) (hlong : ql14Long.f k a0_0 l0_1 [l1] = some false) (bm : Int) (Lm : List S37) (hrev : nReverse.f a0_0 l0_1 a2 = some (bm, Lm, 0)) (hlen : Lm.length = l0_1.length) (ha0 : 0 ≤ a2) (ha1 : a2 < (l0_1.length : Int)) (hck : nCheck.f bm (Lm.set a2.toNat ⟨(rd_T37 Lm a2).f0, (rd_T37 Lm a2).f1, a3, a4⟩) = some 0) (x : List Int) (e : Int) (hof : iOf.f k a0_0 l0_1 l1 = some (x, e)) (hof2 : iOf.f k bm (Lm.set a2.toNat ⟨(rd_T37 Lm a2).f0, (rd_T37 Lm a2).f1, a3, a4⟩) l1 = some (x, e)) (hi : qr14Ints.f k x x = some true) :
  Calls Try.prog 4 #[.agg #[.int .i64 a0_0, .slice A0_1 l0_1.length c0_1], .slice A1 l1.length c1, .int .i64 a2, .int .i64 a3, .int .i64 a4] w fun e w' => e = .returned (.bool true) ∧ Below w.heap.size w w' := by
 have hu24 := Try.underlying24
 have hu37 := Try.underlying37
 have HOF := Lib.hid hof
 have HOF2 := Lib.hid hof2
 have HI := Lib.hid hi
 clear hof hof2 hi
 have XN := Lib.hid hr0_1
 have XO := Lib.hid hr1
 clear hr0_1 hr1
 have HREV := Lib.hid hrev
 clear hrev
 have hb1 : a2 < (Lm.length : Int) := by omega
 have hlen1 : ((Lm.length : Int) != (l0_1.length : Int)) = false := bne_eq_false_iff_eq.2 (by omega)
 clear hlen
 have HCK := Lib.hid hck
 clear hck
 have HLONG := Lib.hid hlong
 clear hlong
 go_enter Try.func4, Try.ntmps4
 go_wp2_with (first | ((with_reducible refine gate_dst (N := 5) rfl ?_); (try (refine gG (by rfl) ?_; dsimp only)); refine bE ?hg (N := 5) ?hd (cs := #[.int .i64 a0_0, .slice A0_1 l0_1.length c0_1]) (t := 24) ?hr ?_; (case hd => rfl); (case hg => rfl); (case hr => first | (go_simp; done) | (go_simp; rfl)); intro gn hg w1 hbox hb; have B2 := Lib.hid (hb); have K3 := Lib.hid (show w1.heap[gn]? = some (.cells #[.int .i64 a0_0, .slice A0_1 l0_1.length c0_1] 24 (0, 0)) from hbox); have c_0_K3 : w1.cell? ⟨gn, 0, none⟩ = some (.int .i64 a0_0) := (kC K3.out 0).trans rfl; have c_1_K3 : w1.cell? ⟨gn, 1, none⟩ = some (.slice A0_1 l0_1.length c0_1) := (kC K3.out 1).trans rfl; have l_K3 : gn < w1.heap.size := blk_lt K3.out; clear hb hbox hg) | ((with_reducible refine gate_dst (N := 19) rfl ?_); (try (refine gG (by rfl) ?_; dsimp only)); refine rows_event ?hg (N := 19) ?hd (n := 1) (inner := [.slice A1 l1.length c1]) (e := 25) ?hr ?_; (case hd => rfl); (case hg => rfl); (case hr => first | (go_simp; done) | (go_simp; rfl)); intro gl hg w4 hrow hb; have B5 := Lib.hid (B2.out.trans (hb.mono B2.out.size)); clear c_0_K3 c_1_K3 l_K3; have K6 := Lib.hid (show w4.heap[gn]? = some (.cells #[.int .i64 a0_0, .slice A0_1 l0_1.length c0_1] 24 (0, 0)) from kB K3.out hb); clear K3; have c_0_K6 : w4.cell? ⟨gn, 0, none⟩ = some (.int .i64 a0_0) := (kC K6.out 0).trans rfl; have c_1_K6 : w4.cell? ⟨gn, 1, none⟩ = some (.slice A0_1 l0_1.length c0_1) := (kC K6.out 1).trans rfl; have l_K6 : gn < w4.heap.size := blk_lt K6.out; clear B2; have X7 := Lib.hid (show Kd.C (Kd.slice 3 (Kd.int .i64)) w4 (some ⟨gl, 0, none⟩) 1 [l1] from C_rows1 hrow (Kd.C_below XO.out B5.out) hc1); clear hb hrow hg))
 go_at_call 28
 refine (ql14Long.calls k a0_0 _ _ l0_1 (some ⟨gl, 0, none⟩) 1 [l1] false _ (Kd.C_below XN.out B5.out) hc0_1 X7.out (Nat.le_refl _) HLONG.out).mono ?_
 rintro e_ w8 ⟨rfl, hb⟩
 have B9 := Lib.hid (B5.out.trans (hb.mono B5.out.size))
 clear c_0_K6 c_1_K6 l_K6
 have K10 := Lib.hid (show w8.heap[gn]? = some (.cells #[.int .i64 a0_0, .slice A0_1 l0_1.length c0_1] 24 (0, 0)) from kB K6.out hb)
 clear K6
 have c_0_K10 : w8.cell? ⟨gn, 0, none⟩ = some (.int .i64 a0_0) := (kC K10.out 0).trans rfl
 have c_1_K10 : w8.cell? ⟨gn, 1, none⟩ = some (.slice A0_1 l0_1.length c0_1) := (kC K10.out 1).trans rfl
 have l_K10 : gn < w8.heap.size := blk_lt K10.out
 have X11 := Lib.hid (Kd.C_below X7.out hb)
 clear X7; clear B5; clear hb
 go_wp2_with fail
 go_at_call 29
 refine (ql15awake.calls true _ rfl).mono ?_
 rintro e_ w12 ⟨rfl, hb⟩
 have B13 := Lib.hid (B9.out.trans (hb.mono B9.out.size))
 clear c_0_K10 c_1_K10 l_K10
 have K14 := Lib.hid (show w12.heap[gn]? = some (.cells #[.int .i64 a0_0, .slice A0_1 l0_1.length c0_1] 24 (0, 0)) from kB K10.out hb)
 clear K10
 have c_0_K14 : w12.cell? ⟨gn, 0, none⟩ = some (.int .i64 a0_0) := (kC K14.out 0).trans rfl
 have c_1_K14 : w12.cell? ⟨gn, 1, none⟩ = some (.slice A0_1 l0_1.length c0_1) := (kC K14.out 1).trans rfl
 have l_K14 : gn < w12.heap.size := blk_lt K14.out
 clear B9; clear hb
 go_wp2_with fail
 go_at_call 34
 refine (nReverse.calls a0_0 _ _ l0_1 a2 bm Lm 0 _ (Kd.C_below XN.out B13.out) hc0_1 HREV.out).mono ?_
 rintro e_ w15 ⟨vm, rfl, ho, hb⟩
 have HO := Lib.hid (Kd.R_lower ho B13.out.size)
 have B16 := Lib.hid (B13.out.trans (hb.mono B13.out.size))
 clear c_0_K14 c_1_K14 l_K14
 have K17 := Lib.hid (show w15.heap[gn]? = some (.cells #[.int .i64 a0_0, .slice A0_1 l0_1.length c0_1] 24 (0, 0)) from kB K14.out hb)
 clear K14
 have c_0_K17 : w15.cell? ⟨gn, 0, none⟩ = some (.int .i64 a0_0) := (kC K17.out 0).trans rfl
 have c_1_K17 : w15.cell? ⟨gn, 1, none⟩ = some (.slice A0_1 l0_1.length c0_1) := (kC K17.out 1).trans rfl
 have l_K17 : gn < w15.heap.size := blk_lt K17.out
 clear B13
 obtain ⟨Am, cm, rfl⟩ := Kd.R_slice ho
 clear hb ho
 go_wp2_with (first | ((with_reducible refine gate_dst (N := 11) rfl ?_); (try (refine gG (by rfl) ?_; dsimp only)); refine bE ?hg (N := 11) ?hd (cs := #[.int .i64 0, .slice none 0 0]) (t := 24) ?hr ?_; (case hd => rfl); (case hg => rfl); (case hr => first | (go_simp; done) | (go_simp; rfl)); intro gm hg w18 hbox hb; have NEgn_gm := Lib.hid (show gn ≠ gm from fun h_ => by have q_ := l_K17; rw [h_, hg] at q_; exact Nat.lt_irrefl _ q_); have GEgm := Lib.hid (show w.heap.size ≤ gm from by rw [hg]; exact (B16.out).size); have B19 := Lib.hid (B16.out.trans (hb.mono B16.out.size)); clear c_0_K17 c_1_K17 l_K17; have K20 := Lib.hid (show w18.heap[gn]? = some (.cells #[.int .i64 a0_0, .slice A0_1 l0_1.length c0_1] 24 (0, 0)) from kB K17.out hb); clear K17; have c_0_K20 : w18.cell? ⟨gn, 0, none⟩ = some (.int .i64 a0_0) := (kC K20.out 0).trans rfl; have c_1_K20 : w18.cell? ⟨gn, 1, none⟩ = some (.slice A0_1 l0_1.length c0_1) := (kC K20.out 1).trans rfl; have l_K20 : gn < w18.heap.size := blk_lt K20.out; have O21 := Lib.hid (Kd.R_below HO.out hb); clear HO; clear B16; have K22 := Lib.hid (show w18.heap[gm]? = some (.cells #[.int .i64 0, .slice none 0 0] 24 (0, 0)) from hbox); have c_0_K22 : w18.cell? ⟨gm, 0, none⟩ = some (.int .i64 0) := (kC K22.out 0).trans rfl; have c_1_K22 : w18.cell? ⟨gm, 1, none⟩ = some (.slice none 0 0) := (kC K22.out 1).trans rfl; have l_K22 : gm < w18.heap.size := blk_lt K22.out; have f_0_K22 := kF K22.out 0; have f_1_K22 := kF K22.out 1; clear hb hbox hg; have hne1_ := NEgn_gm.out; have hne2_ := Ne.symm NEgn_gm.out))
 have nB_ : Below w.heap.size w ((w18.setCell ⟨gm, 0, none⟩ (.int .i64 bm)).setCell ⟨gm, 1, none⟩ (.slice Am Lm.length cm)) := (bS (bS B19.out GEgm.out) GEgm.out)
 have nK_ : ((w18.setCell ⟨gm, 0, none⟩ (.int .i64 bm)).setCell ⟨gm, 1, none⟩ (.slice Am Lm.length cm)).heap[gm]? = some (.cells #[.int .i64 bm, .slice Am Lm.length cm] 24 (0, 0)) := (kP (cs := #[.int .i64 bm, .slice none 0 0]) (kP (cs := #[.int .i64 0, .slice none 0 0]) K22.out 0 (.int .i64 bm) rfl) 1 (.slice Am Lm.length cm) rfl)
 have nb0_ : ((w18.setCell ⟨gm, 0, none⟩ (.int .i64 bm)).setCell ⟨gm, 1, none⟩ (.slice Am Lm.length cm)).heap[gn]? = some (.cells #[.int .i64 a0_0, .slice A0_1 l0_1.length c0_1] 24 (0, 0)) := (kR (kR K20.out (NEgn_gm.out) _) (NEgn_gm.out) _)
 have no0_ := (Kd.R_set (Kd.R_set O21.out K22.out (by decide) 0 (.int .i64 bm)) (kP (cs := #[.int .i64 0, .slice none 0 0]) K22.out 0 (.int .i64 bm) rfl) (by decide) 1 (.slice Am Lm.length cm))
 clear c_0_K20 c_1_K20 l_K20; clear c_0_K22 c_1_K22 l_K22 f_0_K22 f_1_K22
 generalize (w18.setCell ⟨gm, 0, none⟩ (.int .i64 bm)).setCell ⟨gm, 1, none⟩ (.slice Am Lm.length cm) = w23 at nB_ nK_ nb0_ no0_ ⊢
 clear K20; clear K22
 have B24 := Lib.hid nB_
 clear nB_ B19
 have K25 := Lib.hid nb0_
 clear nb0_
 have c_0_K25 : w23.cell? ⟨gn, 0, none⟩ = some (.int .i64 a0_0) := (kC K25.out 0).trans rfl
 have c_1_K25 : w23.cell? ⟨gn, 1, none⟩ = some (.slice A0_1 l0_1.length c0_1) := (kC K25.out 1).trans rfl
 have l_K25 : gn < w23.heap.size := blk_lt K25.out
 have K26 := Lib.hid nK_
 clear nK_
 have c_0_K26 : w23.cell? ⟨gm, 0, none⟩ = some (.int .i64 bm) := (kC K26.out 0).trans rfl
 have c_1_K26 : w23.cell? ⟨gm, 1, none⟩ = some (.slice Am Lm.length cm) := (kC K26.out 1).trans rfl
 have l_K26 : gm < w23.heap.size := blk_lt K26.out
 have f_0_K26 := kF K26.out 0
 have f_1_K26 := kF K26.out 1
 have O27 := Lib.hid no0_
 clear no0_ O21
 obtain ⟨gA, cA, eA, gb_, _, cellsA, hcA⟩ := Kd.R_form O27.out (by omega)
 injection eA with e1 e2 e3
 subst e1; subst e3
 have GA := Lib.hid gb_
 clear gb_ hcA
 obtain ⟨cs_, hcl_, hM_, hcc_, hfr_⟩ := Kd.R_elem O27.out z37 a2 (by omega) (by omega)
 have hcs_ := k37_openM hM_
 subst hcs_
 have z2_ : w23.cell? ⟨gA, a2.toNat * 4 + 2, none⟩ = some (.int .i64 (Lm.getD a2.toNat z37).f2) := hcc_ 2 _ rfl
 have z3_ : w23.cell? ⟨gA, a2.toNat * 4 + 3, none⟩ = some (.int .i64 (Lm.getD a2.toNat z37).f3) := hcc_ 3 _ rfl
 have fz2_ : w23.frozen? ⟨gA, a2.toNat * 4 + 2, none⟩ = false := hfr_ 2
 have fz3_ : w23.frozen? ⟨gA, a2.toNat * 4 + 3, none⟩ = false := hfr_ 3
 clear hcc_ hfr_ hM_ hcl_
 have i0_ : (0 ≤ a2) = True := eq_true ha0
 have i1_ : (a2 < (Lm.length : Int)) = True := eq_true (by omega)
 have j0_ : decide (0 ≤ a2) = true := decide_eq_true ha0
 have j1_ : decide (a2 < (Lm.length : Int)) = true := decide_eq_true (by omega)
 have NA1 := Lib.hid (show gn ≠ gA from fun e_ => Kd.R_ne O27.out K25.out (by decide) (by rw [e_]; rfl))
 have NA2 := Lib.hid (show gm ≠ gA from fun e_ => Kd.R_ne O27.out K26.out (by decide) (by rw [e_]; rfl))
 have hna1_ := NA1.out
 have hna2_ := NA2.out
 have hnb1_ := Ne.symm NA1.out
 have hnb2_ := Ne.symm NA2.out
 go_region
 go_wp2_with fail
 have nB_ : Below w.heap.size w ((w23.setCell ⟨gA, a2.toNat * 4 + 2, none⟩ (.int .i64 a3)).setCell ⟨gA, a2.toNat * 4 + 3, none⟩ (.int .i64 a4)).drew := bD (bS (bS B24.out GA.out) GA.out)
 have nb0_ : (((w23.setCell ⟨gA, a2.toNat * 4 + 2, none⟩ (.int .i64 a3)).setCell ⟨gA, a2.toNat * 4 + 3, none⟩ (.int .i64 a4)).drew).heap[gn]? = some (.cells #[.int .i64 a0_0, .slice A0_1 l0_1.length c0_1] 24 (0, 0)) := kD (kR (kR K25.out NA1.out _) NA1.out _)
 have nb1_ : (((w23.setCell ⟨gA, a2.toNat * 4 + 2, none⟩ (.int .i64 a3)).setCell ⟨gA, a2.toNat * 4 + 3, none⟩ (.int .i64 a4)).drew).heap[gm]? = some (.cells #[.int .i64 bm, .slice (some ⟨gA, 0, none⟩) Lm.length cm] 24 (0, 0)) := kD (kR (kR K26.out NA2.out _) NA2.out _)
 have no_ := Kd.R_drew (k37_two23 O27.out a2 ha0 hb1 a3 a4)
 clear c_0_K25 c_1_K25 l_K25; clear c_0_K26 c_1_K26 l_K26 f_0_K26 f_1_K26; clear z2_ z3_ fz2_ fz3_
 generalize ((w23.setCell ⟨gA, a2.toNat * 4 + 2, none⟩ (.int .i64 a3)).setCell ⟨gA, a2.toNat * 4 + 3, none⟩ (.int .i64 a4)).drew = w28 at nB_ nb0_ nb1_ no_ ⊢
 clear K25 K26 B24 O27
 have B29 := Lib.hid nB_
 have K30 := Lib.hid nb0_
 clear nb0_
 have c_0_K30 : w28.cell? ⟨gn, 0, none⟩ = some (.int .i64 a0_0) := (kC K30.out 0).trans rfl
 have c_1_K30 : w28.cell? ⟨gn, 1, none⟩ = some (.slice A0_1 l0_1.length c0_1) := (kC K30.out 1).trans rfl
 have l_K30 : gn < w28.heap.size := blk_lt K30.out
 have K31 := Lib.hid nb1_
 clear nb1_
 have c_0_K31 : w28.cell? ⟨gm, 0, none⟩ = some (.int .i64 bm) := (kC K31.out 0).trans rfl
 have c_1_K31 : w28.cell? ⟨gm, 1, none⟩ = some (.slice (some ⟨gA, 0, none⟩) Lm.length cm) := (kC K31.out 1).trans rfl
 have l_K31 : gm < w28.heap.size := blk_lt K31.out
 have f_0_K31 := kF K31.out 0
 have f_1_K31 := kF K31.out 1
 have O32 := Lib.hid no_
 clear no_ nB_
 obtain ⟨L2, hL2⟩ : ∃ L2, L2 = Lm.set a2.toNat ⟨(rd_T37 Lm a2).f0, (rd_T37 Lm a2).f1, a3, a4⟩ := ⟨_, rfl⟩
 have hlen2 : L2.length = Lm.length := by rw [hL2, List.length_set]
 rw [← hL2] at O32 HCK HOF2
 have HL2 := Lib.hid hlen2
 clear hL2 hlen2
 have hcon := nCheck.calls bm (some ⟨gA, 0, none⟩) cm L2 _ w28 (Kd.R_reads' O32.out).2.2 (by rw [HL2.out]; exact (Kd.R_reads' O32.out).2.1) HCK.out
 rw [HL2.out] at hcon
 go_at_call 35
 refine hcon.mono ?_
 rintro e_ w33 ⟨rfl, hb⟩
 clear hcon
 have B34 := Lib.hid (B29.out.trans (hb.mono B29.out.size))
 clear c_0_K30 c_1_K30 l_K30
 have K35 := Lib.hid (show w33.heap[gn]? = some (.cells #[.int .i64 a0_0, .slice A0_1 l0_1.length c0_1] 24 (0, 0)) from kB K30.out hb)
 clear K30
 have c_0_K35 : w33.cell? ⟨gn, 0, none⟩ = some (.int .i64 a0_0) := (kC K35.out 0).trans rfl
 have c_1_K35 : w33.cell? ⟨gn, 1, none⟩ = some (.slice A0_1 l0_1.length c0_1) := (kC K35.out 1).trans rfl
 have l_K35 : gn < w33.heap.size := blk_lt K35.out
 clear c_0_K31 c_1_K31 l_K31 f_0_K31 f_1_K31
 have K36 := Lib.hid (show w33.heap[gm]? = some (.cells #[.int .i64 bm, .slice (some ⟨gA, 0, none⟩) Lm.length cm] 24 (0, 0)) from kB K31.out hb)
 clear K31
 have c_0_K36 : w33.cell? ⟨gm, 0, none⟩ = some (.int .i64 bm) := (kC K36.out 0).trans rfl
 have c_1_K36 : w33.cell? ⟨gm, 1, none⟩ = some (.slice (some ⟨gA, 0, none⟩) Lm.length cm) := (kC K36.out 1).trans rfl
 have l_K36 : gm < w33.heap.size := blk_lt K36.out
 have f_0_K36 := kF K36.out 0
 have f_1_K36 := kF K36.out 1
 have O37 := Lib.hid (Kd.R_below O32.out hb)
 clear O32; clear B29; clear hb
 go_wp2_with fail
 go_at_call 30
 refine (iOf.calls k a0_0 _ _ l0_1 _ _ l1 x e _ (Kd.C_below XN.out B34.out) hc0_1 (Kd.C_below XO.out B34.out) hc1 HOF.out).mono ?_
 rintro e_ w38 ⟨va, rfl, ho, hb⟩
 have B39 := Lib.hid (B34.out.trans (hb.mono B34.out.size))
 clear c_0_K35 c_1_K35 l_K35
 have K40 := Lib.hid (show w38.heap[gn]? = some (.cells #[.int .i64 a0_0, .slice A0_1 l0_1.length c0_1] 24 (0, 0)) from kB K35.out hb)
 clear K35
 have c_0_K40 : w38.cell? ⟨gn, 0, none⟩ = some (.int .i64 a0_0) := (kC K40.out 0).trans rfl
 have c_1_K40 : w38.cell? ⟨gn, 1, none⟩ = some (.slice A0_1 l0_1.length c0_1) := (kC K40.out 1).trans rfl
 have l_K40 : gn < w38.heap.size := blk_lt K40.out
 clear c_0_K36 c_1_K36 l_K36 f_0_K36 f_1_K36
 have K41 := Lib.hid (show w38.heap[gm]? = some (.cells #[.int .i64 bm, .slice (some ⟨gA, 0, none⟩) Lm.length cm] 24 (0, 0)) from kB K36.out hb)
 clear K36
 have c_0_K41 : w38.cell? ⟨gm, 0, none⟩ = some (.int .i64 bm) := (kC K41.out 0).trans rfl
 have c_1_K41 : w38.cell? ⟨gm, 1, none⟩ = some (.slice (some ⟨gA, 0, none⟩) Lm.length cm) := (kC K41.out 1).trans rfl
 have l_K41 : gm < w38.heap.size := blk_lt K41.out
 have f_0_K41 := kF K41.out 0
 have f_1_K41 := kF K41.out 1
 have O42 := Lib.hid (Kd.R_below O37.out hb)
 clear O37; clear B34
 obtain ⟨Aa, ca, rfl⟩ := Kd.R_slice ho
 have HX := Lib.hid ho
 clear hb ho
 go_wp2_with fail
 have hcon := iOf.calls k bm (some ⟨gA, 0, none⟩) cm L2 _ _ l1 x e w38 (Kd.R_reads' O42.out).2.2 (by rw [HL2.out]; exact (Kd.R_reads' O42.out).2.1) (Kd.C_below XO.out B39.out) hc1 HOF2.out
 rw [HL2.out] at hcon
 go_at_call 30
 refine hcon.mono ?_
 rintro e_ w43 ⟨vb, rfl, ho, hb⟩
 clear hcon
 have B44 := Lib.hid (B39.out.trans (hb.mono B39.out.size))
 clear c_0_K40 c_1_K40 l_K40
 have K45 := Lib.hid (show w43.heap[gn]? = some (.cells #[.int .i64 a0_0, .slice A0_1 l0_1.length c0_1] 24 (0, 0)) from kB K40.out hb)
 clear K40
 have c_0_K45 : w43.cell? ⟨gn, 0, none⟩ = some (.int .i64 a0_0) := (kC K45.out 0).trans rfl
 have c_1_K45 : w43.cell? ⟨gn, 1, none⟩ = some (.slice A0_1 l0_1.length c0_1) := (kC K45.out 1).trans rfl
 have l_K45 : gn < w43.heap.size := blk_lt K45.out
 clear c_0_K41 c_1_K41 l_K41 f_0_K41 f_1_K41
 have K46 := Lib.hid (show w43.heap[gm]? = some (.cells #[.int .i64 bm, .slice (some ⟨gA, 0, none⟩) Lm.length cm] 24 (0, 0)) from kB K41.out hb)
 clear K41
 have c_0_K46 : w43.cell? ⟨gm, 0, none⟩ = some (.int .i64 bm) := (kC K46.out 0).trans rfl
 have c_1_K46 : w43.cell? ⟨gm, 1, none⟩ = some (.slice (some ⟨gA, 0, none⟩) Lm.length cm) := (kC K46.out 1).trans rfl
 have l_K46 : gm < w43.heap.size := blk_lt K46.out
 have f_0_K46 := kF K46.out 0
 have f_1_K46 := kF K46.out 1
 have O47 := Lib.hid (Kd.R_below O42.out hb)
 clear O42
 have O48 := Lib.hid (Kd.R_below HX.out hb)
 clear HX; clear B39
 obtain ⟨Ab, cb, rfl⟩ := Kd.R_slice ho
 have HY := Lib.hid ho
 clear hb ho
 go_wp2_with fail
 go_at_call 36
 refine (qr14Ints.calls k _ _ x _ _ x true _ (Kd.R_reads' O48.out).2.2 (Kd.R_reads' O48.out).2.1 (Kd.R_reads' HY.out).2.2 (Kd.R_reads' HY.out).2.1 HI.out).mono ?_
 rintro e_ w' ⟨rfl, ⟨m_, rfl⟩⟩
 go_wp2_with fail
 go_ret
 exact ⟨rfl, bN B44.out m_⟩
section
open Go.Joins Go.ChangeShapes Go.WideShapes Go.Deep
section
variable {H : Type} {enc : TypeId × Value → H} {W : World} {base : Nat} {spare : Nat → Bool} {held : Bool}
theorem list4 {α : Type} : ∀ xs : List α, xs.length = 4 → ∃ a b c d, xs = [a, b, c, d]
  | [a, b, c, d], _ => ⟨a, b, c, d, rfl⟩
theorem open_line {fuel : Nat} {cs : List Value} {x : DataW H × List MemPlace} (h : DataW.trod enc Try.prog W base spare held fuel 37 cs = some x) : ∃ l : S37, cs = [.int .i64 l.f0, .int .i64 l.f1, .int .i64 l.f2, .int .i64 l.f3] := by
  obtain ⟨xs, n, _, _, hlen, hxl, hf⟩ := DataW.trod_struct Try.underlying37 h
  have hc37 : Try.prog.cellsOf 37 = 4 := by kernel_rfl
  have hc3 : Try.prog.cellsOf 3 = 1 := by kernel_rfl
  have hc2 : Try.prog.cellsOf 2 = 1 := by kernel_rfl
  rw [hc37] at hlen
  have h0 : DataW.trod enc Try.prog W base spare held n 3 ((cs.drop 0).take (Try.prog.cellsOf 3)) = xs[0]? := hf 0 _ rfl
  have h1 : DataW.trod enc Try.prog W base spare held n 3 ((cs.drop 1).take (Try.prog.cellsOf 3)) = xs[1]? := hf 1 _ rfl
  have h2 : DataW.trod enc Try.prog W base spare held n 2 ((cs.drop 2).take (Try.prog.cellsOf 2)) = xs[2]? := hf 2 _ rfl
  have h3 : DataW.trod enc Try.prog W base spare held n 2 ((cs.drop 3).take (Try.prog.cellsOf 2)) = xs[3]? := hf 3 _ rfl
  rw [hc3] at h0 h1
  rw [hc2] at h2 h3
  have hx4 : xs.length = 4 := hxl
  obtain ⟨x0, x1, x2, x3, rfl⟩ := list4 xs hx4
  obtain ⟨a, b, c, d, rfl⟩ := list4 cs hlen
  obtain ⟨n0, e0, _, _⟩ := DataW.trod_int Try.underlying3 h0
  obtain ⟨n1, e1, _, _⟩ := DataW.trod_int Try.underlying3 h1
  obtain ⟨n2, e2, _, _⟩ := DataW.trod_int Try.underlying2 h2
  obtain ⟨n3, e3, _, _⟩ := DataW.trod_int Try.underlying2 h3
  cases e0; cases e1; cases e2; cases e3
  exact ⟨⟨n0, n1, n2, n3⟩, rfl⟩
theorem open_lines {fuel : Nat} {v : Value} {x : DataW H × List MemPlace} (h : DataW.trod enc Try.prog W base spare held fuel 22 [v] = some x) : ∃ (A : Option Addr) (c : Nat) (L : List S37), v = .slice A L.length c ∧ L.length ≤ c ∧ Kd.C k37 W A L.length L := by
  have hc37 : Try.prog.cellsOf 37 = 4 := by kernel_rfl
  rcases open_slice Try.underlying22 h with ⟨hcs, _⟩ | ⟨a, len, cap, m, n, D, Pl, hcs, _, hl, hm, hmm, _, hi⟩
  · cases hcs
    exact ⟨none, 0, [], rfl, Nat.le_refl _, Kd.C_nil _ _⟩
  · cases hcs
    have hlm : len ≤ m := by rw [hmm]; split <;> omega
    have hline : ∀ i, i < len → ∃ l : S37, ∀ j u, ([.int .i64 l.f0, .int .i64 l.f1, .int .i64 l.f2, .int .i64 l.f3] : List Value)[j]? = some u → W.cell? (a.add (i * 4 + j)) = some u := by
      intro i hil
      obtain ⟨cs', hc, ht⟩ := hi i (by omega)
      rw [hc37] at hc
      obtain ⟨l, hl4⟩ := open_line ht
      obtain ⟨_, hcl, hat⟩ := World.cells?_some hc
      refine ⟨l, fun j u hj => ?_⟩
      rw [hl4] at hcl hat
      have hj4 : j < 4 := by
        rcases Nat.lt_or_ge j 4 with h | h
        · exact h
        · rw [List.getElem?_eq_none (by simpa using h)] at hj; cases hj
      have e := hat j hj4
      rw [← Go.Deep.add_add, e, ← hj]
    have hinh : Inhabited S37 := ⟨z37⟩
    obtain ⟨f, hf⟩ := choose_lt hline
    have hll : ((List.range len).map f).length = len := by simp
    refine ⟨some a, cap, (List.range len).map f, by rw [hll], by rw [hll]; exact hl, ?_⟩
    refine ⟨rfl, by rw [hll]; have : maxLen ≤ 9223372036854775807 := by decide
                    omega, fun _ => ⟨a, rfl, fun j p hj => ?_⟩⟩
    have hjl : j < len := by
      rcases Nat.lt_or_ge j len with h | h
      · exact h
      · rw [List.getElem?_eq_none (by simpa using h)] at hj; cases hj
    rw [List.getElem?_map, List.getElem?_range hjl] at hj
    cases hj
    exact ⟨_, rfl, k37_mk _ _, hf j hjl⟩
set_option maxRecDepth 100000 in
theorem open_net {r : Reach} {b0 : Nat} {v : Value} {d : DataW H} {p : List MemPlace} (hv : Value.okWide Try.prog W r b0 24 v) (h : DataW.Trod enc Try.prog W base spare held 24 v d p) : ∃ (b : Int) (A : Option Addr) (c : Nat) (L : List S37), v = .agg #[.int .i64 b, .slice A L.length c] ∧ L.length ≤ c ∧ Kd.C k37 W A L.length L ∧ (Lit.int .i64 b).wf = true := by
  obtain ⟨v0, v1, y0, y1, n, rfl, _, _, h0, h1⟩ := open_agg2 Try.underlying24 (by kernel_rfl) (by kernel_rfl) hv h
  obtain ⟨b, e0, _, hw⟩ := DataW.trod_int Try.underlying3 h0
  cases e0
  obtain ⟨A, c, L, rfl, hc, hC⟩ := open_lines h1
  exact ⟨b, A, c, L, rfl, hc, hC, hw⟩
end
section
variable {H : Type} {enc : TypeId × Value → H} {W : World} {base : Nat} {spare : Nat → Bool} {held : Bool}
set_option maxRecDepth 100000 in
theorem open_intl {r : Reach} {b0 : Nat} {v : Value} {d : DataW H} {p : List MemPlace} (hv : Value.okWide Try.prog W r b0 25 v) (h : DataW.Trod enc Try.prog W base spare held 25 v d p) : ∃ (A : Option Addr) (c : Nat) (l : List Int), v = .slice A l.length c ∧ l.length ≤ c ∧ Kd.C (Kd.int .i64) W A l.length l := by
  have hc3 : Try.prog.cellsOf 3 = 1 := by kernel_rfl
  obtain ⟨A0, n0, c0, rfl⟩ := okWide_slice Try.underlying25 hv
  obtain ⟨fuel, hf⟩ := h
  have hf' : DataW.trod enc Try.prog W base spare held fuel 25 [.slice A0 n0 c0] = some (d, p) := hf
  rcases open_slice Try.underlying25 hf' with ⟨hcs, _⟩ | ⟨a, len, cap, m, n, D, Pl, hcs, _, hl, hm, hmm, _, hi⟩
  · cases hcs
    exact ⟨none, 0, [], rfl, Nat.le_refl _, Kd.C_nil _ _⟩
  · cases hcs
    have hlm : n0 ≤ m := by rw [hmm]; split <;> omega
    have hint : ∀ i, i < n0 → ∃ x : Int, W.cell? (a.add i) = some (.int .i64 x) := by
      intro i hil
      obtain ⟨cs', hc, ht⟩ := hi i (by omega)
      rw [hc3] at hc
      obtain ⟨x, hx, _, _⟩ := DataW.trod_int Try.underlying3 ht
      obtain ⟨_, hcl, hat⟩ := World.cells?_some hc
      refine ⟨x, ?_⟩
      have e := hat 0 (by omega)
      rw [hx, Go.Deep.add_add, Nat.mul_one, Nat.add_zero] at e
      exact e
    have hinh : Inhabited Int := ⟨0⟩
    obtain ⟨f, hf2⟩ := choose_lt hint
    have hll : ((List.range n0).map f).length = n0 := by simp
    refine ⟨some a, c0, (List.range n0).map f, by rw [hll], by rw [hll]; exact hl, ?_⟩
    refine Kd.C_of_reads (d := (0 : Int)) ⟨rfl, by rw [hll]; have : maxLen ≤ 9223372036854775807 := by decide
                                                   omega, fun _ => ⟨a, rfl, fun j hj => ?_⟩⟩
    rw [hll] at hj
    rw [hf2 j hj, List.getD_eq_getElem?_getD, List.getElem?_map, List.getElem?_range hj]
    rfl
end
end
section
set_option maxRecDepth 100000
set_option linter.unusedSimpArgs false
def headNums : List Nat := [104, 97, 114, 110, 101, 115, 115, 32, 48, 97, 48, 51, 98, 100, 102, 102, 48, 48, 50, 49, 101, 101, 102, 100, 56, 56, 55, 53, 98, 57, 51, 50, 53, 53, 99, 99, 57, 52, 54, 102, 98, 55, 48, 51, 52, 97, 52, 55, 55, 98, 54, 50, 97, 57, 101, 56, 52, 54, 98, 98, 100, 51, 53, 48, 57, 102, 98, 56, 53, 101, 98, 101, 32, 99, 117, 116, 32, 97, 116, 32, 112, 121, 108, 111, 110, 47, 112, 121, 108, 111, 110, 108, 97, 119, 49, 53, 46, 73, 115, 108, 97, 110, 100, 67, 111, 110, 110, 101, 99, 116, 101, 100, 32, 112, 121, 108, 111, 110, 47, 112, 121, 108, 111, 110, 108, 97, 119, 49, 53, 46, 73, 115, 108, 97, 110, 100, 82, 101, 118, 101, 114, 115, 101, 32, 112, 121, 108, 111, 110, 47, 112, 121, 108, 111, 110, 108, 97, 119, 49, 53, 46, 73, 115, 108, 97, 110, 100, 76, 97, 98, 101, 108, 108, 105, 110, 103, 32, 112, 121, 108, 111, 110, 47, 112, 121, 108, 111, 110, 108, 97, 119, 49, 53, 46, 73, 115, 108, 97, 110, 100, 77, 97, 116, 99, 104, 101, 115, 32, 112, 121, 108, 111, 110, 47, 112, 121, 108, 111, 110, 108, 97, 119, 49, 53, 46, 73, 115, 108, 97, 110, 100, 78, 117, 109, 98, 101, 114, 105, 110, 103, 32, 112, 121, 108, 111, 110, 47, 112, 121, 108, 111, 110, 108, 97, 119, 49, 53, 46, 73, 115, 108, 97, 110, 100, 80, 114, 101, 100, 105, 99, 97, 116, 101, 115, 77, 97, 116, 99, 104, 32, 112, 121, 108, 111, 110, 47, 112, 121, 108, 111, 110, 108, 97, 119, 49, 53, 46, 73, 115, 108, 97, 110, 100, 79, 117, 116, 97, 103, 101, 32, 112, 121, 108, 111, 110, 47, 112, 121, 108, 111, 110, 108, 97, 119, 49, 53, 46, 73, 115, 108, 97, 110, 100, 69, 120, 97, 109, 112, 108, 101, 115, 32, 112, 121, 108, 111, 110, 47, 112, 121, 108, 111, 110, 108, 97, 119, 49, 54, 46, 84, 114, 101, 101, 77, 97, 116, 99, 104, 101, 115, 32, 112, 121, 108, 111, 110, 47, 112, 121, 108, 111, 110, 108, 97, 119, 49, 54, 46, 84, 114, 101, 101, 66, 114, 105, 100, 103, 101, 115, 32, 112, 121, 108, 111, 110, 47, 112, 121, 108, 111, 110, 108, 97, 119, 49, 54, 46, 84, 114, 101, 101, 80, 97, 116, 104, 77, 97, 116, 99, 104, 101, 115, 32, 112, 121, 108, 111, 110, 47, 112, 121, 108, 111, 110, 108, 97, 119, 49, 54, 46, 84, 114, 101, 101, 69, 120, 97, 109, 112, 108, 101, 115, 32, 112, 121, 108, 111, 110, 47, 112, 121, 108, 111, 110, 108, 97, 119, 49, 54, 46, 84, 114, 101, 101, 71, 114, 101, 101, 100, 121, 32, 112, 121, 108, 111, 110, 47, 112, 121, 108, 111, 110, 108, 97, 119, 49, 54, 46, 84, 114, 101, 101, 66, 97, 108, 97, 110, 99, 101, 32, 112, 121, 108, 111, 110, 47, 112, 121, 108, 111, 110, 108, 97, 119, 49, 54, 46, 84, 114, 101, 101, 67, 121, 99, 108, 101, 115, 32, 112, 121, 108, 111, 110, 47, 112, 121, 108, 111, 110, 108, 97, 119, 49, 54, 46, 84, 114, 101, 101, 83, 112, 97, 110, 110, 105, 110, 103, 32, 112, 121, 108, 111, 110, 47, 112, 121, 108, 111, 110, 108, 97, 119, 49, 52, 46, 78, 101, 116, 77, 97, 116, 99, 104, 101, 115, 32, 112, 121, 108, 111, 110, 47, 112, 121, 108, 111, 110, 108, 97, 119, 49, 52, 46, 78, 101, 116, 85, 110, 105, 111, 110, 77, 97, 116, 99, 104, 101, 115, 32, 112, 121, 108, 111, 110, 47, 112, 121, 108, 111, 110, 108, 97, 119, 49, 52, 46, 78, 101, 116, 80, 97, 114, 116, 105, 116, 105, 111, 110, 32, 112, 121, 108, 111, 110, 47, 112, 121, 108, 111, 110, 108, 97, 119, 49, 52, 46, 78, 101, 116, 69, 110, 100, 112, 111, 105, 110, 116, 115, 32, 112, 121, 108, 111, 110, 47, 112, 121, 108, 111, 110, 108, 97, 119, 49, 52, 46, 78, 101, 116, 85, 110, 105, 111, 110, 32, 112, 121, 108, 111, 110, 47, 112, 121, 108, 111, 110, 108, 97, 119, 49, 52, 46, 78, 101, 116, 69, 120, 97, 109, 112, 108, 101, 115, 32, 112, 121, 108, 111, 110, 47, 112, 121, 108, 111, 110, 108, 97, 119, 49, 52, 46, 78, 101, 116, 83, 116, 114, 105, 112, 32, 112, 121, 108, 111, 110, 47, 112, 121, 108, 111, 110, 108, 97, 119, 49, 52, 46, 78, 101, 116, 66, 117, 105, 108, 100, 77, 97, 116, 99, 104, 101, 115, 32, 112, 121, 108, 111, 110, 47, 112, 121, 108, 111, 110, 108, 97, 119, 49, 52, 46, 78, 101, 116, 82, 101, 118, 101, 114, 115, 101]
theorem headOf : Try.prog.initOrder = String.ofList (headNums.map Char.ofNat) := by kernel_rfl
theorem headList : Try.prog.initOrder.toList = headNums.map Char.ofNat := by rw [headOf, String.toList_ofList]
def headTail : List (List Nat) := [[97, 116], [112, 121, 108, 111, 110, 47, 112, 121, 108, 111, 110, 108, 97, 119, 49, 53, 46, 73, 115, 108, 97, 110, 100, 67, 111, 110, 110, 101, 99, 116, 101, 100], [112, 121, 108, 111, 110, 47, 112, 121, 108, 111, 110, 108, 97, 119, 49, 53, 46, 73, 115, 108, 97, 110, 100, 82, 101, 118, 101, 114, 115, 101], [112, 121, 108, 111, 110, 47, 112, 121, 108, 111, 110, 108, 97, 119, 49, 53, 46, 73, 115, 108, 97, 110, 100, 76, 97, 98, 101, 108, 108, 105, 110, 103], [112, 121, 108, 111, 110, 47, 112, 121, 108, 111, 110, 108, 97, 119, 49, 53, 46, 73, 115, 108, 97, 110, 100, 77, 97, 116, 99, 104, 101, 115], [112, 121, 108, 111, 110, 47, 112, 121, 108, 111, 110, 108, 97, 119, 49, 53, 46, 73, 115, 108, 97, 110, 100, 78, 117, 109, 98, 101, 114, 105, 110, 103], [112, 121, 108, 111, 110, 47, 112, 121, 108, 111, 110, 108, 97, 119, 49, 53, 46, 73, 115, 108, 97, 110, 100, 80, 114, 101, 100, 105, 99, 97, 116, 101, 115, 77, 97, 116, 99, 104], [112, 121, 108, 111, 110, 47, 112, 121, 108, 111, 110, 108, 97, 119, 49, 53, 46, 73, 115, 108, 97, 110, 100, 79, 117, 116, 97, 103, 101], [112, 121, 108, 111, 110, 47, 112, 121, 108, 111, 110, 108, 97, 119, 49, 53, 46, 73, 115, 108, 97, 110, 100, 69, 120, 97, 109, 112, 108, 101, 115], [112, 121, 108, 111, 110, 47, 112, 121, 108, 111, 110, 108, 97, 119, 49, 54, 46, 84, 114, 101, 101, 77, 97, 116, 99, 104, 101, 115], [112, 121, 108, 111, 110, 47, 112, 121, 108, 111, 110, 108, 97, 119, 49, 54, 46, 84, 114, 101, 101, 66, 114, 105, 100, 103, 101, 115], [112, 121, 108, 111, 110, 47, 112, 121, 108, 111, 110, 108, 97, 119, 49, 54, 46, 84, 114, 101, 101, 80, 97, 116, 104, 77, 97, 116, 99, 104, 101, 115], [112, 121, 108, 111, 110, 47, 112, 121, 108, 111, 110, 108, 97, 119, 49, 54, 46, 84, 114, 101, 101, 69, 120, 97, 109, 112, 108, 101, 115], [112, 121, 108, 111, 110, 47, 112, 121, 108, 111, 110, 108, 97, 119, 49, 54, 46, 84, 114, 101, 101, 71, 114, 101, 101, 100, 121], [112, 121, 108, 111, 110, 47, 112, 121, 108, 111, 110, 108, 97, 119, 49, 54, 46, 84, 114, 101, 101, 66, 97, 108, 97, 110, 99, 101], [112, 121, 108, 111, 110, 47, 112, 121, 108, 111, 110, 108, 97, 119, 49, 54, 46, 84, 114, 101, 101, 67, 121, 99, 108, 101, 115], [112, 121, 108, 111, 110, 47, 112, 121, 108, 111, 110, 108, 97, 119, 49, 54, 46, 84, 114, 101, 101, 83, 112, 97, 110, 110, 105, 110, 103], [112, 121, 108, 111, 110, 47, 112, 121, 108, 111, 110, 108, 97, 119, 49, 52, 46, 78, 101, 116, 77, 97, 116, 99, 104, 101, 115], [112, 121, 108, 111, 110, 47, 112, 121, 108, 111, 110, 108, 97, 119, 49, 52, 46, 78, 101, 116, 85, 110, 105, 111, 110, 77, 97, 116, 99, 104, 101, 115], [112, 121, 108, 111, 110, 47, 112, 121, 108, 111, 110, 108, 97, 119, 49, 52, 46, 78, 101, 116, 80, 97, 114, 116, 105, 116, 105, 111, 110], [112, 121, 108, 111, 110, 47, 112, 121, 108, 111, 110, 108, 97, 119, 49, 52, 46, 78, 101, 116, 69, 110, 100, 112, 111, 105, 110, 116, 115], [112, 121, 108, 111, 110, 47, 112, 121, 108, 111, 110, 108, 97, 119, 49, 52, 46, 78, 101, 116, 85, 110, 105, 111, 110], [112, 121, 108, 111, 110, 47, 112, 121, 108, 111, 110, 108, 97, 119, 49, 52, 46, 78, 101, 116, 69, 120, 97, 109, 112, 108, 101, 115], [112, 121, 108, 111, 110, 47, 112, 121, 108, 111, 110, 108, 97, 119, 49, 52, 46, 78, 101, 116, 83, 116, 114, 105, 112], [112, 121, 108, 111, 110, 47, 112, 121, 108, 111, 110, 108, 97, 119, 49, 52, 46, 78, 101, 116, 66, 117, 105, 108, 100, 77, 97, 116, 99, 104, 101, 115], [112, 121, 108, 111, 110, 47, 112, 121, 108, 111, 110, 108, 97, 119, 49, 52, 46, 78, 101, 116, 82, 101, 118, 101, 114, 115, 101]]
def headRest : List (List Char) := headTail.map (fun l => l.map Char.ofNat)
theorem headBehind : behindMainWord (wordsSigns Try.prog.initOrder.toList) = "cut".toList :: headRest := by rw [headList]; kernel_rfl
theorem eCutGc : ("cut".toList == "gc".toList) = false := by kernel_rfl
theorem eCutSpec : ("cut".toList == "spec".toList) = false := by kernel_rfl
theorem eCutCarried : ("cut".toList == "carried".toList) = false := by kernel_rfl
theorem eCutCut : ("cut".toList == "cut".toList) = true := by kernel_rfl
theorem headStrip : stripLifts liftWords ("cut".toList :: headRest) = ([], "cut".toList :: headRest) := by kernel_rfl
theorem headLiftsNil : Try.prog.headLifts = [] := by unfold Program.headLifts; rw [headBehind, headStrip]; kernel_rfl
theorem headFinal : Try.prog.liftsFinal = false := by unfold Program.liftsFinal; rw [headLiftsNil, headBehind]; kernel_rfl
theorem headMake0 (P : Program) (c : List Char) (r : List (List Char)) (h : behindMainWord (wordsSigns P.initOrder.toList) = c :: r) (h1 : (c == "gc".toList) = false) (h2 : (c == "spec".toList) = false) (h3 : (c == "cut".toList) = true) : P.make = some .cut := by
  unfold Program.make
  rw [h]
  simp only [h1, h2, h3, Bool.or_self, Bool.true_or, if_true, Bool.false_eq_true, if_false]
theorem headMake : Try.prog.make = some .cut := headMake0 _ _ _ headBehind eCutGc eCutSpec eCutCut
theorem headEnter0 (P : Program) (c : List Char) (r : List (List Char)) (h : behindMainWord (wordsSigns P.initOrder.toList) = c :: r) (h1 : (c == "gc".toList) = false) (h2 : (c == "spec".toList) = false) (h3 : (c == "carried".toList) = false) (h4 : stripLifts liftWords (c :: r) = ([], c :: r)) (h5 : (some c == some "cut".toList) = true) (h6 : P.laysLater = false) (h7 : P.bearsReflect = false) (h8 : P.doorFits [] = true) : P.mayEnter = true := by
  unfold Program.mayEnter
  rw [h]
  simp only [h1, h2, h3, h4, h6, h7, h8, h5, Bool.or_self, Bool.true_or, Bool.false_and, Bool.and_true, List.head?_cons, Bool.not_false, Bool.or_true, List.contains_nil, beq_self_eq_true, Bool.false_or, Bool.not_true, Bool.and_self]
theorem headEnter : Try.prog.mayEnter = true := headEnter0 _ _ _ headBehind eCutGc eCutSpec eCutCarried headStrip (by kernel_rfl) (by kernel_rfl) (by kernel_rfl) (by kernel_rfl)
end
end Go.Proofs.Ytdpgdelimffjpaa.P
namespace Go.Proofs
open Go.Shelf
def Try.laysSort_ren : Go.Shelf.Ren := ⟨fun | 189 => 93 | 125 => 115 | 257 => 114 | 128 => 131 | 129 => 132 | 294 => 123 | 295 => 124 | 296 => 125 | 297 => 126 | 298 => 127 | 299 => 128 | 216 => 121 | 300 => 129 | 301 => 130 | 328 => 134 | 329 => 135 | 330 => 136 | 331 => 137 | 332 => 138 | 215 => 133 | 343 => 139 | n => n, fun | 28 => 25 | 3 => 3 | 46 => 113 | 0 => 0 | 51 => 125 | 53 => 127 | 4 => 4 | 183 => 119 | 182 => 118 | 131 => 107 | 5 => 5 | 9 => 9 | 218 => 128 | 222 => 132 | 228 => 134 | 229 => 135 | n => n, fun | n => n⟩
def Try.laysCompact_ren : Go.Shelf.Ren := ⟨fun | 20 => 94 | n => n, fun | 22 => 25 | 3 => 3 | 4 => 4 | 0 => 0 | n => n, fun | n => n⟩
end Go.Proofs
namespace Go.Proofs.Ytdpgdelimffjpaa.P
open Go.RowKit Go.Proofs.YtdpgdelimffjpaaW.PrintWords Go.Proofs.YtdpgdelimffjpaaW.PrintLast Go.Proofs.YtdpgdelimffjpaaW.PrintMore
attribute [local go_sem] max2_int min2_int max_two min_two max_three min_three max_four min_four
set_option linter.unusedVariables false
set_option linter.unusedSimpArgs false
section
def uni (a b : List Int) : List Int := Lib.compact ((a ++ b).mergeSort fun x y => decide (x ≤ y))
end
section
open Go.Sort Go.Shelf
end
end Go.Proofs.Ytdpgdelimffjpaa.P
namespace Go.Proofs.Ytdpgdelimffjpaa.P
open Go.RowKit Go.Proofs.YtdpgdelimffjpaaW.PrintWords Go.Proofs.YtdpgdelimffjpaaW.PrintLast Go.Proofs.YtdpgdelimffjpaaW.PrintMore
attribute [local go_sem] max2_int min2_int max_two min_two max_three min_three max_four min_four
set_option linter.unusedVariables false
set_option linter.unusedSimpArgs false
def nUnion.f (l0 : List Int) (l1 : List Int) : Option (List Int × Int) :=
 if l0.length ≤ 1000000 ∧ l1.length ≤ 1000000 then (if risesFrom (-1) l0 = true then (if risesFrom (-1) l1 = true then some (uni l0 l1, 0) else some ([], 1)) else some ([], 1)) else none
def nIn.f (a0_0 : Int) (l0_1 : List (S37)) (l1 : List Int) : Option (List Int × Int) := (nStrip.f a0_0 l0_1 l1).bind fun bt569 => (some (bt569.2.2.1, bt569.2.2.2))
def Ev {α : Type} (F : Nat → Option α) (v : α) : Prop := ∃ K, ∀ k, K ≤ k → F k = some v
theorem Ev.some_ {α : Type} (v : α) : Ev (fun _ => some v) v := ⟨0, fun _ _ => rfl⟩
theorem Ev.bind {α β : Type} {F : Nat → Option α} {G : Nat → α → Option β} {a : α} {b : β} (h : Ev F a) (h2 : Ev (fun k => G k a) b) : Ev (fun k => (F k).bind (G k)) b := by
  obtain ⟨K, hK⟩ := h
  obtain ⟨L, hL⟩ := h2
  exact ⟨max K L, fun k hk => by show (F k).bind (G k) = some b; rw [hK k (by omega), Option.bind_some]; exact hL k (by omega)⟩
theorem Ev.succ {α : Type} {F G : Nat → Option α} {v : α} (hs : ∀ k, F (k + 1) = G k) (h : Ev G v) : Ev F v := by
  obtain ⟨K, hK⟩ := h
  exact ⟨K + 1, fun k hk => by obtain ⟨j, rfl⟩ : ∃ j, k = j + 1 := ⟨k - 1, by omega⟩
                               rw [hs]; exact hK j (by omega)⟩
theorem Ev.eq {α : Type} {F G : Nat → Option α} {v : α} (hs : ∀ k, F k = G k) (h : Ev G v) : Ev F v := by
  obtain ⟨K, hK⟩ := h
  exact ⟨K, fun k hk => by rw [hs]; exact hK k hk⟩
theorem Ev.tell {α : Type} {F : Nat → Option α} {v : α} (h : Ev F v) : ∃ k, F k = some v := by
  obtain ⟨K, hK⟩ := h
  exact ⟨K, hK K (Nat.le_refl _)⟩
theorem Ev.loop {σ α : Type} {F : Nat → σ → Nat → Option α} {v : α} (N : Nat) (I : Nat → σ → Prop) (hstep : ∀ i s, i < N → I i s → (∃ s', I (i + 1) s' ∧ (Ev (fun k => F k s' (i + 1)) v → Ev (fun k => F k s i) v)) ∨ Ev (fun k => F k s i) v) (hend : ∀ s, I N s → Ev (fun k => F k s N) v) : ∀ i s, i ≤ N → I i s → Ev (fun k => F k s i) v := by
  have key : ∀ m i s, i + m = N → I i s → Ev (fun k => F k s i) v := by
    intro m
    induction m with
    | zero => intro i s hi hI; have : i = N := by omega
              subst this; exact hend s hI
    | succ m ih =>
      intro i s hi hI
      rcases hstep i s (by omega) hI with ⟨s', hI', hgo⟩ | hdone
      · exact hgo (ih (i + 1) s' (by omega) hI')
      · exact hdone
  intro i s hi hI
  exact key (N - i) i s (by omega) hI
theorem long_f (b : Int) (L : List S37) (ls : List (List Int)) (hs : ls.length ≤ 1000) : ∃ r, Ev (fun k => ql14Long.f k b L ls) r ∧ (r = false → L.length ≤ 100 ∧ ∀ l ∈ ls, l.length ≤ 100) := by
  have key : ∀ m i, i + m = ls.length → ∃ r, Ev (fun k => ql14Long.l0 k ls (i : Int) b L) r ∧ (r = false → L.length ≤ 100 ∧ ∀ l ∈ ls.drop i, l.length ≤ 100) := by
    intro m
    induction m with
    | zero =>
      intro i hi
      refine ⟨decide ((L.length : Int) > 100), Ev.succ (G := fun _ => some (decide ((L.length : Int) > 100))) (fun k => ?_) (Ev.some_ _), fun h => ?_⟩
      · rw [ql14Long.l0, if_neg (by omega)]
      · have := of_decide_eq_false h
        refine ⟨by omega, fun l hl => ?_⟩
        rw [List.drop_eq_nil_of_le (by omega)] at hl
        cases hl
    | succ m ih =>
      intro i hi
      obtain ⟨r, hr, hx⟩ := ih (i + 1) (by omega)
      have hil : i < ls.length := by omega
      have hrd : rd_L1 ls (i : Int) = ls[i] := by simp [rd_L1, List.getD_eq_getElem?_getD, hil]
      by_cases hlong : ((ls[i].length : Int) > 100)
      · refine ⟨true, Ev.succ (G := fun _ => some true) (fun k => ?_) (Ev.some_ _), fun h => by cases h⟩
        rw [ql14Long.l0, if_pos (by omega), if_pos (by omega), hrd, if_pos hlong]
      · refine ⟨r, Ev.succ (G := fun k => ql14Long.l0 k ls ((i + 1 : Nat) : Int) b L) (fun k => ?_) hr, fun h => ⟨(hx h).1, fun l hl => ?_⟩⟩
        · rw [ql14Long.l0, if_pos (by omega), if_pos (by omega), hrd, if_neg hlong, wrap_small (by omega) (by omega)]; rfl
        · rw [List.drop_eq_getElem_cons hil] at hl
          rcases List.mem_cons.1 hl with rfl | hl
          · omega
          · exact (hx h).2 l hl
  obtain ⟨r, hr, hx⟩ := key ls.length 0 (by omega)
  exact ⟨r, hr, fun h => by simpa using hx h⟩
def idx (l : List Int) (x : Int) : Int := if x ∈ l then (l.idxOf x : Int) else -1
theorem index_f (l : List Int) (x : Int) (hl : l.length ≤ 1000) : Ev (fun k => sIndex.f k l x) (idx l x) := by
  have key : ∀ m i, i + m = l.length → (∀ j (hj : j < l.length), j < i → l[j] ≠ x) → Ev (fun k => sIndex.l0 k l x (l.length : Int) (i : Int)) (idx l x) := by
    intro m
    induction m with
    | zero =>
      intro i hi hno
      refine Ev.succ (G := fun _ => some (idx l x)) (fun k => ?_) (Ev.some_ _)
      rw [sIndex.l0, if_neg (by omega), idx, if_neg]
      intro hm
      obtain ⟨j, hj, e⟩ := List.getElem_of_mem hm
      exact hno j hj (by omega) e
    | succ m ih =>
      intro i hi hno
      have hil : i < l.length := by omega
      by_cases he : x = l[i]
      · refine Ev.succ (G := fun _ => some (idx l x)) (fun k => ?_) (Ev.some_ _)
        have hm : x ∈ l := by rw [he]; exact List.getElem_mem _
        have hidx : l.idxOf x = i := by
          have h1 : l.idxOf x < l.length := List.idxOf_lt_length_iff.2 hm
          have h2 : l[l.idxOf x] = x := List.getElem_idxOf h1
          have h3 : ¬ l.idxOf x < i := fun h => hno _ h1 h h2
          have h4 : ¬ i < l.idxOf x := fun h => by
            have := List.not_of_lt_findIdx (p := (· == x)) (xs := l) (i := i) h
            simp at this
            exact this he.symm
          omega
        rw [sIndex.l0, if_pos (by omega), if_pos (by omega), if_pos (by omega), rd_nat l i hil, if_pos he, idx, if_pos hm, hidx]
      · refine Ev.succ (G := fun k => sIndex.l0 k l x (l.length : Int) ((i + 1 : Nat) : Int)) (fun k => ?_) (ih (i + 1) (by omega) (fun j hj hji => ?_))
        · rw [sIndex.l0, if_pos (by omega), if_pos (by omega), if_pos (by omega), rd_nat l i hil, if_neg he, wrap_small (by omega) (by omega)]; rfl
        · by_cases h : j = i
          · subst h; exact fun e => he e.symm
          · exact hno j hj (by omega)
  exact key l.length 0 (by omega) (fun j _ h => absurd h (Nat.not_lt_zero _))
def refsOf (f : Nat → Nat) (N : Nat) : List Int := ((List.range N).filter (fun b => f b == b)).map (fun (b : Nat) => (b : Int))
theorem refsOf_len (f : Nat → Nat) (N : Nat) : (refsOf f N).length ≤ N := by
  unfold refsOf
  rw [List.length_map]
  exact Nat.le_trans (List.length_filter_le _ _) (by rw [List.length_range]; exact Nat.le_refl _)
def labsOf (f : Nat → Nat) (N : Nat) : List Int := (List.range N).map (fun (b : Nat) => ((f b : Nat) : Int))
theorem labsOf_len (f : Nat → Nat) (N : Nat) : (labsOf f N).length = N := by simp [labsOf]
theorem rd_labsOf (f : Nat → Nat) (N : Nat) (b : Nat) (hb : b < N) : rd (labsOf f N) (b : Int) = ((f b : Nat) : Int) := by
  rw [rd_nat _ b (by rw [labsOf_len]; exact hb)]; simp [labsOf]
theorem refsOf_succ (f : Nat → Nat) (i : Nat) : refsOf f (i + 1) = if f i = i then refsOf f i ++ [(i : Int)] else refsOf f i := by
  unfold refsOf
  rw [List.range_succ, List.filter_append, List.map_append]
  by_cases h : f i = i
  · rw [if_pos h]; simp [h]
  · rw [if_neg h]; simp [h]
theorem refs_loop (f : Nat → Nat) (N : Nat) (e : Int) (hN : N ≤ 1000) : Ev (fun k => iRefs.l0 k [] e (labsOf f N) (N : Int) 0) (refsOf f N, e) := by
  have key : ∀ m i, i + m = N → Ev (fun k => iRefs.l0 k (refsOf f i) e (labsOf f N) (N : Int) (i : Int)) (refsOf f N, e) := by
    intro m
    induction m with
    | zero =>
      intro i hi
      have hiN : i = N := by omega
      subst hiN
      refine Ev.succ (G := fun _ => some (refsOf f i, e)) (fun k => ?_) (Ev.some_ _)
      rw [iRefs.l0, if_neg (by omega)]
    | succ m ih =>
      intro i hi
      have hl := refsOf_len f i
      refine Ev.succ (G := fun k => iRefs.l0 k (refsOf f (i + 1)) e (labsOf f N) (N : Int) ((i + 1 : Nat) : Int)) (fun k => ?_) (ih (i + 1) (by omega))
      rw [iRefs.l0, if_pos (by omega), if_pos (by omega), if_pos (by rw [labsOf_len]; omega), rd_labsOf f N i (by omega), refsOf_succ]
      by_cases h : f i = i
      · rw [if_pos (by omega), if_pos (by omega), if_pos h, wrap_small (by omega) (by omega)]; rfl
      · rw [if_neg (by omega), if_neg h, wrap_small (by omega) (by omega)]; rfl
  exact key N 0 (by omega)
def isl (f : Nat → Nat) (N : Nat) (i : Nat) : Int := idx (refsOf f N) ((f i : Nat) : Int)
def islOf (f : Nat → Nat) (N n : Nat) : List Int := (List.range n).map (isl f N)
theorem of_loop (f : Nat → Nat) (N : Nat) (e : Int) (hN : N ≤ 1000) : Ev (fun k => iOf.l0 k [] e (refsOf f N) (labsOf f N) (N : Int) 0) (islOf f N N, e) := by
  have key : ∀ m i, i + m = N → Ev (fun k => iOf.l0 k (islOf f N i) e (refsOf f N) (labsOf f N) (N : Int) (i : Int)) (islOf f N N, e) := by
    intro m
    induction m with
    | zero =>
      intro i hi
      have hiN : i = N := by omega
      subst hiN
      refine Ev.succ (G := fun _ => some (islOf f i i, e)) (fun k => ?_) (Ev.some_ _)
      rw [iOf.l0, if_neg (by omega)]
    | succ m ih =>
      intro i hi
      have hl := refsOf_len f N
      have hi2 : (islOf f N i).length = i := by simp [islOf]
      have hs : islOf f N (i + 1) = islOf f N i ++ [isl f N i] := by unfold islOf; rw [List.range_succ, List.map_append]; rfl
      refine Ev.succ (G := fun k => (sIndex.f k (refsOf f N) (rd (labsOf f N) (i : Int))).bind fun t => (if (islOf f N i).length < 17592186044416 then (iOf.l0 k (islOf f N i ++ [t]) e (refsOf f N) (labsOf f N) (N : Int) (wrap64 ((i : Int) + 1))) else (none))) (fun k => ?_) ?_
      · rw [iOf.l0, if_pos (by omega), if_pos (by omega), if_pos (by rw [labsOf_len]; omega)]
      · refine Ev.bind (index_f _ _ (by omega)) ?_
        rw [rd_labsOf f N i (by omega)]
        refine Ev.eq (fun k => ?_) (ih (i + 1) (by omega))
        rw [if_pos (by omega), hs, wrap_small (by omega) (by omega)]; rfl
  exact key N 0 (by omega)
theorem stands_ok {b : Int} {L : List S37} {out : List Int} (h : outsV b L out = 0) : istands.f b L out = some (labsOf (lab (edges L out)) b.toNat, 0) := by
  rw [istands.f, if_pos h]; rfl
theorem stands_bad {b : Int} {L : List S37} {out : List Int} (h : outsV b L out ≠ 0) : istands.f b L out = some ([], outsV b L out) := by
  rw [istands.f, if_neg h]
theorem outs_bus {b : Int} {L : List S37} {out : List Int} (h : outsV b L out = 0) : 1 ≤ b ∧ b ≤ 6 ∧ L.length ≤ 10 := by
  have := chk_ok (outsV_ok h).1
  exact ⟨this.1, this.2.1, this.2.2.1⟩
theorem refs_ok {b : Int} {L : List S37} {out : List Int} (h : outsV b L out = 0) : Ev (fun k => iRefs.f k b L out) (refsOf (lab (edges L out)) b.toNat, 0) := by
  have hb := outs_bus h
  refine Ev.eq (fun k => ?_) (refs_loop (lab (edges L out)) b.toNat 0 (by omega))
  rw [iRefs.f, stands_ok h, Option.bind_some, labsOf_len]
theorem refs_bad {b : Int} {L : List S37} {out : List Int} (h : outsV b L out ≠ 0) : Ev (fun k => iRefs.f k b L out) ([], outsV b L out) := by
  refine Ev.succ (G := fun _ => some ([], outsV b L out)) (fun k => ?_) (Ev.some_ _)
  rw [iRefs.f, stands_bad h, Option.bind_some, iRefs.l0, if_neg (by simp)]
theorem of_ok {b : Int} {L : List S37} {out : List Int} (h : outsV b L out = 0) : Ev (fun k => iOf.f k b L out) (islOf (lab (edges L out)) b.toNat b.toNat, 0) := by
  have hb := outs_bus h
  refine Ev.eq (G := fun k => (iRefs.f k b L out).bind fun bt => iOf.l0 k [] 0 bt.1 (labsOf (lab (edges L out)) b.toNat) ((b.toNat : Nat) : Int) 0) (fun k => ?_) ?_
  · rw [iOf.f, stands_ok h, Option.bind_some, labsOf_len]
  · exact Ev.bind (refs_ok h) (of_loop (lab (edges L out)) b.toNat 0 (by omega))
theorem of_bad {b : Int} {L : List S37} {out : List Int} (h : outsV b L out ≠ 0) : Ev (fun k => iOf.f k b L out) ([], outsV b L out) := by
  refine Ev.eq (G := fun k => (iRefs.f k b L out).bind fun bt => iOf.l0 k [] (outsV b L out) bt.1 [] ((([] : List Int).length : Nat) : Int) 0) (fun k => ?_) ?_
  · rw [iOf.f, stands_bad h, Option.bind_some]
  · refine Ev.bind (refs_bad h) (Ev.succ (G := fun _ => some ([], outsV b L out)) (fun k => ?_) (Ev.some_ _))
    rw [iOf.l0, if_neg (by simp)]
theorem ints_ev (a b : List Int) (ha : a.length ≤ 1000000) : Ev (fun k => qr14Ints.f k a b) (decide (a = b)) := by
  by_cases hl : a.length = b.length
  · have key : ∀ m i, i + m = a.length → (∀ j, j < i → rd a (j : Int) = rd b (j : Int)) → Ev (fun k => qr14Ints.l0 k a b (i : Int)) (decide (a = b)) := by
      intro m
      induction m with
      | zero =>
        intro i hi hh
        have e : a = b := by
          apply List.ext_getElem hl
          intro j h1 h2
          have := hh j (by omega)
          rwa [rd_nat _ j h1, rd_nat _ j h2] at this
        refine Ev.succ (G := fun _ => some (decide (a = b))) (fun k => ?_) (Ev.some_ _)
        rw [qr14Ints.l0, if_neg (by omega), decide_eq_true e]
      | succ m ih =>
        intro i hi hh
        by_cases he : rd a (i : Int) = rd b (i : Int)
        · refine Ev.succ (G := fun k => qr14Ints.l0 k a b ((i + 1 : Nat) : Int)) (fun k => ?_) (ih (i + 1) (by omega) (fun j hj => ?_))
          · rw [qr14Ints.l0, if_pos (by omega), if_pos (by omega), if_pos (by omega), if_pos he, wrap_small (by omega) (by omega)]; rfl
          · by_cases h : j = i
            · subst h; exact he
            · exact hh j (by omega)
        · have hne : ¬ a = b := fun e => he (by rw [e])
          refine Ev.succ (G := fun _ => some (decide (a = b))) (fun k => ?_) (Ev.some_ _)
          rw [qr14Ints.l0, if_pos (by omega), if_pos (by omega), if_pos (by omega), if_neg he, decide_eq_false hne]
    refine Ev.eq (fun k => ?_) (key a.length 0 (by omega) (fun j hj => absurd hj (Nat.not_lt_zero _)))
    rw [qr14Ints.f, if_pos (by omega)]; rfl
  · have hne : ¬ a = b := fun e => hl (by rw [e])
    refine Ev.eq (G := fun _ => some (decide (a = b))) (fun k => ?_) (Ev.some_ _)
    rw [qr14Ints.f, if_neg (by omega), decide_eq_false hne]
def inL (L : List S37) (out : List Int) : List Int := (inn L out).map (fun (k : Nat) => (k : Int))
theorem mem_inn {L : List S37} {out : List Int} {k : Nat} : k ∈ inn L out ↔ k < L.length ∧ (k : Int) ∉ out := by
  unfold inn; rw [List.mem_filter, List.mem_range]; simp
section
def conn (E : List (Nat × Nat)) (x y : Nat) : Prop := lab E x = lab E y
instance (E : List (Nat × Nat)) (x y : Nat) : Decidable (conn E x y) := inferInstanceAs (Decidable (lab E x = lab E y))
theorem conn.symm {E : List (Nat × Nat)} {x y : Nat} (h : conn E x y) : conn E y x := Eq.symm h
theorem conn.trans {E : List (Nat × Nat)} {x y z : Nat} (h : conn E x y) (k : conn E y z) : conn E x z := Eq.trans h k
theorem conn_edge {E : List (Nat × Nat)} {e : Nat × Nat} (h : e ∈ E) : conn E e.1 e.2 := lab_edge h
theorem conn_of {E E' : List (Nat × Nat)} (h : ∀ e ∈ E, conn E' e.1 e.2) {x y : Nat} (k : conn E x y) : conn E' x y := lab_const (lab E') h k
theorem conn_mono {E E' : List (Nat × Nat)} (h : ∀ e ∈ E, e ∈ E') {x y : Nat} (k : conn E x y) : conn E' x y := conn_of (fun e he => conn_edge (h e he)) k
theorem conn_snoc {E : List (Nat × Nat)} {e : Nat × Nat} {x y : Nat} : conn (E ++ [e]) x y ↔ conn E x y ∨ (conn E x e.1 ∧ conn E e.2 y) ∨ (conn E x e.2 ∧ conn E e.1 y) := by
  unfold conn
  rw [lab_snoc]
  unfold merge
  generalize lab E x = fx
  generalize lab E y = fy
  generalize lab E e.1 = f1
  generalize lab E e.2 = f2
  constructor
  · intro h; split at h <;> split at h <;> omega
  · intro h; split <;> split <;> omega
theorem lab_ext {E E' : List (Nat × Nat)} (h : ∀ x y, conn E x y ↔ conn E' x y) : lab E = lab E' := by
  funext x
  have a1 := (lab_lb E x).1
  have b1 := (lab_lb E' x).1
  have h1 : lab E' (lab E x) = lab E' x := (h _ _).1 ((lab_lb E x).2)
  have h2 : lab E (lab E' x) = lab E x := (h _ _).2 ((lab_lb E' x).2)
  have a2 := (lab_lb E (lab E' x)).1
  have b2 := (lab_lb E' (lab E x)).1
  omega
theorem conn_drop {E E' : List (Nat × Nat)} {e : Nat × Nat} (hE : ∀ d, d ∈ E → d = e ∨ d ∈ E') (hs : ∀ d, d ∈ E' → d ∈ E) (he : e ∈ E) {x y : Nat} (hn : ¬ conn E x e.1) (h : conn E x y) : conn E' x y := by
  have h' : conn (E' ++ [e]) x y := conn_mono (fun d hd => by rcases hE d hd with rfl | h <;> simp_all) h
  have hm : ∀ {u v}, conn E' u v → conn E u v := fun k => conn_mono hs k
  rcases conn_snoc.1 h' with h' | ⟨h', _⟩ | ⟨h', _⟩
  · exact h'
  · exact absurd (hm h') hn
  · exact absurd ((hm h').trans (conn_edge he).symm) hn
theorem conn_first {E : List (Nat × Nat)} {x y : Nat} (h : conn E x y) (hne : x ≠ y) : ∃ e ∈ E, ∃ z, ((e.1 = x ∧ e.2 = z) ∨ (e.2 = x ∧ e.1 = z)) ∧ conn (E.filter (fun d => d.1 != x && d.2 != x)) z y := by
  have hg := lab_const (fun v => (v = x ∨ ∃ e ∈ E, ∃ z, ((e.1 = x ∧ e.2 = z) ∨ (e.2 = x ∧ e.1 = z)) ∧ conn (E.filter (fun d => d.1 != x && d.2 != x)) z v)) (E := E) (x := x) (y := y) (by
    intro d hd
    apply propext
    by_cases h1 : d.1 = x
    · exact ⟨fun _ => Or.inr ⟨d, hd, d.2, Or.inl ⟨h1, rfl⟩, rfl⟩, fun _ => Or.inl h1⟩
    · by_cases h2 : d.2 = x
      · exact ⟨fun _ => Or.inl h2, fun _ => Or.inr ⟨d, hd, d.1, Or.inr ⟨h2, rfl⟩, rfl⟩⟩
      · have hd0 : conn (E.filter (fun d => d.1 != x && d.2 != x)) d.1 d.2 := conn_edge (List.mem_filter.2 ⟨hd, by simp [h1, h2]⟩)
        constructor
        · rintro (h | ⟨e, he, z, hz, hc⟩)
          · exact absurd h h1
          · exact Or.inr ⟨e, he, z, hz, hc.trans hd0⟩
        · rintro (h | ⟨e, he, z, hz, hc⟩)
          · exact absurd h h2
          · exact Or.inr ⟨e, he, z, hz, hc.trans hd0.symm⟩) h
  have hg2 : (y = x ∨ ∃ e ∈ E, ∃ z, ((e.1 = x ∧ e.2 = z) ∨ (e.2 = x ∧ e.1 = z)) ∧ conn (E.filter (fun d => d.1 != x && d.2 != x)) z y) := hg.mp (Or.inl rfl)
  rcases hg2 with h2 | h2
  · exact absurd h2.symm hne
  · exact h2
end
section
def less (T : List Nat) (k : Nat) : List Nat := T.filter (fun j => j != k)
theorem mem_less {T : List Nat} {j k : Nat} : j ∈ less T k ↔ j ∈ T ∧ j ≠ k := by simp [less]
def cn (en : Nat → Nat × Nat) (ks : List Nat) (x y : Nat) : Prop := conn (ks.map en) x y
instance (en : Nat → Nat × Nat) (ks : List Nat) (x y : Nat) : Decidable (cn en ks x y) := inferInstanceAs (Decidable (conn _ x y))
section
variable {en : Nat → Nat × Nat} {T : List Nat} {a x y z k : Nat}
theorem cn_refl : cn en T x x := rfl
theorem cn.symm (h : cn en T x y) : cn en T y x := Eq.symm h
theorem cn.trans (h : cn en T x y) (k : cn en T y z) : cn en T x z := Eq.trans h k
theorem cn_line (h : k ∈ T) : cn en T (en k).1 (en k).2 := conn_edge (List.mem_map_of_mem h)
theorem cn_of {T' : List Nat} (h : ∀ k ∈ T, cn en T' (en k).1 (en k).2) (hc : cn en T x y) : cn en T' x y := conn_of (fun e he => by obtain ⟨k, hk, rfl⟩ := List.mem_map.1 he; exact h k hk) hc
theorem cn_mono {T' : List Nat} (h : ∀ k ∈ T, k ∈ T') (hc : cn en T x y) : cn en T' x y := cn_of (fun _ hk => cn_line (h _ hk)) hc
theorem cn_congr {T' : List Nat} (h : ∀ k, k ∈ T ↔ k ∈ T') : cn en T x y ↔ cn en T' x y := ⟨cn_mono fun k => (h k).1, cn_mono fun k => (h k).2⟩
theorem cn_snoc : cn en (T ++ [k]) x y ↔ cn en T x y ∨ (cn en T x (en k).1 ∧ cn en T (en k).2 y) ∨ (cn en T x (en k).2 ∧ cn en T (en k).1 y) := by
  unfold cn
  rw [List.map_append, List.map_cons, List.map_nil]
  exact conn_snoc
theorem cn_drop {T' : List Nat} (hE : ∀ d, d ∈ T → d = k ∨ d ∈ T') (hs : ∀ d, d ∈ T' → d ∈ T) (hk : k ∈ T) (hn : ¬ cn en T x (en k).1) (h : cn en T x y) : cn en T' x y := by
  refine conn_drop (E := T.map en) (E' := T'.map en) (e := en k) (fun d hd => ?_) (fun d hd => ?_) (List.mem_map_of_mem hk) hn h
  · obtain ⟨j, hj, rfl⟩ := List.mem_map.1 hd
    rcases hE j hj with rfl | h
    · exact Or.inl rfl
    · exact Or.inr (List.mem_map_of_mem h)
  · obtain ⟨j, hj, rfl⟩ := List.mem_map.1 hd
    exact List.mem_map_of_mem (hs j hj)
def Inc (en : Nat → Nat × Nat) (k x z : Nat) : Prop := ((en k).1 = x ∧ (en k).2 = z) ∨ ((en k).2 = x ∧ (en k).1 = z)
theorem Inc.cn (h : Inc en k x z) (hk : k ∈ T) : cn en T x z := by
  rcases h with ⟨rfl, rfl⟩ | ⟨rfl, rfl⟩
  · exact cn_line hk
  · exact (cn_line hk).symm
structure Fo (en : Nat → Nat × Nat) (T : List Nat) : Prop where
  nodup : T.Nodup
  cut : ∀ k ∈ T, ¬ cn en (less T k) (en k).1 (en k).2
theorem Fo.nil : Fo en [] := ⟨List.nodup_nil, fun _ h => absurd h List.not_mem_nil⟩
theorem Fo.snoc (h : Fo en T) (hk : k ∉ T) (hn : ¬ cn en T (en k).1 (en k).2) : Fo en (T ++ [k]) := by
  refine ⟨?_, fun j hj hc => ?_⟩
  · rw [List.nodup_append]
    exact ⟨h.nodup, List.pairwise_singleton _ _, fun a ha b hb e => by simp at hb; subst hb; subst e; exact hk ha⟩
  · rcases List.mem_append.1 hj with hj | hj
    · have hjk : j ≠ k := fun e => hk (e ▸ hj)
      have hl : ∀ d, d ∈ less (T ++ [k]) j ↔ d ∈ less T j ++ [k] := by
        intro d; rw [mem_less]; simp only [List.mem_append, List.mem_singleton, mem_less]
        constructor
        · rintro ⟨h1 | h1, h2⟩
          · exact Or.inl ⟨h1, h2⟩
          · exact Or.inr h1
        · rintro (⟨h1, h2⟩ | h1)
          · exact ⟨Or.inl h1, h2⟩
          · exact ⟨Or.inr h1, fun e => hjk (e.symm.trans h1)⟩
      have hm : ∀ {u v}, cn en (less T j) u v → cn en T u v := fun c => cn_mono (fun d hd => (mem_less.1 hd).1) c
      rcases cn_snoc.1 ((cn_congr hl).1 hc) with hc | ⟨h1, h2⟩ | ⟨h1, h2⟩
      · exact h.cut j hj hc
      · exact hn (((hm h1).symm.trans (cn_line hj)).trans (hm h2).symm)
      · exact hn ((((hm h1).symm.trans (cn_line hj)).trans (hm h2).symm).symm)
    · have e : j = k := by simpa using hj
      subst e
      refine hn ((cn_congr fun d => ?_).1 hc)
      rw [mem_less]; simp only [List.mem_append, List.mem_singleton]
      constructor
      · rintro ⟨h1 | h1, h2⟩
        · exact h1
        · exact absurd h1 h2
      · intro h1; exact ⟨Or.inl h1, fun e => hk (e ▸ h1)⟩
theorem Fo.inc (h : Fo en T) (hk : k ∈ T) (hi : Inc en k x z) : ¬ cn en (less T k) x z := by
  intro hc
  rcases hi with ⟨rfl, rfl⟩ | ⟨rfl, rfl⟩
  · exact h.cut k hk hc
  · exact h.cut k hk hc.symm
theorem Fo.far (h : Fo en T) {j : Nat} (hk : k ∈ T) (hi : Inc en k x z) (hj : j ∈ T) (hjk : j ≠ k) {p : Nat} (hj2 : Inc en j x p) (hc : cn en (less T k) z y) : cn en (less T j) z y := by
  have hn : ¬ cn en (less T k) z (en j).1 := by
    intro hz
    have hjl : j ∈ less T k := mem_less.2 ⟨hj, hjk⟩
    have : cn en (less T k) x (en j).1 := by
      rcases hj2 with ⟨rfl, rfl⟩ | ⟨rfl, rfl⟩
      · exact cn_refl
      · exact (cn_line hjl).symm
    exact h.inc hk hi (this.trans hz.symm)
  have := cn_drop (T' := less (less T k) j) (fun d hd => (Decidable.em (d = j)).imp id (fun hne => mem_less.2 ⟨hd, hne⟩)) (fun d hd => (mem_less.1 hd).1) (mem_less.2 ⟨hj, hjk⟩) hn hc
  exact cn_mono (fun d hd => mem_less.2 ⟨(mem_less.1 (mem_less.1 hd).1).1, (mem_less.1 hd).2⟩) this
theorem Fo.step (h : Fo en T) (last : Option Nat) (hl : ∀ j, last = some j → j ∈ T ∧ ∃ p, Inc en j x p) (hne : x ≠ y) :
    cn en (T.filter (fun j => some j != last)) x y ↔ ∃ k ∈ T, some k ≠ last ∧ ∃ z, Inc en k x z ∧ cn en (less T k) z y := by
  constructor
  · intro hc
    obtain ⟨e, he, z, hz, hc2⟩ := conn_first hc hne
    obtain ⟨k, hk, rfl⟩ := List.mem_map.1 he
    have hk2 := List.mem_filter.1 hk
    refine ⟨k, hk2.1, by simpa using hk2.2, z, hz, ?_⟩
    refine conn_mono (fun d hd => ?_) hc2
    obtain ⟨hd1, hd2⟩ := List.mem_filter.1 hd
    obtain ⟨j, hj, rfl⟩ := List.mem_map.1 hd1
    refine List.mem_map_of_mem (mem_less.2 ⟨(List.mem_filter.1 hj).1, fun e => ?_⟩)
    subst e
    simp only [Bool.and_eq_true, bne_iff_ne, ne_eq] at hd2
    rcases hz with ⟨h1, _⟩ | ⟨h1, _⟩
    · exact hd2.1 h1
    · exact hd2.2 h1
  · rintro ⟨k, hk, hkl, z, hi, hc⟩
    have hkm : k ∈ T.filter (fun j => some j != last) := List.mem_filter.2 ⟨hk, by simpa using hkl⟩
    refine (hi.cn hkm).trans ?_
    cases last with
    | none => exact cn_mono (fun d hd => List.mem_filter.2 ⟨(mem_less.1 hd).1, rfl⟩) hc
    | some j =>
      obtain ⟨hj, p, hp⟩ := hl j rfl
      have := h.far hk hi hj (fun e => hkl (by rw [e])) hp hc
      exact cn_mono (fun d hd => List.mem_filter.2 ⟨(mem_less.1 hd).1, by have := (mem_less.1 hd).2; simpa using this⟩) this
def b2i (p : Prop) [Decidable p] : Int := if p then 1 else 0
def W (en : Nat → Nat × Nat) (T : List Nat) (a x t : Nat) : Int := if t ∈ T then b2i (cn en (less T t) a (en t).1) - b2i (cn en (less T t) x (en t).1) else 0
end
end
section
def stepF (on : List Int → Int → Int → Option (Bool × List Int)) (way : List Int) (k next sign : Int) : Option (Bool × List Int) :=
  (on (way.set k.toNat sign) next k).bind fun r => some (r.1, if r.1 = true then r.2 else r.2.set k.toNat 0)
def goF (on : List Int → Int → Int → Option (Bool × List Int)) (L : List S37) (at_ last : Int) : List Int → List Int → Option (Bool × List Int)
  | [], way => some (false, way)
  | k :: ks, way =>
    if k = last then goF on L at_ last ks way
    else if (rd_T37 L k).f0 = at_ then
      (stepF on way k (rd_T37 L k).f1 1).bind fun r => if r.1 = true then some (true, r.2) else
        if (rd_T37 L k).f1 = at_ then (stepF on r.2 k (rd_T37 L k).f0 (-1)).bind fun r => if r.1 = true then some (true, r.2) else goF on L at_ last ks r.2
        else goF on L at_ last ks r.2
    else if (rd_T37 L k).f1 = at_ then (stepF on way k (rd_T37 L k).f0 (-1)).bind fun r => if r.1 = true then some (true, r.2) else goF on L at_ last ks r.2
    else goF on L at_ last ks way
def onF (L : List S37) (T : List Int) (tgt : Int) : Nat → List Int → Int → Int → Option (Bool × List Int)
  | 0, _, _, _ => none
  | k + 1, way, at_, last => if at_ = tgt then some (true, way) else goF (onF L T tgt k) L at_ last T way
def enL (L : List S37) (k : Nat) : Nat × Nat := ((rd_T37 L (k : Int)).f0.toNat, (rd_T37 L (k : Int)).f1.toNat)
def castL (T : List Nat) : List Int := T.map (fun (k : Nat) => (k : Int))
def wayOf (L : List S37) (T : List Nat) (a x : Nat) : List Int := (List.range L.length).map (W (enL L) T a x)
structure GoodL (L : List S37) (T : List Nat) : Prop where
  lt : ∀ k ∈ T, k < L.length
  f0 : ∀ k ∈ T, (rd_T37 L (k : Int)).f0 = (((enL L k).1 : Nat) : Int)
  f1 : ∀ k ∈ T, (rd_T37 L (k : Int)).f1 = (((enL L k).2 : Nat) : Int)
  ne : ∀ k ∈ T, (enL L k).1 ≠ (enL L k).2
section
variable {L : List S37} {T : List Nat} {a x z k tgt : Nat}
def OnOk (L : List S37) (T : List Nat) (a tgt : Nat) (last : Option Nat) (x : Nat) (on : List Int → Int → Int → Option (Bool × List Int)) : Prop :=
  ∀ k ∈ T, some k ≠ last → ∀ z, Inc (enL L) k x z → ∃ b, on (wayOf L T a z) (z : Int) (k : Int) = some (b, if b = true then wayOf L T a tgt else wayOf L T a z) ∧ (b = true ↔ cn (enL L) (less T k) z tgt)
def off (L : List S37) (T : List Nat) (a x : Nat) : Nat := (T.filter (fun t => W (enL L) T a x t == 0)).length
end
end
section
def trStep (en : Nat → Nat × Nat) (t : List Nat) (k : Nat) : List Nat := if cn en t (en k).1 (en k).2 then t else t ++ [k]
def tr (en : Nat → Nat × Nat) (ks : List Nat) : List Nat := ks.foldl (trStep en) []
section
variable {en : Nat → Nat × Nat} {T ks : List Nat} {a b x y z k : Nat}
def cnt (f : Nat → Nat) (N : Nat) : Nat := ((List.range N).filter (fun b => f b == b)).length
def sumTo (F : Nat → Int) : Nat → Int
  | 0 => 0
  | n + 1 => sumTo F n + F n
def dl (x y : Nat) : Int := if x = y then 1 else 0
def dd (en : Nat → Nat × Nat) (t x : Nat) : Int := dl (en t).1 x - dl (en t).2 x
end
end
theorem edges_en (L : List S37) (out : List Int) : edges L out = (inn L out).map (enL L) := rfl
theorem mem_range_of {x : Int} {m : Nat} (h0 : 0 ≤ x) (h1 : x < (m : Int)) : ∃ k : Nat, k < m ∧ x = (k : Int) := ⟨x.toNat, by omega, by omega⟩
theorem eqA37 (d : Nat) (w : World) (x0 y0 : Int) (x1 y1 : Int) (x2 y2 : Int) (x3 y3 : Int) :
  (Op.equalIn (d + 2) 37 (.agg #[.int .i64 x0, .int .i64 x1, .int .i64 x2, .int .i64 x3]) (.agg #[.int .i64 y0, .int .i64 y1, .int .i64 y2, .int .i64 y3])).run Try.prog w = .ok (x0 == y0 && (x1 == y1 && (x2 == y2 && (x3 == y3)))) w := by
 refine eqA_of Try.underlying37 (by kernel_rfl) ?_
 refine eqf_cons (by rfl) (by go_simp; rfl) (by go_simp; rfl) (by go_simp) ?_
 refine eqf_cons (by rfl) (by go_simp; rfl) (by go_simp; rfl) (by go_simp) ?_
 refine eqf_cons (by rfl) (by go_simp; rfl) (by go_simp; rfl) (by go_simp) ?_
 exact eqf_last (by rfl) (by go_simp; rfl) (by go_simp; rfl) (by go_simp)
section
attribute [local go_sem high] eqA37
def api_Line.l0 : Nat → List (S37) → List (S37) → Int → Int → Option (Bool)
 | 0, _, _, _, _ => none
 | k + 1, x0, x1, x12, x13 => if x13 < x12 then (if 0 ≤ x13 then (if x13 < (x0.length : Int) then (if x13 < (x1.length : Int) then (if (!(((rd_T37 x0 x13).f0) == ((rd_T37 x1 x13).f0)) || (!(((rd_T37 x0 x13).f1) == ((rd_T37 x1 x13).f1)) || (!(((rd_T37 x0 x13).f2) == ((rd_T37 x1 x13).f2)) || (!(((rd_T37 x0 x13).f3) == ((rd_T37 x1 x13).f3)))))) = true then (some false) else (api_Line.l0 k x0 x1 x12 (wrap64 (x13 + 1)))) else (none)) else (none)) else (none)) else (some true)
def api_Line.f (k : Nat) (l0 : List (S37)) (l1 : List (S37)) : Option (Bool) := if (l0.length : Int) = (l1.length : Int) then (api_Line.l0 k l0 l1 (l0.length : Int) 0) else (some false)
end
def nEqual.f (k : Nat) (a0_0 : Int) (l0_1 : List (S37)) (a1_0 : Int) (l1_1 : List (S37)) : Option (Bool) := if a0_0 = a1_0 then ((api_Line.f k l0_1 l1_1).bind fun t1506 => (some t1506)) else (some false)
theorem rd_T37_nat {L : List S37} {i : Nat} (h : i < L.length) : rd_T37 L (i : Int) = L[i] := by
  simp [rd_T37, List.getD_eq_getElem?_getD, h]
theorem rev_lab {L L2 : List S37} {out : List Int} (hl : L2.length = L.length) (h : ∀ k, k < L.length → enL L2 k = enL L k ∨ enL L2 k = ((enL L k).2, (enL L k).1)) : lab (edges L2 out) = lab (edges L out) := by
  have hinn : inn L2 out = inn L out := by unfold inn; rw [hl]
  refine lab_ext fun x y => ⟨conn_of fun e he => ?_, conn_of fun e he => ?_⟩
  · rw [edges_en, hinn] at he
    obtain ⟨k, hk, rfl⟩ := List.mem_map.1 he
    have hm : enL L k ∈ edges L out := by rw [edges_en]; exact List.mem_map_of_mem hk
    rcases h k (mem_inn.1 hk).1 with e | e
    · rw [e]; exact conn_edge hm
    · rw [e]; exact (conn_edge hm).symm
  · rw [edges_en] at he
    obtain ⟨k, hk, rfl⟩ := List.mem_map.1 he
    have hm : enL L2 k ∈ edges L2 out := by rw [edges_en, hinn]; exact List.mem_map_of_mem hk
    have hc := conn_edge hm
    rcases h k (mem_inn.1 hk).1 with e | e
    · rw [e] at hc; exact hc
    · rw [e] at hc; exact hc.symm
theorem IslandReverse_walk (b : Int) (A0 : Option Addr) (c0 : Nat) (L : List S37) (A1 : Option Addr) (c1 : Nat) (l1 : List Int) (a2 a3 a4 : Int) (w : World) (hC0 : Kd.C k37 w A0 L.length L) (hc0 : L.length ≤ c0) (hC1 : Kd.C (Kd.int .i64) w A1 l1.length l1) (hc1 : l1.length ≤ c1) :
    Calls Try.prog 4 #[.agg #[.int .i64 b, .slice A0 L.length c0], .slice A1 l1.length c1, .int .i64 a2, .int .i64 a3, .int .i64 a4] w fun e w' => e = .returned (.bool true) ∧ Below w.heap.size w w' := by
  obtain ⟨r, hr, hx⟩ := long_f b L [l1] (by simp)
  cases r with
  | true =>
    obtain ⟨k, hk⟩ := hr.tell
    exact pylonlaw15_IslandReverse.long k b A0 c0 L A1 c1 l1 a2 a3 a4 w hC0 hc0 hC1 hc1 hk
  | false =>
    obtain ⟨hL, hl⟩ := hx rfl
    have h1 : l1.length ≤ 100 := hl l1 (by simp)
    by_cases hck : chk b L = 0
    · by_cases hi : 0 ≤ a2 ∧ a2 < (L.length : Int)
      · have hrev : nReverse.f b L a2 = some (b, L.set a2.toNat (swapL (rd_T37 L a2)), 0) := by
          rw [nReverse.f, if_pos hck, if_neg (by omega), if_neg (by omega)]
        obtain ⟨i, hil, rfl⟩ := mem_range_of hi.1 hi.2
        obtain ⟨Lm, hLm⟩ : ∃ Lm, Lm = L.set i (swapL (rd_T37 L (i : Int))) := ⟨_, rfl⟩
        have hlm : Lm.length = L.length := by rw [hLm, List.length_set]
        obtain ⟨L2, hL2⟩ : ∃ L2, L2 = Lm.set i ⟨(rd_T37 Lm (i : Int)).f0, (rd_T37 Lm (i : Int)).f1, a3, a4⟩ := ⟨_, rfl⟩
        have hl2 : L2.length = L.length := by rw [hL2, List.length_set, hlm]
        rw [Int.toNat_natCast, ← hLm] at hrev
        have hrm : rd_T37 Lm (i : Int) = swapL (rd_T37 L (i : Int)) := by
          rw [rd_T37_nat (by omega)]; simp [hLm]
        have hen : ∀ k, k < L.length → enL L2 k = enL L k ∨ enL L2 k = ((enL L k).2, (enL L k).1) := by
          intro k hk
          by_cases e : k = i
          · subst e
            right
            have : rd_T37 L2 (k : Int) = ⟨(rd_T37 Lm (k : Int)).f0, (rd_T37 Lm (k : Int)).f1, a3, a4⟩ := by
              rw [rd_T37_nat (by omega)]; simp [hL2]
            unfold enL
            rw [this, hrm]; rfl
          · left
            have : rd_T37 L2 (k : Int) = rd_T37 L (k : Int) := by
              rw [rd_T37_nat (by omega), rd_T37_nat (by omega)]
              simp only [hL2, hLm]
              rw [List.getElem_set_ne (fun h => e h.symm), List.getElem_set_ne (fun h => e h.symm)]
            unfold enL
            rw [this]
        have hck2 : nCheck.f b L2 = some (chk b L2) := rfl
        by_cases hc2 : chk b L2 = 0
        · have ho : outsV b L2 l1 = outsV b L l1 := by rw [outsV, outsV, if_pos hck, if_pos hc2, hl2]
          have hlab := rev_lab (out := l1) hl2 hen
          have key : ∃ x e, x.length ≤ 1000 ∧ Ev (fun k => iOf.f k b L l1) (x, e) ∧ Ev (fun k => iOf.f k b L2 l1) (x, e) := by
            by_cases h : outsV b L l1 = 0
            · have h' : outsV b L2 l1 = 0 := by rw [ho]; exact h
              have hb := outs_bus h
              have e2 := of_ok h'
              rw [hlab] at e2
              exact ⟨_, _, by simp [islOf]; omega, of_ok h, e2⟩
            · have h' : outsV b L2 l1 ≠ 0 := by rw [ho]; exact h
              have e2 := of_bad h'
              rw [ho] at e2
              exact ⟨_, _, by simp, of_bad h, e2⟩
          obtain ⟨x, e, hxl, e1, e2⟩ := key
          have e3 := ints_ev x x (by omega)
          rw [decide_eq_true rfl] at e3
          obtain ⟨K1, k1⟩ := hr
          obtain ⟨K2, k2⟩ := e1
          obtain ⟨K3, k3⟩ := e2
          obtain ⟨K4, k4⟩ := e3
          obtain ⟨k, hk⟩ : ∃ k, k = K1 + K2 + K3 + K4 := ⟨_, rfl⟩
          refine pylonlaw15_IslandReverse.like k b A0 c0 L A1 c1 l1 (i : Int) a3 a4 w hC0 hc0 hC1 hc1 (k1 k (by omega)) b Lm hrev hlm (by omega) (by omega) ?_ x e (k2 k (by omega)) ?_ (k4 k (by omega))
          · rw [Int.toNat_natCast, ← hL2, hck2, hc2]
          · rw [Int.toNat_natCast, ← hL2]; exact k3 k (by omega)
        · obtain ⟨k, hk⟩ := hr.tell
          refine pylonlaw15_IslandReverse.unlike k b A0 c0 L A1 c1 l1 (i : Int) a3 a4 w hC0 hc0 hC1 hc1 hk b Lm hrev hlm (by omega) (by omega) (chk b L2) ?_ hc2
          rw [Int.toNat_natCast, ← hL2]; exact hck2
      · obtain ⟨k, hk⟩ := hr.tell
        refine pylonlaw15_IslandReverse.bad k b A0 c0 L A1 c1 l1 a2 a3 a4 w hC0 hc0 hC1 hc1 hk 0 [] 1 ?_ (by decide)
        rw [nReverse.f, if_pos hck]
        by_cases h : a2 < 0
        · rw [if_pos h]
        · rw [if_neg h, if_pos (by omega)]
    · obtain ⟨k, hk⟩ := hr.tell
      refine pylonlaw15_IslandReverse.bad k b A0 c0 L A1 c1 l1 a2 a3 a4 w hC0 hc0 hC1 hc1 hk 0 [] (chk b L) ?_ hck
      rw [nReverse.f, if_neg hck]
end Go.Proofs.Ytdpgdelimffjpaa.P
