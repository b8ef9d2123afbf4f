/- Texts of this claim, merged: the words that print.sh and the prover's driver wrote, and hand-proved contracts and lemmas, less what this claim does not name. Lean checks them. -/
import Derived.Test.YtdpgdelimffjpaaProg
import Derived.Below
import Derived.Deep.Draws
import Derived.Deep.AppendLies
import Derived.Maps.AppendAt
import Derived.OwnWalk
import Derived.Laws.BytesArg
import Derived.Laws.MakeOwn
import Derived.Laws.OwnMore
import Derived.Deep.OwnRows
import Derived.Tactics
import Derived.Lib.ConvBytes
import Derived.Laws.Slices
import Derived.WalkKit
import Derived.KernelRfl
import Derived.RowKit3
import Derived.Deep.LoopGhost
import Derived.Deep.QuietTactic
import Derived.BigQuiet
import Derived.WideLaws
import Derived.Deep.DeepCutAuto
import Derived.Deep.CutBlock
import Derived.Deep.RegionHeld3
import Derived.Laws.Rows
import Derived.Lib.AppendStr
import Derived.ArgAppend
import Derived.Laws.IdiomCopy
import Derived.OrdersHeld
import Derived.Laws.BitsLemmas
import Derived.RowKit
import Derived.Lib.Hide
import Derived.Laws.EntriesVeiled
import Derived.RangeFuncNested
import Derived.RangeFuncCalls
import Derived.OrdersIn
import Derived.OwnWalkIn
import Derived.TacticsIn
import Derived.RangeFuncBound
import Derived.RangeFuncLeaves
import Derived.Shelf.Abstract
import Derived.Shelf.RegionOpen
import Derived.TacticsInMore
import Derived.LoopNIn
import Derived.LoopIn
import Derived.RangeFuncBox
import Derived.Outline
import Derived.BigRegion
import Derived.Lib.SliceRun
import Derived.Test.YtdpgdelimffjpaaK4a
namespace Go.Proofs.Ytdpgdelimffjpaa.P
open Go.RowKit Go.Proofs.YtdpgdelimffjpaaW.PrintWords Go.Proofs.YtdpgdelimffjpaaW.PrintLast Go.Proofs.YtdpgdelimffjpaaW.PrintMore
attribute [local go_sem] max2_int min2_int max_two min_two max_three min_three max_four min_four
set_option linter.unusedVariables false
set_option linter.unusedSimpArgs false
theorem wlt0 (w : World) (a : Addr) {v : Value} (h : w.cell? a = some v) : a.block < w.heap.size := World.block_lt_of_cell? w a h
def errW : Option Int → Value
 | none => .nilIface
 | some c => .iface 0 (.int .i64 c)
theorem errW_none : errW none = .nilIface := rfl
theorem errW_some (c : Int) : errW (some c) = .iface 0 (.int .i64 c) := rfl
theorem info3 : (Try.prog.info? 3).map (fun i => (i.zero, i.size, i.bytes)) = some (some (.int .i64 0), 1, 8) := by kernel_rfl
theorem info37 : (Try.prog.info? 37).map (fun i => (i.zero, i.size, i.bytes)) = some (some (.agg #[(.int .i64 0), (.int .i64 0), (.int .i64 0), (.int .i64 0)]), 4, 32) := by kernel_rfl
-- the values' own types
def rd_L1 (xs : List (List Int)) (i : Int) : (List Int) := xs.getD i.toNat ([] : List Int)
theorem at_L1 {w : World} {A : Option Addr} {n : Nat} {xs : List (List Int)} (h : Kd.C (Kd.slice 3 (Kd.int .i64)) w A n xs) (i : Int) (h0 : 0 ≤ i) (h1 : i < n) : ∃ ad A0 c0, A = some ad ∧ w.cell? (ad.add i.toNat) = some (.slice A0 (rd_L1 xs i).length c0) ∧ (rd_L1 xs i).length ≤ c0 ∧ (Kd.int .i64).C w A0 (rd_L1 xs i).length (rd_L1 xs i) := by
 obtain ⟨ad, c, e, _, hK, hc0⟩ := Kd.C_get h ([] : List Int) i h0 h1
 have hc : ∀ j u, c[j]? = some u → w.cell? (ad.add (i.toNat * 1 + j)) = some u := hc0
 obtain ⟨A0, c0, rfl, l0, g0⟩ := hK
 exact ⟨ad, A0, c0, e, by have hq := hc 0 _ rfl; rwa [Nat.mul_one, Nat.add_zero] at hq, l0, g0⟩
structure S37 where
 f0 : Int
 f1 : Int
 f2 : Int
 f3 : Int
def z37 : S37 := ⟨(0 : Int), (0 : Int), (0 : Int), (0 : Int)⟩
def k37 : Kd S37 := Kd.iso (Kd.pair (Kd.int .i64) (Kd.pair (Kd.int .i64) (Kd.pair (Kd.int .i64) (Kd.int .i64)))) (fun x : S37 => (x.f0, x.f1, x.f2, x.f3))
theorem k37_open {w : World} {x : S37} {cs : List Value} (h : k37.K w x cs) : cs = [.int .i64 x.f0, .int .i64 x.f1, .int .i64 x.f2, .int .i64 x.f3] := by
 obtain ⟨_, _, rfl, rfl, ⟨_, _, rfl, rfl, ⟨_, _, rfl, rfl, rfl⟩⟩⟩ := h
 exact rfl
theorem k37_openM {w : World} {base : Nat} {ok : Nat → Prop} {x : S37} {cs : List Value} (h : k37.M w base ok x cs) : cs = [.int .i64 x.f0, .int .i64 x.f1, .int .i64 x.f2, .int .i64 x.f3] := by
 obtain ⟨_, _, rfl, rfl, ⟨_, _, rfl, rfl, ⟨_, _, rfl, rfl, rfl⟩⟩⟩ := h
 exact rfl
theorem k37_mk (w : World) (x : S37)  : k37.K w x [.int .i64 x.f0, .int .i64 x.f1, .int .i64 x.f2, .int .i64 x.f3] := ⟨[.int .i64 x.f0], [.int .i64 x.f1, .int .i64 x.f2, .int .i64 x.f3], rfl, rfl, ⟨[.int .i64 x.f1], [.int .i64 x.f2, .int .i64 x.f3], rfl, rfl, ⟨[.int .i64 x.f2], [.int .i64 x.f3], rfl, rfl, rfl⟩⟩⟩
theorem k37_mkM (w : World) (base : Nat) (ok : Nat → Prop) (x : S37)  : k37.M w base ok x [.int .i64 x.f0, .int .i64 x.f1, .int .i64 x.f2, .int .i64 x.f3] := ⟨[.int .i64 x.f0], [.int .i64 x.f1, .int .i64 x.f2, .int .i64 x.f3], rfl, rfl, ⟨[.int .i64 x.f1], [.int .i64 x.f2, .int .i64 x.f3], rfl, rfl, ⟨[.int .i64 x.f2], [.int .i64 x.f3], rfl, rfl, rfl⟩⟩⟩
def rd_T37 (xs : List S37) (i : Int) : S37 := xs.getD i.toNat z37
theorem at_T37 {w : World} {A : Option Addr} {n : Nat} {xs : List S37} (h : Kd.C k37 w A n xs) (i : Int) (h0 : 0 ≤ i) (h1 : i < n) : ∃ ad , A = some ad ∧ w.cell? (ad.add (i.toNat * 4)) = some (.int .i64 (rd_T37 xs i).f0) ∧ w.cell? ⟨(ad.add (i.toNat * 4)).block, (ad.add (i.toNat * 4)).off + 1, none⟩ = some (.int .i64 (rd_T37 xs i).f1) ∧ w.cell? ⟨(ad.add (i.toNat * 4)).block, (ad.add (i.toNat * 4)).off + 2, none⟩ = some (.int .i64 (rd_T37 xs i).f2) ∧ w.cell? ⟨(ad.add (i.toNat * 4)).block, (ad.add (i.toNat * 4)).off + 3, none⟩ = some (.int .i64 (rd_T37 xs i).f3) := by
 obtain ⟨ad, c, e, _, hK, hc0⟩ := Kd.C_get h z37 i h0 h1
 have hc : ∀ j u, c[j]? = some u → w.cell? (ad.add (i.toNat * 4 + j)) = some u := hc0
 obtain rfl := k37_open hK
 exact ⟨ad, e, hc 0 _ rfl, by rw [← add_field _ _ 1 (by omega)]; exact hc 1 _ rfl, by rw [← add_field _ _ 2 (by omega)]; exact hc 2 _ rfl, by rw [← add_field _ _ 3 (by omega)]; exact hc 3 _ rfl⟩
def rd_L4 (xs : List (List S37)) (i : Int) : (List S37) := xs.getD i.toNat ([] : List S37)
structure S24 where
 f0 : Int
 f1 : (List S37)
def z24 : S24 := ⟨(0 : Int), ([] : List S37)⟩
def k24 : Kd S24 := Kd.iso (Kd.pair (Kd.int .i64) (Kd.slice 37 k37)) (fun x : S24 => (x.f0, x.f1))
def rd_T24 (xs : List S24) (i : Int) : S24 := xs.getD i.toNat z24
structure S58 where
 f0 : S24
 f1 : (List Int)
 f2 : Int
def z58 : S58 := ⟨z24, ([] : List Int), (0 : Int)⟩
def k58 : Kd S58 := Kd.iso (Kd.pair k24 (Kd.pair (Kd.slice 3 (Kd.int .i64)) (Kd.int .i64))) (fun x : S58 => (x.f0, x.f1, x.f2))
def rd_T58 (xs : List S58) (i : Int) : S58 := xs.getD i.toNat z58
structure S63 where
 f0 : S24
 f1 : (List Int)
 f2 : Int
def z63 : S63 := ⟨z24, ([] : List Int), (0 : Int)⟩
def k63 : Kd S63 := Kd.iso (Kd.pair k24 (Kd.pair (Kd.slice 3 (Kd.int .i64)) (Kd.int .i64))) (fun x : S63 => (x.f0, x.f1, x.f2))
def rd_T63 (xs : List S63) (i : Int) : S63 := xs.getD i.toNat z63
structure S76 where
 f0 : S24
 f1 : Int
def z76 : S76 := ⟨z24, (0 : Int)⟩
def k76 : Kd S76 := Kd.iso (Kd.pair k24 (Kd.int .i64)) (fun x : S76 => (x.f0, x.f1))
def rd_T76 (xs : List S76) (i : Int) : S76 := xs.getD i.toNat z76
structure S78 where
 f0 : (List Int)
 f1 : Int
def z78 : S78 := ⟨([] : List Int), (0 : Int)⟩
def k78 : Kd S78 := Kd.iso (Kd.pair (Kd.slice 3 (Kd.int .i64)) (Kd.int .i64)) (fun x : S78 => (x.f0, x.f1))
def rd_T78 (xs : List S78) (i : Int) : S78 := xs.getD i.toNat z78
section
def cisNaN.f (a0 : Int) : Option (Bool) := some (a0 != a0)
set_option maxHeartbeats 8000000 in
set_option maxRecDepth 100000 in
theorem cisNaN.calls (a0 : Int) (r : Bool) (w : World) (h : cisNaN.f a0 = some r) :
  Calls Try.prog 133 #[.int .i64 a0] w fun e w' => e = .returned (.bool r) ∧ Drawn0 w w' := by
 have H : (some (a0 != a0)) = some r := h
 clear h
 obtain rfl := Option.some.inj H
 go_enter Try.func133, Try.ntmps133
 go_wp2
 go_ret
 exact ⟨by first | rfl | (simp; done) | (simp [*]; done), by repeat (first | exact Drawn0.refl _ | apply Drawn0.step)⟩
end
section
def cLess.f (a0 : Int) (a1 : Int) : Option (Bool) := (cisNaN.f a0).bind fun t108 => (if t108 = true then ((cisNaN.f a1).bind fun t109 => (if t109 = true then (some (decide (a0 < a1))) else (some true))) else (some (decide (a0 < a1))))
set_option maxHeartbeats 8000000 in
set_option maxRecDepth 100000 in
theorem cLess.calls (a0 : Int) (a1 : Int) (r : Bool) (w : World) (h : cLess.f a0 a1 = some r) :
  Calls Try.prog 121 #[.int .i64 a0, .int .i64 a1] w fun e w' => e = .returned (.bool r) ∧ Drawn0 w w' := by
 have H : ((cisNaN.f a0).bind fun t108 => (if t108 = true then ((cisNaN.f a1).bind fun t109 => (if t109 = true then (some (decide (a0 < a1))) else (some true))) else (some (decide (a0 < a1))))) = some r := h
 clear h
 replace H := Option.bind_eq_some_iff.mp H
 obtain ⟨t108, A30, H⟩ := H
 replace H : (if t108 = true then ((cisNaN.f a1).bind fun t109 => (if t109 = true then (some (decide (a0 < a1))) else (some true))) else (some (decide (a0 < a1)))) = some r := H
 have A3 := Z0.mk A30
 clear A30
 by_cases c4 : t108 = true
 ·subst c4
  have H1 : ((cisNaN.f a1).bind fun t109 => (if t109 = true then (some (decide (a0 < a1))) else (some true))) = some r := by rw [if_pos rfl] at H; exact H
  clear H
  have H := H1
  clear H1
  replace H := Option.bind_eq_some_iff.mp H
  obtain ⟨t109, A50, H⟩ := H
  replace H : (if t109 = true then (some (decide (a0 < a1))) else (some true)) = some r := H
  have A5 := Z0.mk A50
  clear A50
  by_cases c6 : t109 = true
  ·subst c6
   have H1 : (some (decide (a0 < a1))) = some r := by rw [if_pos rfl] at H; exact H
   clear H
   have H := H1
   clear H1
   obtain rfl := Option.some.inj H
   go_enter Try.func121, Try.ntmps121
   go_wp2_with (first | ((with_reducible refine gC (f := 133) rfl ?_); refine gL (some 6) rfl rfl Try.func133 (by kernel_rfl) rfl #[.int .i64 a0] rfl (by (try simp only [List.map_toArray, List.map_cons, List.map_nil]); first | done | rfl | (simp only [List.length_drop, List.length_take]; rfl)) ?_; (with_reducible refine (cisNaN.calls a0 true _ A3.out).mono ?_); rintro e w' ⟨rfl, ⟨nd, rfl⟩⟩; refine ⟨_, rfl, ?_⟩) | (go_at_call 133; (with_reducible refine (cisNaN.calls a1 true _ A5.out).mono ?_); rintro e w' ⟨rfl, ⟨nd, rfl⟩⟩))
   go_ret
   exact ⟨by first | rfl | (simp; done) | (simp [*]; done), by repeat (first | exact Drawn0.refl _ | apply Drawn0.step)⟩
  ·replace c6 := Bool.eq_false_iff.mpr c6
   subst c6
   have H1 : (some true) = some r := by rw [if_neg (show ¬ (false = true) by decide)] at H; exact H
   clear H
   have H := H1
   clear H1
   obtain rfl := Option.some.inj H
   go_enter Try.func121, Try.ntmps121
   go_wp2_with (first | ((with_reducible refine gC (f := 133) rfl ?_); refine gL (some 6) rfl rfl Try.func133 (by kernel_rfl) rfl #[.int .i64 a0] rfl (by (try simp only [List.map_toArray, List.map_cons, List.map_nil]); first | done | rfl | (simp only [List.length_drop, List.length_take]; rfl)) ?_; (with_reducible refine (cisNaN.calls a0 true _ A3.out).mono ?_); rintro e w' ⟨rfl, ⟨nd, rfl⟩⟩; refine ⟨_, rfl, ?_⟩) | (go_at_call 133; (with_reducible refine (cisNaN.calls a1 false _ A5.out).mono ?_); rintro e w' ⟨rfl, ⟨nd, rfl⟩⟩))
   go_ret
   exact ⟨by first | rfl | (simp; done) | (simp [*]; done), by repeat (first | exact Drawn0.refl _ | apply Drawn0.step)⟩
 ·replace c4 := Bool.eq_false_iff.mpr c4
  subst c4
  have H1 : (some (decide (a0 < a1))) = some r := by rw [if_neg (show ¬ (false = true) by decide)] at H; exact H
  clear H
  have H := H1
  clear H1
  obtain rfl := Option.some.inj H
  go_enter Try.func121, Try.ntmps121
  go_wp2_with (first | ((with_reducible refine gC (f := 133) rfl ?_); refine gL (some 6) rfl rfl Try.func133 (by kernel_rfl) rfl #[.int .i64 a0] rfl (by (try simp only [List.map_toArray, List.map_cons, List.map_nil]); first | done | rfl | (simp only [List.length_drop, List.length_take]; rfl)) ?_; (with_reducible refine (cisNaN.calls a0 false _ A3.out).mono ?_); rintro e w' ⟨rfl, ⟨nd, rfl⟩⟩; refine ⟨_, rfl, ?_⟩))
  go_ret
  exact ⟨by first | rfl | (simp; done) | (simp [*]; done), by repeat (first | exact Drawn0.refl _ | apply Drawn0.step)⟩
end
section
def sisNaN.f (a0 : Int) : Option (Bool) := some (a0 != a0)
set_option maxHeartbeats 8000000 in
set_option maxRecDepth 100000 in
theorem sisNaN.calls (a0 : Int) (r : Bool) (w : World) (h : sisNaN.f a0 = some r) :
  Calls Try.prog 122 #[.int .i64 a0] w fun e w' => e = .returned (.bool r) ∧ Drawn0 w w' := by
 have H : (some (a0 != a0)) = some r := h
 clear h
 obtain rfl := Option.some.inj H
 go_enter Try.func122, Try.ntmps122
 go_wp2
 go_ret
 exact ⟨by first | rfl | (simp; done) | (simp [*]; done), by repeat (first | exact Drawn0.refl _ | apply Drawn0.step)⟩
end
section
def sBinarySearch.l0 : Nat → List Int → Int → Int → Int → Int → Option (Int × Bool)
 | 0, _, _, _, _, _ => none
 | k + 1, x0, x1, x6, x7, x8 => if x7 < x8 then (if 0 ≤ (wrap64 ((IntKind.u64.wrap (wrap64 (x7 + x8))) / 2)) then (if (wrap64 ((IntKind.u64.wrap (wrap64 (x7 + x8))) / 2)) < (x0.length : Int) then ((cLess.f (rd x0 (wrap64 ((IntKind.u64.wrap (wrap64 (x7 + x8))) / 2))) x1).bind fun t111 => (if t111 = true then (sBinarySearch.l0 k x0 x1 x6 (wrap64 ((wrap64 ((IntKind.u64.wrap (wrap64 (x7 + x8))) / 2)) + 1)) x8) else (sBinarySearch.l0 k x0 x1 x6 x7 (wrap64 ((IntKind.u64.wrap (wrap64 (x7 + x8))) / 2))))) else (none)) else (none)) else (if x7 < x6 then (if 0 ≤ x7 then (if x7 < (x0.length : Int) then (if (rd x0 x7) = x1 then (some (x7, true)) else ((sisNaN.f (rd x0 x7)).bind fun t114 => (if t114 = true then ((sisNaN.f x1).bind fun t115 => (some (x7, t115))) else (some (x7, false))))) else (none)) else (none)) else (some (x7, false)))
def sBinarySearch.f (k : Nat) (l0 : List Int) (a1 : Int) : Option (Int × Bool) := sBinarySearch.l0 k l0 a1 (l0.length : Int) 0 (l0.length : Int)
set_option maxHeartbeats 8000000 in
set_option maxRecDepth 100000 in
theorem sBinarySearch.calls (k : Nat) (A0 : Option Addr) (c0 : Nat) (l0 : List Int) (a1 : Int) (r1 : Int) (r2 : Bool) (w : World) (hr0 : Kd.C (Kd.int .i64) w A0 l0.length l0) (hc0 : l0.length ≤ c0) (h : sBinarySearch.f k l0 a1 = some (r1, r2)) :
  Calls Try.prog 107 #[.slice A0 l0.length c0, .int .i64 a1] w fun e w' => e = .returned (.tuple #[.int .i64 r1, .bool r2]) ∧ Drawn0 w w' := by
 have HR0 := Z0.mk hr0
 have HC0 := Z0.mk hc0
 clear hr0 hc0
 have H : (sBinarySearch.l0 k l0 a1 (l0.length : Int) 0 (l0.length : Int)) = some (r1, r2) := h
 clear h
 have H' := Z0.mk H
 clear H
 go_enter Try.func107, Try.ntmps107
 go_wp2
 go_loopg [7, 8] k (fun kq v7 v8 w' => ∃ (x7_1 : Int) (x8_1 : Int), v7 = .int .i64 x7_1 ∧ v8 = .int .i64 x8_1 ∧ Z0 (sBinarySearch.l0 kq l0 a1 (l0.length : Int) x7_1 x8_1 = some (r1, r2)) ∧ Z0 (kq ≤ k) ∧ Drawn0 w w')
 case atStart => exact ⟨(0), ((l0.length : Int)), (by first | rfl | (simp; done) | (simp [*]; done)), (by first | rfl | (simp; done) | (simp [*]; done)), H', ⟨Nat.le_refl _⟩, by repeat (first | exact Drawn0.refl _ | apply Drawn0.step)⟩
 case round =>
  clear H'; (try clear c1); (try clear p2)
  obtain ⟨x7_1, x8_1, rfl, rfl, HA, HK1, ⟨m1, rfl⟩⟩ := hrel
  cases gk with
  | zero => exact absurd HA.out (by simp [sBinarySearch.l0])
  | succ k1 =>
   have H := HA.out
   clear HA
   simp only [sBinarySearch.l0] at H
   by_cases c3 : x7_1 < x8_1
   ·rw [if_pos c3] at H
    have c3b0 : decide (x7_1 < x8_1) = true := decide_eq_true c3
    clear c3
    obtain ⟨ji4, hji4⟩ : ∃ j_ : Int, (wrap64 ((IntKind.u64.wrap (wrap64 (x7_1 + x8_1))) / 2)) = j_ := ⟨_, rfl⟩
    replace H : (if 0 ≤ (ji4) then (if (ji4) < (l0.length : Int) then ((cLess.f (rd l0 (ji4)) a1).bind fun t111 => (if t111 = true then (sBinarySearch.l0 k1 l0 a1 (l0.length : Int) (wrap64 ((ji4) + 1)) x8_1) else (sBinarySearch.l0 k1 l0 a1 (l0.length : Int) x7_1 ji4))) else (none)) else (none)) = some (r1, r2) := by first | (rw [hji4] at H; exact H) | (simp only [hji4] at H ⊢; exact H)
    have hji4w : (IntKind.i64.wrap ((IntKind.u64.wrap (wrap64 (x7_1 + x8_1))) / 2)) = ji4 := (i64_w _).trans hji4
    by_cases c5 : 0 ≤ (ji4)
    ·rw [if_pos c5] at H
     have c5b0 : decide (0 ≤ (ji4)) = true := decide_eq_true c5
     clear c5
     by_cases c6 : (ji4) < (l0.length : Int)
     ·rw [if_pos c6] at H
      have c6b0 : decide ((ji4) < (l0.length : Int)) = true := decide_eq_true c6
      clear c6
      replace H := Option.bind_eq_some_iff.mp H
      obtain ⟨t111, A70, H⟩ := H
      replace H : (if t111 = true then (sBinarySearch.l0 k1 l0 a1 (l0.length : Int) (wrap64 ((ji4) + 1)) x8_1) else (sBinarySearch.l0 k1 l0 a1 (l0.length : Int) x7_1 ji4)) = some (r1, r2) := H
      have A7 := Z0.mk A70
      clear A70
      by_cases c8 : t111 = true
      ·subst c8
       have H1 : (sBinarySearch.l0 k1 l0 a1 (l0.length : Int) (wrap64 ((ji4) + 1)) x8_1) = some (r1, r2) := by rw [if_pos rfl] at H; exact H
       clear H
       have H := H1
       clear H1
       have H' := Z0.mk H
       clear H
       have p110 : 0 ≤ ((ji4) : Int) := of_decide_eq_true (by first | (with_reducible assumption) | assumption)
       have q110 : (ji4) < (l0.length : Int) := of_decide_eq_true (by first | (with_reducible assumption) | assumption)
       obtain ⟨ad110, e110, hx110_0⟩ := Kd.at_int HR0.out (ji4) p110 q110
       cases e110
       replace p110 := eq_true p110
       replace q110 := eq_true q110
       go_wp2_with (first | ((with_reducible refine gC (f := 121) rfl ?_); refine gL (some 27) rfl rfl Try.func121 (by kernel_rfl) rfl #[.int .i64 (rd l0 (ji4)), .int .i64 a1] rfl (by (try simp only [List.map_toArray, List.map_cons, List.map_nil]); first | done | (simp only [hji4]; rfl) | rfl | (simp only [List.length_drop, List.length_take]; rfl)) ?_; (with_reducible refine (cLess.calls (rd l0 (ji4)) a1 true _ A7.out).mono ?_); rintro e w' ⟨rfl, ⟨nd, rfl⟩⟩; refine ⟨_, rfl, ?_⟩))
       go_roundg k1
       case measure => have := HK1.out; omega
       case rel => exact ⟨(wrap64 ((ji4) + 1)), (x8_1), (by first | rfl | (simp; done) | (simp only [← hji4] <;> (first | rfl | simp)) | (simp [*]; done)), (by first | rfl | (simp; done) | (simp [*]; done)), H', ⟨by have := HK1.out; omega⟩, by repeat (first | exact Drawn0.refl _ | apply Drawn0.step)⟩
      ·replace c8 := Bool.eq_false_iff.mpr c8
       subst c8
       have H1 : (sBinarySearch.l0 k1 l0 a1 (l0.length : Int) x7_1 ji4) = some (r1, r2) := by rw [if_neg (show ¬ (false = true) by decide)] at H; exact H
       clear H
       have H := H1
       clear H1
       have H' := Z0.mk H
       clear H
       have p110 : 0 ≤ ((ji4) : Int) := of_decide_eq_true (by first | (with_reducible assumption) | assumption)
       have q110 : (ji4) < (l0.length : Int) := of_decide_eq_true (by first | (with_reducible assumption) | assumption)
       obtain ⟨ad110, e110, hx110_0⟩ := Kd.at_int HR0.out (ji4) p110 q110
       cases e110
       replace p110 := eq_true p110
       replace q110 := eq_true q110
       go_wp2_with (first | ((with_reducible refine gC (f := 121) rfl ?_); refine gL (some 27) rfl rfl Try.func121 (by kernel_rfl) rfl #[.int .i64 (rd l0 (ji4)), .int .i64 a1] rfl (by (try simp only [List.map_toArray, List.map_cons, List.map_nil]); first | done | (simp only [hji4]; rfl) | rfl | (simp only [List.length_drop, List.length_take]; rfl)) ?_; (with_reducible refine (cLess.calls (rd l0 (ji4)) a1 false _ A7.out).mono ?_); rintro e w' ⟨rfl, ⟨nd, rfl⟩⟩; refine ⟨_, rfl, ?_⟩))
       go_roundg k1
       case measure => have := HK1.out; omega
       case rel => exact ⟨(x7_1), (ji4), (by first | rfl | (simp; done) | (simp [*]; done)), (by first | rfl | (simp; done) | (simp only [← hji4] <;> (first | rfl | simp)) | (simp [*]; done)), H', ⟨by have := HK1.out; omega⟩, by repeat (first | exact Drawn0.refl _ | apply Drawn0.step)⟩
     ·rw [if_neg c6] at H
      exact absurd H (by simp)
    ·rw [if_neg c5] at H
     exact absurd H (by simp)
   ·rw [if_neg c3] at H
    have c3b0 : decide (x7_1 < x8_1) = false := decide_eq_false c3
    clear c3
    by_cases c9 : x7_1 < (l0.length : Int)
    ·rw [if_pos c9] at H
     have c9b0 : decide (x7_1 < (l0.length : Int)) = true := decide_eq_true c9
     clear c9
     by_cases c10 : 0 ≤ x7_1
     ·rw [if_pos c10] at H
      have c10b0 : decide (0 ≤ x7_1) = true := decide_eq_true c10
      clear c10
      by_cases c11 : x7_1 < (l0.length : Int)
      ·rw [if_pos c11] at H
       have c11b0 : decide (x7_1 < (l0.length : Int)) = true := decide_eq_true c11
       clear c11
       by_cases c12 : (rd l0 x7_1) = a1
       ·rw [if_pos c12] at H
        have c12b0 : ((rd l0 x7_1) == a1) = true := beq_iff_eq.mpr c12
        have c12b1 : ((rd l0 x7_1) != a1) = false := bne_eq_false_iff_eq.mpr c12
        clear c12
        simp only [Option.some.injEq, Prod.mk.injEq] at H
        obtain ⟨rfl, rfl⟩ := H
        have p112 : 0 ≤ (x7_1 : Int) := of_decide_eq_true (by first | (with_reducible assumption) | assumption)
        have q112 : x7_1 < (l0.length : Int) := of_decide_eq_true (by first | (with_reducible assumption) | assumption)
        obtain ⟨ad112, e112, hx112_0⟩ := Kd.at_int HR0.out x7_1 p112 q112
        cases e112
        replace p112 := eq_true p112
        replace q112 := eq_true q112
        go_wp2
        go_ret2
        exact ⟨by first | rfl | (simp; done) | (simp [*]; done), by repeat (first | exact Drawn0.refl _ | apply Drawn0.step)⟩
       ·rw [if_neg c12] at H
        have c12b0 : ((rd l0 x7_1) == a1) = false := beq_eq_false_iff_ne.mpr c12
        have c12b1 : ((rd l0 x7_1) != a1) = true := bne_iff_ne.mpr c12
        replace H := Option.bind_eq_some_iff.mp H
        obtain ⟨t114, A130, H⟩ := H
        replace H : (if t114 = true then ((sisNaN.f a1).bind fun t115 => (some (x7_1, t115))) else (some (x7_1, false))) = some (r1, r2) := H
        have A13 := Z0.mk A130
        clear A130
        by_cases c14 : t114 = true
        ·subst c14
         have H1 : ((sisNaN.f a1).bind fun t115 => (some (x7_1, t115))) = some (r1, r2) := by rw [if_pos rfl] at H; exact H
         clear H
         have H := H1
         clear H1
         replace H := Option.bind_eq_some_iff.mp H
         obtain ⟨t115, A150, H⟩ := H
         replace H : (some (x7_1, t115)) = some (r1, r2) := H
         have A15 := Z0.mk A150
         clear A150
         simp only [Option.some.injEq, Prod.mk.injEq] at H
         obtain ⟨rfl, rfl⟩ := H
         have p112 : 0 ≤ (x7_1 : Int) := of_decide_eq_true (by first | (with_reducible assumption) | assumption)
         have q112 : x7_1 < (l0.length : Int) := of_decide_eq_true (by first | (with_reducible assumption) | assumption)
         obtain ⟨ad112, e112, hx112_0⟩ := Kd.at_int HR0.out x7_1 p112 q112
         cases e112
         replace p112 := eq_true p112
         replace q112 := eq_true q112
         have p113 : 0 ≤ (x7_1 : Int) := of_decide_eq_true (by first | (with_reducible assumption) | assumption)
         have q113 : x7_1 < (l0.length : Int) := of_decide_eq_true (by first | (with_reducible assumption) | assumption)
         obtain ⟨ad113, e113, hx113_0⟩ := Kd.at_int HR0.out x7_1 p113 q113
         obtain rfl : ad112 = ad113 := (by injection e113)
         replace p113 := eq_true p113
         replace q113 := eq_true q113
         go_wp2_with (first | (go_at_call 122; (with_reducible refine (sisNaN.calls (rd l0 x7_1) true _ A13.out).mono ?_); rintro e w' ⟨rfl, ⟨nd, rfl⟩⟩) | (go_at_call 122; (with_reducible refine (sisNaN.calls a1 t115 _ A15.out).mono ?_); rintro e w' ⟨rfl, ⟨nd, rfl⟩⟩))
         go_ret2
         exact ⟨by first | rfl | (simp; done) | (simp [*]; done), by repeat (first | exact Drawn0.refl _ | apply Drawn0.step)⟩
        ·replace c14 := Bool.eq_false_iff.mpr c14
         subst c14
         have H1 : (some (x7_1, false)) = some (r1, r2) := by rw [if_neg (show ¬ (false = true) by decide)] at H; exact H
         clear H
         have H := H1
         clear H1
         simp only [Option.some.injEq, Prod.mk.injEq] at H
         obtain ⟨rfl, rfl⟩ := H
         have p112 : 0 ≤ (x7_1 : Int) := of_decide_eq_true (by first | (with_reducible assumption) | assumption)
         have q112 : x7_1 < (l0.length : Int) := of_decide_eq_true (by first | (with_reducible assumption) | assumption)
         obtain ⟨ad112, e112, hx112_0⟩ := Kd.at_int HR0.out x7_1 p112 q112
         cases e112
         replace p112 := eq_true p112
         replace q112 := eq_true q112
         have p113 : 0 ≤ (x7_1 : Int) := of_decide_eq_true (by first | (with_reducible assumption) | assumption)
         have q113 : x7_1 < (l0.length : Int) := of_decide_eq_true (by first | (with_reducible assumption) | assumption)
         obtain ⟨ad113, e113, hx113_0⟩ := Kd.at_int HR0.out x7_1 p113 q113
         obtain rfl : ad112 = ad113 := (by injection e113)
         replace p113 := eq_true p113
         replace q113 := eq_true q113
         go_wp2_with (first | (go_at_call 122; (with_reducible refine (sisNaN.calls (rd l0 x7_1) false _ A13.out).mono ?_); rintro e w' ⟨rfl, ⟨nd, rfl⟩⟩))
         go_ret2
         exact ⟨by first | rfl | (simp; done) | (simp [*]; done), by repeat (first | exact Drawn0.refl _ | apply Drawn0.step)⟩
      ·rw [if_neg c11] at H
       exact absurd H (by simp)
     ·rw [if_neg c10] at H
      exact absurd H (by simp)
    ·rw [if_neg c9] at H
     have c9b0 : decide (x7_1 < (l0.length : Int)) = false := decide_eq_false c9
     clear c9
     simp only [Option.some.injEq, Prod.mk.injEq] at H
     obtain ⟨rfl, rfl⟩ := H
     go_wp2
     go_ret2
     exact ⟨by first | rfl | (simp; done) | (simp [*]; done), by repeat (first | exact Drawn0.refl _ | apply Drawn0.step)⟩
end
section
def nrises.l0 : Nat → Int → List Int → Int → Int → Option (Bool)
 | 0, _, _, _, _ => none
 | k + 1, x3, x6, x7, x8 => if x8 < x7 then (if 0 ≤ x8 then (if x8 < (x6.length : Int) then (if (rd x6 x8) ≤ x3 then (some false) else (nrises.l0 k (rd x6 x8) x6 x7 (wrap64 (x8 + 1)))) else (none)) else (none)) else (some true)
def nrises.f (k : Nat) (l0 : List Int) : Option (Bool) := nrises.l0 k (-1) l0 (l0.length : Int) 0
set_option maxHeartbeats 8000000 in
set_option maxRecDepth 100000 in
theorem nrises.calls (k : Nat) (A0 : Option Addr) (c0 : Nat) (l0 : List Int) (r : Bool) (w : World) (hr0 : Kd.C (Kd.int .i64) w A0 l0.length l0) (hc0 : l0.length ≤ c0) (h : nrises.f k l0 = some r) :
  Calls Try.prog 83 #[.slice A0 l0.length c0] w fun e w' => e = .returned (.bool r) ∧ Drawn0 w w' := by
 have HR0 := Z0.mk hr0
 have HC0 := Z0.mk hc0
 clear hr0 hc0
 have H : (nrises.l0 k (-1) l0 (l0.length : Int) 0) = some r := h
 clear h
 have H' := Z0.mk H
 clear H
 go_enter Try.func83, Try.ntmps83
 go_wp2
 go_loopg [3, 8] k (fun kq v3 v8 w' => ∃ (x3_1 : Int) (x8_1 : Int), v3 = .int .i64 x3_1 ∧ v8 = .int .i64 x8_1 ∧ Z0 (nrises.l0 kq x3_1 l0 (l0.length : Int) x8_1 = some r) ∧ Z0 (kq ≤ k) ∧ Drawn0 w w')
 case atStart => exact ⟨((-1)), (0), (by first | rfl | (simp; done) | (simp [*]; done)), (by first | rfl | (simp; done) | (simp [*]; done)), H', ⟨Nat.le_refl _⟩, by repeat (first | exact Drawn0.refl _ | apply Drawn0.step)⟩
 case round =>
  clear H'
  obtain ⟨x3_1, x8_1, rfl, rfl, HA, HK1, ⟨m1, rfl⟩⟩ := hrel
  cases gk with
  | zero => exact absurd HA.out (by simp [nrises.l0])
  | succ k1 =>
   have H := HA.out
   clear HA
   simp only [nrises.l0] at H
   by_cases c2 : x8_1 < (l0.length : Int)
   ·rw [if_pos c2] at H
    have c2b0 : decide (x8_1 < (l0.length : Int)) = true := decide_eq_true c2
    clear c2
    by_cases c3 : 0 ≤ x8_1
    ·rw [if_pos c3] at H
     have c3b0 : decide (0 ≤ x8_1) = true := decide_eq_true c3
     clear c3
     by_cases c4 : x8_1 < (l0.length : Int)
     ·rw [if_pos c4] at H
      have c4b0 : decide (x8_1 < (l0.length : Int)) = true := decide_eq_true c4
      clear c4
      by_cases c5 : (rd l0 x8_1) ≤ x3_1
      ·rw [if_pos c5] at H
       have c5b0 : decide ((rd l0 x8_1) ≤ x3_1) = true := decide_eq_true c5
       clear c5
       obtain rfl := Option.some.inj H
       have p103 : 0 ≤ (x8_1 : Int) := of_decide_eq_true (by first | (with_reducible assumption) | assumption)
       have q103 : x8_1 < (l0.length : Int) := of_decide_eq_true (by first | (with_reducible assumption) | assumption)
       obtain ⟨ad103, e103, hx103_0⟩ := Kd.at_int HR0.out x8_1 p103 q103
       cases e103
       replace p103 := eq_true p103
       replace q103 := eq_true q103
       go_wp2
       go_ret
       exact ⟨by first | rfl | (simp; done) | (simp [*]; done), by repeat (first | exact Drawn0.refl _ | apply Drawn0.step)⟩
      ·rw [if_neg c5] at H
       have c5b0 : decide ((rd l0 x8_1) ≤ x3_1) = false := decide_eq_false c5
       clear c5
       have H' := Z0.mk H
       clear H
       have p103 : 0 ≤ (x8_1 : Int) := of_decide_eq_true (by first | (with_reducible assumption) | assumption)
       have q103 : x8_1 < (l0.length : Int) := of_decide_eq_true (by first | (with_reducible assumption) | assumption)
       obtain ⟨ad103, e103, hx103_0⟩ := Kd.at_int HR0.out x8_1 p103 q103
       cases e103
       replace p103 := eq_true p103
       replace q103 := eq_true q103
       go_wp2
       go_roundg k1
       case measure => have := HK1.out; omega
       case rel => exact ⟨(rd l0 x8_1), (wrap64 (x8_1 + 1)), (by first | rfl | (simp; done) | (simp [*]; done)), (by first | rfl | (simp; done) | (simp [*]; done)), H', ⟨by have := HK1.out; omega⟩, by repeat (first | exact Drawn0.refl _ | apply Drawn0.step)⟩
     ·rw [if_neg c4] at H
      exact absurd H (by simp)
    ·rw [if_neg c3] at H
     exact absurd H (by simp)
   ·rw [if_neg c2] at H
    have c2b0 : decide (x8_1 < (l0.length : Int)) = false := decide_eq_false c2
    clear c2
    obtain rfl := Option.some.inj H
    go_wp2
    go_ret
    exact ⟨by first | rfl | (simp; done) | (simp [*]; done), by repeat (first | exact Drawn0.refl _ | apply Drawn0.step)⟩
end
section
def sIndex.l0 : Nat → List Int → Int → Int → Int → Option (Int)
 | 0, _, _, _, _ => none
 | k + 1, x0, x1, x7, x8 => if x8 < x7 then (if 0 ≤ x8 then (if x8 < (x0.length : Int) then (if x1 = (rd x0 x8) then (some x8) else (sIndex.l0 k x0 x1 x7 (wrap64 (x8 + 1)))) else (none)) else (none)) else (some (-1))
def sIndex.f (k : Nat) (l0 : List Int) (a1 : Int) : Option (Int) := sIndex.l0 k l0 a1 (l0.length : Int) 0
set_option maxHeartbeats 8000000 in
set_option maxRecDepth 100000 in
theorem sIndex.calls (k : Nat) (A0 : Option Addr) (c0 : Nat) (l0 : List Int) (a1 : Int) (r : Int) (w : World) (hr0 : Kd.C (Kd.int .i64) w A0 l0.length l0) (hc0 : l0.length ≤ c0) (h : sIndex.f k l0 a1 = some r) :
  Calls Try.prog 82 #[.slice A0 l0.length c0, .int .i64 a1] w fun e w' => e = .returned (.int .i64 r) ∧ Drawn0 w w' := by
 have HR0 := Z0.mk hr0
 have HC0 := Z0.mk hc0
 clear hr0 hc0
 have H : (sIndex.l0 k l0 a1 (l0.length : Int) 0) = some r := h
 clear h
 have H' := Z0.mk H
 clear H
 go_enter Try.func82, Try.ntmps82
 go_wp2
 go_loopg [8] k (fun kq v8 w' => ∃ (x8_1 : Int), v8 = .int .i64 x8_1 ∧ Z0 (sIndex.l0 kq l0 a1 (l0.length : Int) x8_1 = some r) ∧ Z0 (kq ≤ k) ∧ Drawn0 w w')
 case atStart => exact ⟨(0), (by first | rfl | (simp; done) | (simp [*]; done)), H', ⟨Nat.le_refl _⟩, by repeat (first | exact Drawn0.refl _ | apply Drawn0.step)⟩
 case round =>
  clear H'; (try clear p2)
  obtain ⟨x8_1, rfl, HA, HK1, ⟨m1, rfl⟩⟩ := hrel
  cases gk with
  | zero => exact absurd HA.out (by simp [sIndex.l0])
  | succ k1 =>
   have H := HA.out
   clear HA
   simp only [sIndex.l0] at H
   by_cases c3 : x8_1 < (l0.length : Int)
   ·rw [if_pos c3] at H
    have c3b0 : decide (x8_1 < (l0.length : Int)) = true := decide_eq_true c3
    clear c3
    by_cases c4 : 0 ≤ x8_1
    ·rw [if_pos c4] at H
     have c4b0 : decide (0 ≤ x8_1) = true := decide_eq_true c4
     clear c4
     by_cases c5 : x8_1 < (l0.length : Int)
     ·rw [if_pos c5] at H
      have c5b0 : decide (x8_1 < (l0.length : Int)) = true := decide_eq_true c5
      clear c5
      by_cases c6 : a1 = (rd l0 x8_1)
      ·rw [if_pos c6] at H
       have c6b0 : (a1 == (rd l0 x8_1)) = true := beq_iff_eq.mpr c6
       have c6b1 : (a1 != (rd l0 x8_1)) = false := bne_eq_false_iff_eq.mpr c6
       clear c6
       obtain rfl := Option.some.inj H
       have p125 : 0 ≤ (x8_1 : Int) := of_decide_eq_true (by first | (with_reducible assumption) | assumption)
       have q125 : x8_1 < (l0.length : Int) := of_decide_eq_true (by first | (with_reducible assumption) | assumption)
       obtain ⟨ad125, e125, hx125_0⟩ := Kd.at_int HR0.out x8_1 p125 q125
       cases e125
       replace p125 := eq_true p125
       replace q125 := eq_true q125
       go_wp2
       go_ret
       exact ⟨by first | rfl | (simp; done) | (simp [*]; done), by repeat (first | exact Drawn0.refl _ | apply Drawn0.step)⟩
      ·rw [if_neg c6] at H
       have c6b0 : (a1 == (rd l0 x8_1)) = false := beq_eq_false_iff_ne.mpr c6
       have c6b1 : (a1 != (rd l0 x8_1)) = true := bne_iff_ne.mpr c6
       have H' := Z0.mk H
       clear H
       have p125 : 0 ≤ (x8_1 : Int) := of_decide_eq_true (by first | (with_reducible assumption) | assumption)
       have q125 : x8_1 < (l0.length : Int) := of_decide_eq_true (by first | (with_reducible assumption) | assumption)
       obtain ⟨ad125, e125, hx125_0⟩ := Kd.at_int HR0.out x8_1 p125 q125
       cases e125
       replace p125 := eq_true p125
       replace q125 := eq_true q125
       go_wp2
       go_roundg k1
       case measure => have := HK1.out; omega
       case rel => exact ⟨(wrap64 (x8_1 + 1)), (by first | rfl | (simp; done) | (simp [*]; done)), H', ⟨by have := HK1.out; omega⟩, by repeat (first | exact Drawn0.refl _ | apply Drawn0.step)⟩
     ·rw [if_neg c5] at H
      exact absurd H (by simp)
    ·rw [if_neg c4] at H
     exact absurd H (by simp)
   ·rw [if_neg c3] at H
    have c3b0 : decide (x8_1 < (l0.length : Int)) = false := decide_eq_false c3
    clear c3
    obtain rfl := Option.some.inj H
    go_wp2
    go_ret
    exact ⟨by first | rfl | (simp; done) | (simp [*]; done), by repeat (first | exact Drawn0.refl _ | apply Drawn0.step)⟩
end
section
def ql14Long.l0 : Nat → List (List Int) → Int → Int → List (S37) → Option (Bool)
 | 0, _, _, _, _ => none
 | k + 1, x1, x5, x102000, x102001 => if x5 < (x1.length : Int) then (if 0 ≤ x5 then (if ((rd_L1 x1 x5).length : Int) > 100 then (some true) else (ql14Long.l0 k x1 (wrap64 (x5 + 1)) x102000 x102001)) else (none)) else (some (decide ((x102001.length : Int) > 100)))
def ql14Long.f (k : Nat) (a0_0 : Int) (l0_1 : List (S37)) (l1 : List (List Int)) : Option (Bool) := ql14Long.l0 k l1 0 a0_0 l0_1
set_option maxHeartbeats 8000000 in
set_option maxRecDepth 100000 in
theorem ql14Long.calls (k : Nat) (a0_0 : Int) (A0_1 : Option Addr) (c0_1 : Nat) (l0_1 : List (S37)) (A1 : Option Addr) (c1 : Nat) (l1 : List (List Int)) (r : Bool) (w : World) (hr0_1 : Kd.C k37 w A0_1 l0_1.length l0_1) (hc0_1 : l0_1.length ≤ c0_1) (hr1 : Kd.C (Kd.slice 3 (Kd.int .i64)) w A1 l1.length l1) (hc1 : l1.length ≤ c1) (h : ql14Long.f k a0_0 l0_1 l1 = some r) :
  Calls Try.prog 28 #[.agg #[.int .i64 a0_0, .slice A0_1 l0_1.length c0_1], .slice A1 l1.length c1] w fun e w' => e = .returned (.bool r) ∧ Below w.heap.size w w' := by
 have hu24 := Try.underlying24
 have HR0_1 := Z0.mk hr0_1
 have HC0_1 := Z0.mk hc0_1
 clear hr0_1 hc0_1
 have HR1 := Z0.mk hr1
 have HC1 := Z0.mk hc1
 clear hr1 hc1
 have HB := Z0.mk (Below.refl w.heap.size w)
 have H : (ql14Long.l0 k l1 0 a0_0 l0_1) = some r := h
 clear h
 have H' := Z0.mk H
 clear H
 go_enter Try.func28, Try.ntmps28
 go_wp2_with (first | ((with_reducible refine gate_dst (N := 2) rfl ?_); refine bE ?hg (N := 2) ?hd (cs := #[.int .i64 a0_0, .slice A0_1 l0_1.length c0_1]) (t := 24) ?hr ?_; (case hd => rfl); (case hg => rfl); (case hr => first | (go_simp; done) | (go_simp; rfl)); intro gb101 hg w3 hbox hb; have n0_ := Z0.mk (bT (by repeat (first | (with_reducible first | exact HB.out | apply below_alloc | apply bN | apply bD) | exact HB.out)) hb); have n1_ := Z0.mk (hbox); have n2_ := Z0.mk ((by rw [hg]; exact (bZ (by repeat (first | (with_reducible first | exact HB.out | apply below_alloc | apply bN | apply bD) | exact HB.out))) : w.heap.size ≤ gb101)); have n3_ := Z0.mk ((by rw [hg]; exact (bZ (by repeat (first | (with_reducible first | exact HB.out | apply below_alloc | apply bN | apply bD) | exact HB.out))) : w.heap.size ≤ gb101)); clear HB; have HB := n0_; have BK101 := n1_; have GW101 := n2_; have GE101 := n3_; clear n0_ n1_ n2_ n3_; clear hb hbox hg))
 go_loopg [5] k (fun kq v5 w' => ∃ (x5_1 : Int), v5 = .int .i64 x5_1 ∧ Z0 (ql14Long.l0 kq l1 x5_1 a0_0 l0_1 = some r) ∧ Z0 (kq ≤ k) ∧ Z0 (w'.heap[gb101]? = some (.cells #[.int .i64 a0_0, (.slice A0_1 l0_1.length c0_1)] 24 (0, 0))) ∧ Z0 (Below w.heap.size w w'))
 case atStart => exact ⟨(0), (by first | rfl | (simp; done) | (simp [*]; done)), H', ⟨Nat.le_refl _⟩, ⟨by (with_reducible repeat (first | refine kN ?_ _ | refine kD ?_ | refine kA ?_ _)); exact BK101.out⟩, ⟨by repeat (first | (with_reducible first | exact HB.out | apply below_alloc | apply bN | apply bD | refine bS ?_ GE101.out) | exact HB.out)⟩⟩
 case round =>
  clear H'; (try clear c1); (try clear c2); (try clear p2)
  obtain ⟨x5_1, rfl, HA, HK1, BK101, HB⟩ := hrel
  cases gk with
  | zero => exact absurd HA.out (by simp [ql14Long.l0])
  | succ k1 =>
   have H := HA.out
   clear HA
   simp only [ql14Long.l0] at H
   by_cases c4 : x5_1 < (l1.length : Int)
   ·rw [if_pos c4] at H
    have c4b0 : decide (x5_1 < (l1.length : Int)) = true := decide_eq_true c4
    clear c4
    by_cases c5 : 0 ≤ x5_1
    ·rw [if_pos c5] at H
     have c5b0 : decide (0 ≤ x5_1) = true := decide_eq_true c5
     clear c5
     by_cases c6 : ((rd_L1 l1 x5_1).length : Int) > 100
     ·rw [if_pos c6] at H
      have c6b0 : decide (100 < ((rd_L1 l1 x5_1).length : Int)) = true := decide_eq_true c6
      have c6b1 : decide (100 < (rd_L1 l1 x5_1).length) = true := decide_eq_true (by omega)
      clear c6
      obtain rfl := Option.some.inj H
      have p102 : 0 ≤ (x5_1 : Int) := of_decide_eq_true (by first | (with_reducible assumption) | assumption)
      have q102 : x5_1 < (l1.length : Int) := of_decide_eq_true (by first | (with_reducible assumption) | assumption)
      obtain ⟨ad102, A102_0, c102_0, e102, hx102_0, hl102_0, hi102_0⟩ := at_L1 HR1.out x5_1 p102 q102
      cases e102
      replace hx102_0 := (HB.out.cell (wlt0 w _ hx102_0)).trans hx102_0
      have HR102_0 := Z0.mk hi102_0
      have HC102_0 := Z0.mk hl102_0
      clear hi102_0 hl102_0
      replace p102 := eq_true p102
      replace q102 := eq_true q102
      go_wp2
      go_ret
      exact ⟨by first | rfl | (simp [errW_none, errW_some] <;> rfl) | (simp [*, errW_none, errW_some] <;> rfl), by repeat (first | (with_reducible first | exact HB.out | apply below_alloc | apply bN | apply bD | refine bS ?_ GE101.out) | exact HB.out)⟩
     ·rw [if_neg c6] at H
      have c6b0 : decide (100 < ((rd_L1 l1 x5_1).length : Int)) = false := decide_eq_false c6
      have c6b1 : decide (100 < (rd_L1 l1 x5_1).length) = false := decide_eq_false (by omega)
      clear c6
      have H' := Z0.mk H
      clear H
      have p102 : 0 ≤ (x5_1 : Int) := of_decide_eq_true (by first | (with_reducible assumption) | assumption)
      have q102 : x5_1 < (l1.length : Int) := of_decide_eq_true (by first | (with_reducible assumption) | assumption)
      obtain ⟨ad102, A102_0, c102_0, e102, hx102_0, hl102_0, hi102_0⟩ := at_L1 HR1.out x5_1 p102 q102
      cases e102
      replace hx102_0 := (HB.out.cell (wlt0 w _ hx102_0)).trans hx102_0
      have HR102_0 := Z0.mk hi102_0
      have HC102_0 := Z0.mk hl102_0
      clear hi102_0 hl102_0
      replace p102 := eq_true p102
      replace q102 := eq_true q102
      go_wp2
      go_roundg k1
      case measure => have := HK1.out; omega
      case rel => exact ⟨(wrap64 (x5_1 + 1)), (by first | rfl | (simp; done) | (simp [*]; done)), H', ⟨by have := HK1.out; omega⟩, ⟨by (with_reducible repeat (first | refine kN ?_ _ | refine kD ?_ | refine kA ?_ _)); exact BK101.out⟩, ⟨by repeat (first | (with_reducible first | exact HB.out | apply below_alloc | apply bN | apply bD | refine bS ?_ GE101.out) | exact HB.out)⟩⟩
    ·rw [if_neg c5] at H
     exact absurd H (by simp)
   ·rw [if_neg c4] at H
    have c4b0 : decide (x5_1 < (l1.length : Int)) = false := decide_eq_false c4
    clear c4
    obtain rfl := Option.some.inj H
    have hcz7_0 : wr.cell? ⟨gb101, 0, none⟩ = some (.int .i64 a0_0) := (kC BK101.out 0).trans rfl
    have hcz7_1 : wr.cell? ⟨gb101, 1, none⟩ = some (.slice A0_1 l0_1.length c0_1) := (kC BK101.out 1).trans rfl
    have hfz7_0 := kF BK101.out 0
    have hfz7_1 := kF BK101.out 1
    go_wp2
    go_ret
    exact ⟨by first | rfl | (simp [errW_none, errW_some] <;> rfl) | (simp [*, errW_none, errW_some] <;> rfl), by repeat (first | (with_reducible first | exact HB.out | apply below_alloc | apply bN | apply bD | refine bS ?_ GE101.out) | exact HB.out)⟩
end
section
def qr14Ints.l0 : Nat → List Int → List Int → Int → Option (Bool)
 | 0, _, _, _ => none
 | k + 1, x0, x1, x5 => if x5 < (x0.length : Int) then (if 0 ≤ x5 then (if x5 < (x1.length : Int) then (if (rd x0 x5) = (rd x1 x5) then (qr14Ints.l0 k x0 x1 (wrap64 (x5 + 1))) else (some false)) else (none)) else (none)) else (some true)
def qr14Ints.f (k : Nat) (l0 : List Int) (l1 : List Int) : Option (Bool) := if (l0.length : Int) = (l1.length : Int) then (qr14Ints.l0 k l0 l1 0) else (some false)
set_option maxHeartbeats 8000000 in
set_option maxRecDepth 100000 in
theorem qr14Ints.calls (k : Nat) (A0 : Option Addr) (c0 : Nat) (l0 : List Int) (A1 : Option Addr) (c1 : Nat) (l1 : List Int) (r : Bool) (w : World) (hr0 : Kd.C (Kd.int .i64) w A0 l0.length l0) (hc0 : l0.length ≤ c0) (hr1 : Kd.C (Kd.int .i64) w A1 l1.length l1) (hc1 : l1.length ≤ c1) (h : qr14Ints.f k l0 l1 = some r) :
  Calls Try.prog 36 #[.slice A0 l0.length c0, .slice A1 l1.length c1] w fun e w' => e = .returned (.bool r) ∧ Drawn0 w w' := by
 have HR0 := Z0.mk hr0
 have HC0 := Z0.mk hc0
 clear hr0 hc0
 have HR1 := Z0.mk hr1
 have HC1 := Z0.mk hc1
 clear hr1 hc1
 have H : (if (l0.length : Int) = (l1.length : Int) then (qr14Ints.l0 k l0 l1 0) else (some false)) = some r := h
 clear h
 by_cases c3 : (l0.length : Int) = (l1.length : Int)
 ·rw [if_pos c3] at H
  have c3b0 : ((l0.length : Int) == (l1.length : Int)) = true := beq_iff_eq.mpr c3
  have c3b1 : ((l0.length : Int) != (l1.length : Int)) = false := bne_eq_false_iff_eq.mpr c3
  have c3b2 : (l0.length == l1.length) = true := by first | simpa using c3 | (simp at c3 ⊢; omega)
  clear c3
  have H' := Z0.mk H
  clear H
  go_enter Try.func36, Try.ntmps36
  go_wp2
  repeat (go_quiet (fail); try go_wp2)
  go_loopg [5] k (fun kq v5 w' => ∃ (x5_1 : Int), v5 = .int .i64 x5_1 ∧ Z0 (qr14Ints.l0 kq l0 l1 x5_1 = some r) ∧ Z0 (kq ≤ k) ∧ Drawn0 w w')
  case atStart => exact ⟨(0), (by first | rfl | (simp; done) | (simp [*]; done)), H', ⟨Nat.le_refl _⟩, by repeat (first | exact Drawn0.refl _ | apply Drawn0.step)⟩
  case round =>
   clear H'; (try clear c1); (try clear p2); (try clear c3); (try clear c3b0); (try clear c3b1); (try clear c3b2)
   obtain ⟨x5_1, rfl, HA, HK1, ⟨m1, rfl⟩⟩ := hrel
   cases gk with
   | zero => exact absurd HA.out (by simp [qr14Ints.l0])
   | succ k1 =>
    have H := HA.out
    clear HA
    simp only [qr14Ints.l0] at H
    by_cases c4 : x5_1 < (l0.length : Int)
    ·rw [if_pos c4] at H
     have c4b0 : decide (x5_1 < (l0.length : Int)) = true := decide_eq_true c4
     clear c4
     by_cases c5 : 0 ≤ x5_1
     ·rw [if_pos c5] at H
      have c5b0 : decide (0 ≤ x5_1) = true := decide_eq_true c5
      clear c5
      by_cases c6 : x5_1 < (l1.length : Int)
      ·rw [if_pos c6] at H
       have c6b0 : decide (x5_1 < (l1.length : Int)) = true := decide_eq_true c6
       clear c6
       by_cases c7 : (rd l0 x5_1) = (rd l1 x5_1)
       ·rw [if_pos c7] at H
        have c7b0 : ((rd l0 x5_1) == (rd l1 x5_1)) = true := beq_iff_eq.mpr c7
        have c7b1 : ((rd l0 x5_1) != (rd l1 x5_1)) = false := bne_eq_false_iff_eq.mpr c7
        clear c7
        have H' := Z0.mk H
        clear H
        have p140 : 0 ≤ (x5_1 : Int) := of_decide_eq_true (by first | (with_reducible assumption) | assumption)
        have q140 : x5_1 < (l0.length : Int) := of_decide_eq_true (by first | (with_reducible assumption) | assumption)
        obtain ⟨ad140, e140, hx140_0⟩ := Kd.at_int HR0.out x5_1 p140 q140
        cases e140
        replace p140 := eq_true p140
        replace q140 := eq_true q140
        have p141 : 0 ≤ (x5_1 : Int) := of_decide_eq_true (by first | (with_reducible assumption) | assumption)
        have q141 : x5_1 < (l1.length : Int) := of_decide_eq_true (by first | (with_reducible assumption) | assumption)
        obtain ⟨ad141, e141, hx141_0⟩ := Kd.at_int HR1.out x5_1 p141 q141
        cases e141
        replace p141 := eq_true p141
        replace q141 := eq_true q141
        go_wp2
        repeat (go_quiet (fail); try go_wp2)
        go_roundg k1
        case measure => have := HK1.out; omega
        case rel => exact ⟨(wrap64 (x5_1 + 1)), (by first | rfl | (simp; done) | (simp [*]; done)), H', ⟨by have := HK1.out; omega⟩, by repeat (first | exact Drawn0.refl _ | apply Drawn0.step)⟩
       ·rw [if_neg c7] at H
        have c7b0 : ((rd l0 x5_1) == (rd l1 x5_1)) = false := beq_eq_false_iff_ne.mpr c7
        have c7b1 : ((rd l0 x5_1) != (rd l1 x5_1)) = true := bne_iff_ne.mpr c7
        obtain rfl := Option.some.inj H
        have p140 : 0 ≤ (x5_1 : Int) := of_decide_eq_true (by first | (with_reducible assumption) | assumption)
        have q140 : x5_1 < (l0.length : Int) := of_decide_eq_true (by first | (with_reducible assumption) | assumption)
        obtain ⟨ad140, e140, hx140_0⟩ := Kd.at_int HR0.out x5_1 p140 q140
        cases e140
        replace p140 := eq_true p140
        replace q140 := eq_true q140
        have p141 : 0 ≤ (x5_1 : Int) := of_decide_eq_true (by first | (with_reducible assumption) | assumption)
        have q141 : x5_1 < (l1.length : Int) := of_decide_eq_true (by first | (with_reducible assumption) | assumption)
        obtain ⟨ad141, e141, hx141_0⟩ := Kd.at_int HR1.out x5_1 p141 q141
        cases e141
        replace p141 := eq_true p141
        replace q141 := eq_true q141
        go_wp2
        repeat (go_quiet (fail); try go_wp2)
        go_ret
        exact ⟨by first | rfl | (simp; done) | (simp [*]; done), by repeat (first | exact Drawn0.refl _ | apply Drawn0.step)⟩
      ·rw [if_neg c6] at H
       exact absurd H (by simp)
     ·rw [if_neg c5] at H
      exact absurd H (by simp)
    ·rw [if_neg c4] at H
     have c4b0 : decide (x5_1 < (l0.length : Int)) = false := decide_eq_false c4
     clear c4
     obtain rfl := Option.some.inj H
     go_wp2
     repeat (go_quiet (fail); try go_wp2)
     go_ret
     exact ⟨by first | rfl | (simp; done) | (simp [*]; done), by repeat (first | exact Drawn0.refl _ | apply Drawn0.step)⟩
 ·rw [if_neg c3] at H
  have c3b0 : ((l0.length : Int) == (l1.length : Int)) = false := beq_eq_false_iff_ne.mpr c3
  have c3b1 : ((l0.length : Int) != (l1.length : Int)) = true := bne_iff_ne.mpr c3
  have c3b2 : (l0.length == l1.length) = false := by first | simpa using c3 | (simp at c3 ⊢; omega)
  obtain rfl := Option.some.inj H
  go_enter Try.func36, Try.ntmps36
  go_wp2
  repeat (go_quiet (fail); try go_wp2)
  go_ret
  exact ⟨by first | rfl | (simp; done) | (simp [*]; done), by repeat (first | exact Drawn0.refl _ | apply Drawn0.step)⟩
end
section
def qr14Has.l0 : Nat → List Int → Int → Int → Option (Bool)
 | 0, _, _, _ => none
 | k + 1, x0, x1, x5 => if x5 < (x0.length : Int) then (if 0 ≤ x5 then (if (rd x0 x5) = x1 then (some true) else (qr14Has.l0 k x0 x1 (wrap64 (x5 + 1)))) else (none)) else (some false)
def qr14Has.f (k : Nat) (l0 : List Int) (a1 : Int) : Option (Bool) := qr14Has.l0 k l0 a1 0
end
section
def sContains.f (k : Nat) (l0 : List Int) (a1 : Int) : Option (Bool) := (sIndex.f k l0 a1).bind fun t577 => (some (decide (t577 ≥ 0)))
end
set_option maxHeartbeats 2000000 in
theorem wants2_calls (b : Int) (g : Nat) (gb : Nat) (l : S37) (w : World) (hb : w.cell? ⟨g, 0, none⟩ = some (.func (.func 108) #[] #[.pointer (some ⟨gb, 0, none⟩)])) (hg : w.cell? ⟨gb, 0, none⟩ = some (.int .i64 b)) :
  Calls Try.prog 109 #[.agg #[.int .i64 l.f0, .int .i64 l.f1, .int .i64 l.f2, .int .i64 l.f3], .pointer (some ⟨g, 0, none⟩)] w fun e w' => e = .returned (.bool (decide (0 ≤ l.f0 ∧ l.f0 < b ∧ 0 ≤ l.f1 ∧ l.f1 < b))) ∧ Below w.heap.size w w' := by
 have hg0 : g < w.heap.size := wlt0 w _ hb
 have hg1 : gb < w.heap.size := wlt0 w _ hg
 have hB : ∀ o, Below w.heap.size w (w.alloc o) := fun o => (Below.refl _ _).alloc (Nat.le_refl _) _
 have HB := Lib.hid hB
 clear hB
 by_cases h1 : 0 ≤ l.f0
 ·by_cases h2 : l.f0 < b
  ·by_cases h3 : 0 ≤ l.f1
   ·by_cases h4 : l.f1 < b
    ·go_enter Try.func109, Try.ntmps109
     go_wp2
     go_ret
     exact ⟨by simp [h1, h2, h3, h4], HB.out _⟩
    ·have h4b : decide (l.f1 < b) = false := decide_eq_false h4
     go_enter Try.func109, Try.ntmps109
     go_wp2
     go_ret
     exact ⟨by simp [h1, h2, h3, h4], HB.out _⟩
   ·have h4b : decide (0 ≤ l.f1) = false := decide_eq_false h3
    go_enter Try.func109, Try.ntmps109
    go_wp2
    go_ret
    exact ⟨by simp [h1, h2, h3], HB.out _⟩
  ·have h4b : decide (l.f0 < b) = false := decide_eq_false h2
   go_enter Try.func109, Try.ntmps109
   go_wp2
   go_ret
   exact ⟨by simp [h1, h2], HB.out _⟩
 ·have h4b : decide (0 ≤ l.f0) = false := decide_eq_false h1
  go_enter Try.func109, Try.ntmps109
  go_wp2
  go_ret
  exact ⟨by simp [h1], HB.out _⟩
theorem wants3_calls (l : S37) (w : World) :
  Calls Try.prog 110 #[.agg #[.int .i64 l.f0, .int .i64 l.f1, .int .i64 l.f2, .int .i64 l.f3]] w fun e w' => e = .returned (.bool (l.f0 != l.f1)) ∧ Below w.heap.size w w' := by
 have HB := Lib.hid (fun o => (Below.refl _ _).alloc (Nat.le_refl _) o : ∀ o, Below w.heap.size w (w.alloc o))
 go_enter Try.func110, Try.ntmps110
 go_wp2
 go_ret
 exact ⟨rfl, HB.out _⟩
theorem wants4_calls (l : S37) (w : World) :
  Calls Try.prog 111 #[.agg #[.int .i64 l.f0, .int .i64 l.f1, .int .i64 l.f2, .int .i64 l.f3]] w fun e w' => e = .returned (.bool (decide (1 ≤ l.f2 ∧ l.f2 ≤ 1000))) ∧ Below w.heap.size w w' := by
 have HB := Lib.hid (fun o => (Below.refl _ _).alloc (Nat.le_refl _) o : ∀ o, Below w.heap.size w (w.alloc o))
 by_cases h1 : 1 ≤ l.f2
 ·by_cases h2 : l.f2 ≤ 1000
  all_goals
   go_enter Try.func111, Try.ntmps111
   go_wp2
   go_ret
   exact ⟨by simp [h1, h2], HB.out _⟩
 ·have h4b : decide (1 ≤ l.f2) = false := decide_eq_false h1
  go_enter Try.func111, Try.ntmps111
  go_wp2
  go_ret
  exact ⟨by simp [h1], HB.out _⟩
theorem wants5_calls (l : S37) (w : World) :
  Calls Try.prog 112 #[.agg #[.int .i64 l.f0, .int .i64 l.f1, .int .i64 l.f2, .int .i64 l.f3]] w fun e w' => e = .returned (.bool (decide (0 ≤ l.f3 ∧ l.f3 ≤ 1000000))) ∧ Below w.heap.size w w' := by
 have HB := Lib.hid (fun o => (Below.refl _ _).alloc (Nat.le_refl _) o : ∀ o, Below w.heap.size w (w.alloc o))
 by_cases h1 : 0 ≤ l.f3
 ·by_cases h2 : l.f3 ≤ 1000000
  all_goals
   go_enter Try.func112, Try.ntmps112
   go_wp2
   go_ret
   exact ⟨by simp [h1, h2], HB.out _⟩
 ·have h4b : decide (0 ≤ l.f3) = false := decide_eq_false h1
  go_enter Try.func112, Try.ntmps112
  go_wp2
  go_ret
  exact ⟨by simp [h1], HB.out _⟩
theorem wants_calls (b : Int) (w : World) :
  Calls Try.prog 86 #[.int .i64 b] w fun e w' => e = .returned (.slice (some ⟨w.heap.size + 2, 0, none⟩) 4 4) ∧ Below w.heap.size w w' ∧ w'.heap.size = w.heap.size + 3 ∧
   w'.heap[w.heap.size]? = some (.cells #[.int .i64 b] 3 (0, 0)) ∧ w'.heap[w.heap.size + 1]? = some (.cells #[.func (.func 108) #[] #[.pointer (some ⟨w.heap.size, 0, none⟩)]] 109 (0, 0)) ∧
   w'.heap[w.heap.size + 2]? = some (.cells #[.func (.func 109) #[] #[.pointer (some ⟨w.heap.size + 1, 0, none⟩)], .func (.func 110) #[] #[], .func (.func 111) #[] #[], .func (.func 112) #[] #[]] 94 (0, 0)) := by
 go_enter Try.func86, Try.ntmps86
 go_wp2
 go_ret
 generalize hA : w.alloc (.cells #[.int .i64 b] 3) = wA
 have hsA : wA.heap.size = w.heap.size + 1 := by rw [← hA]; simp
 have bA : wA.heap[w.heap.size]? = some (.cells #[.int .i64 b] 3 (0, 0)) := by rw [← hA]; exact heap_alloc_new w _
 have hbA : Below w.heap.size w wA := by rw [← hA]; exact (Below.refl _ _).alloc (Nat.le_refl _) _
 generalize hB : wA.alloc (.cells #[.func (.func 108) #[] #[.pointer (some ⟨w.heap.size, 0, none⟩)]] 109) = wB
 have hsB : wB.heap.size = w.heap.size + 2 := by rw [← hB]; simp [hsA]
 have bB : wB.heap[w.heap.size + 1]? = some (.cells #[.func (.func 108) #[] #[.pointer (some ⟨w.heap.size, 0, none⟩)]] 109 (0, 0)) := by rw [← hB, ← hsA]; exact heap_alloc_new wA _
 have bA2 : wB.heap[w.heap.size]? = some (.cells #[.int .i64 b] 3 (0, 0)) := by rw [← hB]; exact kA bA _
 have hbB : Below w.heap.size w wB := by rw [← hB]; exact hbA.alloc (by omega) _
 refine ⟨rfl, hbB.alloc (by omega) _, by simp [hsB], kA bA2 _, kA bB _, ?_⟩
 rw [← hsB]; exact heap_alloc_new wB _
def okLine (b : Int) (l : S37) : Bool := decide (0 ≤ l.f0 ∧ l.f0 < b ∧ 0 ≤ l.f1 ∧ l.f1 < b) && (l.f0 != l.f1) && decide (1 ≤ l.f2 ∧ l.f2 ≤ 1000) && decide (0 ≤ l.f3 ∧ l.f3 ≤ 1000000)
def chk (b : Int) (ls : List S37) : Int := if b < 1 ∨ 6 < b then 1 else if 10 < ls.length then 5 else if ls.all (okLine b) then 0 else 1
def nCheck.f (a0_0 : Int) (l0_1 : List (S37)) : Option (Int) := some (chk a0_0 l0_1)
theorem all_take_succ {p : S37 → Bool} {ls : List S37} {i : Nat} (h : i < ls.length) (ha : ∀ l ∈ ls.take i, p l = true) (hx : p (rd_T37 ls (i : Int)) = true) : ∀ l ∈ ls.take (i + 1), p l = true := by
 intro l hl
 rw [List.take_succ_eq_append_getElem h] at hl
 rcases List.mem_append.1 hl with hl | hl
 ·exact ha l hl
 ·have e : rd_T37 ls (i : Int) = ls[i] := by simp [rd_T37, h]
  simp at hl; rw [hl, ← e]; exact hx
theorem not_all_of {p : S37 → Bool} {ls : List S37} {i : Nat} (h : i < ls.length) (hx : p (rd_T37 ls (i : Int)) = false) : ls.all p = false := by
 have e : rd_T37 ls (i : Int) = ls[i] := by simp [rd_T37, h]
 rw [e] at hx
 rw [List.all_eq_false]
 exact ⟨ls[i], List.getElem_mem h, by simp [hx]⟩
theorem cell_alloc_ {W : World} {a : Addr} {v : Value} (o : Obj) (h : W.cell? a = some v) : (W.alloc o).cell? a = some v := pw_cell_below ((Below.refl _ _).alloc (Nat.le_refl _) o) h
def wantB (b : Int) (l : S37) : Nat → Bool
 | 0 => decide (0 ≤ l.f0 ∧ l.f0 < b ∧ 0 ≤ l.f1 ∧ l.f1 < b)
 | 1 => l.f0 != l.f1
 | 2 => decide (1 ≤ l.f2 ∧ l.f2 ≤ 1000)
 | _ => decide (0 ≤ l.f3 ∧ l.f3 ≤ 1000000)
theorem wantB_ok {b : Int} {l : S37} (h : ∀ j, j < 4 → wantB b l j = true) : okLine b l = true := by
 have h0 := h 0 (by omega); have h1 := h 1 (by omega); have h2 := h 2 (by omega); have h3 := h 3 (by omega)
 simp only [wantB] at h0 h1 h2 h3
 simp only [okLine, h0, h1, h2, h3, Bool.and_self]
theorem wantB_bad {b : Int} {l : S37} {j : Nat} (hj : j < 4) (h : wantB b l j = false) : okLine b l = false := by
 have : j = 0 ∨ j = 1 ∨ j = 2 ∨ j = 3 := by omega
 rcases this with rfl | rfl | rfl | rfl <;> simp only [wantB] at h <;> simp [okLine, h]
def wantFn (h : Nat) : Nat → Value
 | 0 => .func (.func 109) #[] #[.pointer (some ⟨h + 1, 0, none⟩)]
 | 1 => .func (.func 110) #[] #[]
 | 2 => .func (.func 111) #[] #[]
 | _ => .func (.func 112) #[] #[]
set_option maxRecDepth 100000 in
set_option maxHeartbeats 4000000 in
theorem nCheck.calls (a0_0 : Int) (A0_1 : Option Addr) (c0_1 : Nat) (l0_1 : List (S37)) (r : Int) (w : World) (hr0_1 : Kd.C k37 w A0_1 l0_1.length l0_1) (hc0_1 : l0_1.length ≤ c0_1) (h : nCheck.f a0_0 l0_1 = some r) :
  Calls Try.prog 35 #[.agg #[.int .i64 a0_0, .slice A0_1 l0_1.length c0_1]] w fun e w' => e = .returned (.int .i64 r) ∧ Below w.heap.size w w' := by
 obtain rfl := Option.some.inj h
 have hu24 := Try.underlying24
 have hu37 := Try.underlying37
 have hb1 : Below w.heap.size w (w.alloc (.cells #[.int .i64 a0_0, .slice A0_1 l0_1.length c0_1] 24)) := (Below.refl _ _).alloc (Nat.le_refl _) _
 have HB := Lib.hid hb1
 clear hb1
 by_cases h1 : a0_0 < 1
 ·have e1 : chk a0_0 l0_1 = 1 := by unfold chk; rw [if_pos (by omega)]
  have E1 := Lib.hid e1
  clear e1 h
  have q1 : decide (a0_0 < 1) = true := decide_eq_true h1
  go_enter Try.func35, Try.ntmps35
  go_wp2_with fail
  go_step3
  go_wp2_with fail
  try rw [Exit.noGoto_ret]
  go_ret
  exact ⟨by rw [E1.out]; rfl, HB.out⟩
 by_cases h2 : 6 < a0_0
 ·have e1 : chk a0_0 l0_1 = 1 := by unfold chk; rw [if_pos (by omega)]
  have E1 := Lib.hid e1
  clear e1 h
  have q1 : decide (a0_0 < 1) = false := decide_eq_false h1
  have q2 : decide (6 < a0_0) = true := decide_eq_true h2
  go_enter Try.func35, Try.ntmps35
  go_wp2_with fail
  go_step3
  go_wp2_with fail
  try rw [Exit.noGoto_ret]
  go_ret
  exact ⟨by rw [E1.out]; rfl, HB.out⟩
 by_cases h3 : 10 < l0_1.length
 ·have e1 : chk a0_0 l0_1 = 5 := by unfold chk; rw [if_neg (by omega), if_pos h3]
  have E1 := Lib.hid e1
  clear e1 h
  have h3i : (10 : Int) < (l0_1.length : Int) := by omega
  have q1 : decide (a0_0 < 1) = false := decide_eq_false h1
  have q2 : decide (6 < a0_0) = false := decide_eq_false h2
  have q3 : decide (10 < l0_1.length) = true := decide_eq_true h3
  go_enter Try.func35, Try.ntmps35
  go_wp2_with fail
  go_step3
  go_wp2_with fail
  try rw [Exit.noGoto_ret]
  go_ret
  exact ⟨by rw [E1.out]; rfl, HB.out⟩
 have e1 : chk a0_0 l0_1 = if l0_1.all (okLine a0_0) then 0 else 1 := by unfold chk; rw [if_neg (by omega), if_neg h3]
 have E1 := Lib.hid e1
 clear e1 h
 have HR := Lib.hid hr0_1
 clear hr0_1
 have q1 : decide (a0_0 < 1) = false := decide_eq_false h1
 have q2 : decide (6 < a0_0) = false := decide_eq_false h2
 have q3 : decide (10 < l0_1.length) = false := decide_eq_false h3
 go_enter Try.func35, Try.ntmps35
 go_wp2_with fail
 go_step3
 go_wp2_with (go_at_call 86; refine (wants_calls _ _).mono ?_; rintro e w1 ⟨rfl, hb1, hs1, k0, k1, k2⟩; have H1 := Lib.hid hb1; have H2 := Lib.hid hs1; have K0 := Lib.hid k0; have K1 := Lib.hid k1; have K2 := Lib.hid k2; clear hb1 hs1 k0 k1 k2; have hcz1 : w1.cell? ⟨w.heap.size, 1, none⟩ = some (.slice A0_1 l0_1.length c0_1) := (by simp at H1; exact (kC (H1.out.block _ (by simp) |>.trans (heap_alloc_new w _)) 1).trans rfl))
 go_step3
 go_wp2_with fail
 have hq1 : Below w.heap.size w w1 := HB.out.trans (by have := H1.out; simp at this; exact this.mono (by omega))
 have HQ1 := Lib.hid hq1
 clear hq1
 go_loopg [2, 28] l0_1.length (fun k v2 v28 w' => ∃ i : Nat, i ≤ l0_1.length ∧ v2 = .int .i64 0 ∧ v28 = .int .i64 i ∧ Hid (k = l0_1.length - i ∧ ∀ l ∈ l0_1.take i, okLine a0_0 l = true) ∧ Hid (Below w1.heap.size w1 w'))
 case atStart => exact ⟨0, Nat.zero_le _, rfl, rfl, ⟨by simp, by simp⟩, Below.refl _ _⟩
 case round =>
  obtain ⟨i, hi, rfl, rfl, HG, HW⟩ := hrel
  obtain ⟨gq, rfl⟩ : ∃ gq : Nat, gq = gk := ⟨_, rfl⟩
  obtain ⟨wq, rfl⟩ : ∃ wq : World, wq = wr := ⟨_, rfl⟩
  by_cases hlt : i < l0_1.length
  ·have hli : (i : Int) < (l0_1.length : Int) := by omega
   obtain ⟨ad, rfl, e0, e1, e2, e3⟩ := at_T37 HR.out (i : Int) (by omega) hli
   have hbw : Below w.heap.size w wq := HQ1.out.trans (HW.out.mono (HQ1.out.size))
   replace e0 := (hbw.cell (wlt0 w _ e0)).trans e0
   replace e1 := (hbw.cell (wlt0 w _ e1)).trans e1
   replace e2 := (hbw.cell (wlt0 w _ e2)).trans e2
   replace e3 := (hbw.cell (wlt0 w _ e3)).trans e3
   rw [Int.toNat_natCast] at e0 e1 e2 e3
   have HBW := Lib.hid hbw
   clear hbw
   obtain ⟨x, hx⟩ : ∃ x, x = rd_T37 l0_1 (i : Int) := ⟨_, rfl⟩
   rw [← hx] at e0 e1 e2 e3
   have HX := Lib.hid hx
   clear hx
   go_wp2_with fail
   have hs2 : w1.heap.size ≤ wq.heap.size := HW.out.size
   have k0 : (wq.alloc (.cells #[.int .i64 x.f0, .int .i64 x.f1, .int .i64 x.f2, .int .i64 x.f3] 37)).heap[w.heap.size + 1]? = some (.cells #[.int .i64 a0_0] 3 (0, 0)) := kA (by rw [HW.out.block _ (by have := H2.out; simp at this; omega)]; simpa using K0.out) _
   have k1 : (wq.alloc (.cells #[.int .i64 x.f0, .int .i64 x.f1, .int .i64 x.f2, .int .i64 x.f3] 37)).heap[w.heap.size + 1 + 1]? = some (.cells #[.func (.func 108) #[] #[.pointer (some ⟨w.heap.size + 1, 0, none⟩)]] 109 (0, 0)) := kA (by rw [HW.out.block _ (by have := H2.out; simp at this; omega)]; simpa using K1.out) _
   have k2 : (wq.alloc (.cells #[.int .i64 x.f0, .int .i64 x.f1, .int .i64 x.f2, .int .i64 x.f3] 37)).heap[w.heap.size + 1 + 2]? = some (.cells #[.func (.func 109) #[] #[.pointer (some ⟨w.heap.size + 1 + 1, 0, none⟩)], .func (.func 110) #[] #[], .func (.func 111) #[] #[], .func (.func 112) #[] #[]] 94 (0, 0)) := kA (by rw [HW.out.block _ (by have := H2.out; simp at this; omega)]; simpa using K2.out) _
   have k3 : (wq.alloc (.cells #[.int .i64 x.f0, .int .i64 x.f1, .int .i64 x.f2, .int .i64 x.f3] 37)).heap[wq.heap.size]? = some (.cells #[.int .i64 x.f0, .int .i64 x.f1, .int .i64 x.f2, .int .i64 x.f3] 37 (0, 0)) := heap_alloc_new wq _
   have hb2 : Below w1.heap.size w1 (wq.alloc (.cells #[.int .i64 x.f0, .int .i64 x.f1, .int .i64 x.f2, .int .i64 x.f3] 37)) := HW.out.alloc hs2 _
   have hs3 : w.heap.size + 4 ≤ wq.heap.size := by have := H2.out; simp at this; omega
   generalize hg5 : wq.heap.size = g5 at k3 hs3 ⊢
   generalize wq.alloc (.cells #[.int .i64 x.f0, .int .i64 x.f1, .int .i64 x.f2, .int .i64 x.f3] 37) = w2 at k0 k1 k2 k3 hb2 ⊢
   have HB2 := Lib.hid hb2
   have J0 := Lib.hid k0
   have J1 := Lib.hid k1
   have J2 := Lib.hid k2
   have J3 := Lib.hid k3
   clear hb2 k0 k1 k2 k3 e0 e1 e2 e3 hg5 hs2
   go_loopg [2, 34] 4 (fun m v2 v34 w' => ∃ j : Nat, j ≤ 4 ∧ v2 = .int .i64 0 ∧ v34 = .int .i64 j ∧ Hid (m = 4 - j ∧ ∀ q, q < j → wantB a0_0 x q = true) ∧ Hid (Below w2.heap.size w2 w'))
   case atStart => exact ⟨0, by omega, rfl, rfl, ⟨by simp, fun q hq => absurd hq (by omega)⟩, Below.refl _ _⟩
   case round =>
    obtain ⟨j, hj, rfl, rfl, HJ, HV⟩ := hrel
    have hsv : w2.heap.size ≤ wr.heap.size := HV.out.size
    have hg2 : g5 < w2.heap.size := blk_lt J3.out
    have k0 : wr.heap[w.heap.size + 1]? = some (.cells #[.int .i64 a0_0] 3 (0, 0)) := by rw [HV.out.block _ (blk_lt J0.out)]; exact J0.out
    have k1 : wr.heap[w.heap.size + 1 + 1]? = some (.cells #[.func (.func 108) #[] #[.pointer (some ⟨w.heap.size + 1, 0, none⟩)]] 109 (0, 0)) := by rw [HV.out.block _ (blk_lt J1.out)]; exact J1.out
    have k2 : wr.heap[w.heap.size + 1 + 2]? = some (.cells #[.func (.func 109) #[] #[.pointer (some ⟨w.heap.size + 1 + 1, 0, none⟩)], .func (.func 110) #[] #[], .func (.func 111) #[] #[], .func (.func 112) #[] #[]] 94 (0, 0)) := by rw [HV.out.block _ (blk_lt J2.out)]; exact J2.out
    have k3 : wr.heap[g5]? = some (.cells #[.int .i64 x.f0, .int .i64 x.f1, .int .i64 x.f2, .int .i64 x.f3] 37 (0, 0)) := by rw [HV.out.block _ hg2]; exact J3.out
    have L0 := Lib.hid k0
    have L1 := Lib.hid k1
    have L2 := Lib.hid k2
    have x0 : wr.cell? ⟨g5, 0, none⟩ = some (.int .i64 x.f0) := (kC k3 0).trans rfl
    have x1 : wr.cell? ⟨g5, 1, none⟩ = some (.int .i64 x.f1) := (kC k3 1).trans rfl
    have x2 : wr.cell? ⟨g5, 2, none⟩ = some (.int .i64 x.f2) := (kC k3 2).trans rfl
    have x3 : wr.cell? ⟨g5, 3, none⟩ = some (.int .i64 x.f3) := (kC k3 3).trans rfl
    clear k0 k1 k2 k3
    have hgr : g5 < wr.heap.size := by omega
    by_cases hjl : j < 4
    ·have : j = 0 ∨ j = 1 ∨ j = 2 ∨ j = 3 := by omega
     rcases this with rfl | rfl | rfl | rfl
     ·have hcell : wr.cell? ⟨w.heap.size + 1 + 2, 0, none⟩ = some (.func (.func 109) #[] #[.pointer (some ⟨w.heap.size + 1 + 1, 0, none⟩)]) := (kC L2.out 0).trans rfl
      have y0 : wr.cell? ⟨w.heap.size + 1, 0, none⟩ = some (.int .i64 a0_0) := (kC L0.out 0).trans rfl
      have y1 : wr.cell? ⟨w.heap.size + 1 + 1, 0, none⟩ = some (.func (.func 108) #[] #[.pointer (some ⟨w.heap.size + 1, 0, none⟩)]) := (kC L1.out 0).trans rfl
      generalize hc : wantB a0_0 x 0 = c at HJ
      have HCC := Lib.hid hc
      cases c with
      | true =>
       have hcc : decide (0 ≤ x.f0 ∧ x.f0 < a0_0 ∧ 0 ≤ x.f1 ∧ x.f1 < a0_0) = true := hc
       clear hc
       go_wp2_with (go_at_call 109; refine (wants2_calls a0_0 (w.heap.size + 1 + 1) (w.heap.size + 1) x _ ((cell_alloc_ _ y1)) ((cell_alloc_ _ y0))).mono ?_; rintro e w5 ⟨rfl, hb5⟩; have HB5 := Lib.hid hb5; clear hb5)
       go_roundg (4 - (0 + 1))
       case measure => have := HJ.out.1; omega
       case rel => exact ⟨0 + 1, by omega, rfl, by go_num, ⟨by omega, fun q hq => by
         rcases Nat.lt_succ_iff_lt_or_eq.1 hq with h | rfl
         ·exact HJ.out.2 q h
         ·exact HCC.out⟩, HV.out.trans (((Below.refl w2.heap.size wr).alloc hsv _).trans (HB5.out.mono (by simp; omega)))⟩
      | false =>
       have hcc : decide (0 ≤ x.f0 ∧ x.f0 < a0_0 ∧ 0 ≤ x.f1 ∧ x.f1 < a0_0) = false := hc
       clear hc
       go_wp2_with (go_at_call 109; refine (wants2_calls a0_0 (w.heap.size + 1 + 1) (w.heap.size + 1) x _ ((cell_alloc_ _ y1)) ((cell_alloc_ _ y0))).mono ?_; rintro e w5 ⟨rfl, hb5⟩; have HB5 := Lib.hid hb5; clear hb5)
       try rw [Exit.noGoto_ret]
       go_ret
       refine ⟨by rw [E1.out, if_neg (by rw [not_all_of hlt (by rw [← HX.out]; exact wantB_bad (j := 0) (by omega) HCC.out)]; simp)]; rfl, ?_⟩
       exact HQ1.out.trans ((HB2.out.trans ((HV.out.trans (((Below.refl w2.heap.size wr).alloc hsv _).trans (HB5.out.mono (by simp; omega)))).mono HB2.out.size)).mono HQ1.out.size)
     ·have hcell : wr.cell? ⟨w.heap.size + 1 + 2, 1, none⟩ = some (.func (.func 110) #[] #[]) := (kC L2.out 1).trans rfl
      generalize hc : wantB a0_0 x 1 = c at HJ
      have HCC := Lib.hid hc
      cases c with
      | true =>
       have hcc : (x.f0 != x.f1) = true := hc
       clear hc
       go_wp2_with (go_at_call 110; refine (wants3_calls x _).mono ?_; rintro e w5 ⟨rfl, hb5⟩; have HB5 := Lib.hid hb5; clear hb5)
       go_roundg (4 - (1 + 1))
       case measure => have := HJ.out.1; omega
       case rel => exact ⟨1 + 1, by omega, rfl, by go_num, ⟨by omega, fun q hq => by
         rcases Nat.lt_succ_iff_lt_or_eq.1 hq with h | rfl
         ·exact HJ.out.2 q h
         ·exact HCC.out⟩, HV.out.trans (((Below.refl w2.heap.size wr).alloc hsv _).trans (HB5.out.mono (by simp; omega)))⟩
      | false =>
       have hcc : (x.f0 != x.f1) = false := hc
       clear hc
       go_wp2_with (go_at_call 110; refine (wants3_calls x _).mono ?_; rintro e w5 ⟨rfl, hb5⟩; have HB5 := Lib.hid hb5; clear hb5)
       try rw [Exit.noGoto_ret]
       go_ret
       refine ⟨by rw [E1.out, if_neg (by rw [not_all_of hlt (by rw [← HX.out]; exact wantB_bad (j := 1) (by omega) HCC.out)]; simp)]; rfl, ?_⟩
       exact HQ1.out.trans ((HB2.out.trans ((HV.out.trans (((Below.refl w2.heap.size wr).alloc hsv _).trans (HB5.out.mono (by simp; omega)))).mono HB2.out.size)).mono HQ1.out.size)
     ·have hcell : wr.cell? ⟨w.heap.size + 1 + 2, 2, none⟩ = some (.func (.func 111) #[] #[]) := (kC L2.out 2).trans rfl
      generalize hc : wantB a0_0 x 2 = c at HJ
      have HCC := Lib.hid hc
      cases c with
      | true =>
       have hcc : decide (1 ≤ x.f2 ∧ x.f2 ≤ 1000) = true := hc
       clear hc
       go_wp2_with (go_at_call 111; refine (wants4_calls x _).mono ?_; rintro e w5 ⟨rfl, hb5⟩; have HB5 := Lib.hid hb5; clear hb5)
       go_roundg (4 - (2 + 1))
       case measure => have := HJ.out.1; omega
       case rel => exact ⟨2 + 1, by omega, rfl, by go_num, ⟨by omega, fun q hq => by
         rcases Nat.lt_succ_iff_lt_or_eq.1 hq with h | rfl
         ·exact HJ.out.2 q h
         ·exact HCC.out⟩, HV.out.trans (((Below.refl w2.heap.size wr).alloc hsv _).trans (HB5.out.mono (by simp; omega)))⟩
      | false =>
       have hcc : decide (1 ≤ x.f2 ∧ x.f2 ≤ 1000) = false := hc
       clear hc
       go_wp2_with (go_at_call 111; refine (wants4_calls x _).mono ?_; rintro e w5 ⟨rfl, hb5⟩; have HB5 := Lib.hid hb5; clear hb5)
       try rw [Exit.noGoto_ret]
       go_ret
       refine ⟨by rw [E1.out, if_neg (by rw [not_all_of hlt (by rw [← HX.out]; exact wantB_bad (j := 2) (by omega) HCC.out)]; simp)]; rfl, ?_⟩
       exact HQ1.out.trans ((HB2.out.trans ((HV.out.trans (((Below.refl w2.heap.size wr).alloc hsv _).trans (HB5.out.mono (by simp; omega)))).mono HB2.out.size)).mono HQ1.out.size)
     ·have hcell : wr.cell? ⟨w.heap.size + 1 + 2, 3, none⟩ = some (.func (.func 112) #[] #[]) := (kC L2.out 3).trans rfl
      generalize hc : wantB a0_0 x 3 = c at HJ
      have HCC := Lib.hid hc
      cases c with
      | true =>
       have hcc : decide (0 ≤ x.f3 ∧ x.f3 ≤ 1000000) = true := hc
       clear hc
       go_wp2_with (go_at_call 112; refine (wants5_calls x _).mono ?_; rintro e w5 ⟨rfl, hb5⟩; have HB5 := Lib.hid hb5; clear hb5)
       go_roundg (4 - (3 + 1))
       case measure => have := HJ.out.1; omega
       case rel => exact ⟨3 + 1, by omega, rfl, by go_num, ⟨by omega, fun q hq => by
         rcases Nat.lt_succ_iff_lt_or_eq.1 hq with h | rfl
         ·exact HJ.out.2 q h
         ·exact HCC.out⟩, HV.out.trans (((Below.refl w2.heap.size wr).alloc hsv _).trans (HB5.out.mono (by simp; omega)))⟩
      | false =>
       have hcc : decide (0 ≤ x.f3 ∧ x.f3 ≤ 1000000) = false := hc
       clear hc
       go_wp2_with (go_at_call 112; refine (wants5_calls x _).mono ?_; rintro e w5 ⟨rfl, hb5⟩; have HB5 := Lib.hid hb5; clear hb5)
       try rw [Exit.noGoto_ret]
       go_ret
       refine ⟨by rw [E1.out, if_neg (by rw [not_all_of hlt (by rw [← HX.out]; exact wantB_bad (j := 3) (by omega) HCC.out)]; simp)]; rfl, ?_⟩
       exact HQ1.out.trans ((HB2.out.trans ((HV.out.trans (((Below.refl w2.heap.size wr).alloc hsv _).trans (HB5.out.mono (by simp; omega)))).mono HB2.out.size)).mono HQ1.out.size)
    ·obtain rfl : j = 4 := by omega
     go_wp2_with fail
     go_roundg (l0_1.length - (i + 1))
     case measure => have := HG.out.1; omega
     case rel => exact ⟨i + 1, by omega, rfl, by go_num, ⟨rfl, all_take_succ hlt HG.out.2 (by rw [← HX.out]; exact wantB_ok HJ.out.2)⟩, HB2.out.trans (HV.out.mono HB2.out.size)⟩
  ·obtain rfl : i = l0_1.length := by omega
   have q4 : decide ((l0_1.length : Int) < (l0_1.length : Int)) = false := decide_eq_false (by omega)
   go_wp2_with fail
   try rw [Exit.noGoto_ret]
   go_ret
   refine ⟨by rw [E1.out, if_pos (by have := HG.out.2; rw [List.take_length] at this; exact List.all_eq_true.2 this)]; rfl, HQ1.out.trans (HW.out.mono HQ1.out.size)⟩
def nOuts.f (k : Nat) (a0_0 : Int) (l0_1 : List (S37)) (l1 : List Int) : Option (Int) := (nCheck.f a0_0 l0_1).bind fun t105 => (if t105 = 0 then ((nrises.f k l1).bind fun t106 => (if t106 = true then (if (l1.length : Int) > 0 then (if 0 ≤ (wrap64 ((l1.length : Int) - 1)) then (if (wrap64 ((l1.length : Int) - 1)) < (l1.length : Int) then (if (rd l1 (wrap64 ((l1.length : Int) - 1))) ≥ (l0_1.length : Int) then (some 1) else (some 0)) else (none)) else (none)) else (some 0)) else (some 1))) else (some t105))
set_option maxHeartbeats 8000000 in
set_option maxRecDepth 100000 in
theorem nOuts.calls (k : Nat) (a0_0 : Int) (A0_1 : Option Addr) (c0_1 : Nat) (l0_1 : List (S37)) (A1 : Option Addr) (c1 : Nat) (l1 : List Int) (r : Int) (w : World) (hr0_1 : Kd.C k37 w A0_1 l0_1.length l0_1) (hc0_1 : l0_1.length ≤ c0_1) (hr1 : Kd.C (Kd.int .i64) w A1 l1.length l1) (hc1 : l1.length ≤ c1) (h : nOuts.f k a0_0 l0_1 l1 = some r) :
  Calls Try.prog 31 #[.agg #[.int .i64 a0_0, .slice A0_1 l0_1.length c0_1], .slice A1 l1.length c1] w fun e w' => e = .returned (.int .i64 r) ∧ Below w.heap.size w w' := by
 have hu24 := Try.underlying24
 have HR0_1 := Z0.mk hr0_1
 have HC0_1 := Z0.mk hc0_1
 clear hr0_1 hc0_1
 have HR1 := Z0.mk hr1
 have HC1 := Z0.mk hc1
 clear hr1 hc1
 have HB := Z0.mk (Below.refl w.heap.size w)
 have H : ((nCheck.f a0_0 l0_1).bind fun t105 => (if t105 = 0 then ((nrises.f k l1).bind fun t106 => (if t106 = true then (if (l1.length : Int) > 0 then (if 0 ≤ (wrap64 ((l1.length : Int) - 1)) then (if (wrap64 ((l1.length : Int) - 1)) < (l1.length : Int) then (if (rd l1 (wrap64 ((l1.length : Int) - 1))) ≥ (l0_1.length : Int) then (some 1) else (some 0)) else (none)) else (none)) else (some 0)) else (some 1))) else (some t105))) = some r := h
 clear h
 replace H := Option.bind_eq_some_iff.mp H
 obtain ⟨t105, A30, H⟩ := H
 replace H : (if t105 = 0 then ((nrises.f k l1).bind fun t106 => (if t106 = true then (if (l1.length : Int) > 0 then (if 0 ≤ (wrap64 ((l1.length : Int) - 1)) then (if (wrap64 ((l1.length : Int) - 1)) < (l1.length : Int) then (if (rd l1 (wrap64 ((l1.length : Int) - 1))) ≥ (l0_1.length : Int) then (some 1) else (some 0)) else (none)) else (none)) else (some 0)) else (some 1))) else (some t105)) = some r := H
 have A3 := Z0.mk A30
 clear A30
 by_cases c4 : t105 = 0
 ·rw [if_pos c4] at H
  have c4b0 : (t105 == 0) = true := beq_iff_eq.mpr c4
  have c4b1 : (t105 != 0) = false := bne_eq_false_iff_eq.mpr c4
  clear c4
  replace H := Option.bind_eq_some_iff.mp H
  obtain ⟨t106, A50, H⟩ := H
  replace H : (if t106 = true then (if (l1.length : Int) > 0 then (if 0 ≤ (wrap64 ((l1.length : Int) - 1)) then (if (wrap64 ((l1.length : Int) - 1)) < (l1.length : Int) then (if (rd l1 (wrap64 ((l1.length : Int) - 1))) ≥ (l0_1.length : Int) then (some 1) else (some 0)) else (none)) else (none)) else (some 0)) else (some 1)) = some r := H
  have A5 := Z0.mk A50
  clear A50
  by_cases c6 : t106 = true
  ·subst c6
   have H1 : (if (l1.length : Int) > 0 then (if 0 ≤ (wrap64 ((l1.length : Int) - 1)) then (if (wrap64 ((l1.length : Int) - 1)) < (l1.length : Int) then (if (rd l1 (wrap64 ((l1.length : Int) - 1))) ≥ (l0_1.length : Int) then (some 1) else (some 0)) else (none)) else (none)) else (some 0)) = some r := by rw [if_pos rfl] at H; exact H
   clear H
   have H := H1
   clear H1
   by_cases c7 : (l1.length : Int) > 0
   ·rw [if_pos c7] at H
    have c7b0 : decide (0 < (l1.length : Int)) = true := decide_eq_true c7
    have c7b1 : decide (0 < l1.length) = true := decide_eq_true (by omega)
    clear c7
    obtain ⟨ji8, hji8⟩ : ∃ j_ : Int, (wrap64 ((l1.length : Int) - 1)) = j_ := ⟨_, rfl⟩
    replace H : (if 0 ≤ (ji8) then (if (ji8) < (l1.length : Int) then (if (rd l1 (ji8)) ≥ (l0_1.length : Int) then (some 1) else (some 0)) else (none)) else (none)) = some r := by first | (rw [hji8] at H; exact H) | (simp only [hji8] at H ⊢; exact H)
    (try rw [hji8] at A3)
    (try rw [hji8] at A5)
    have hji8w : (IntKind.i64.wrap ((l1.length : Int) - 1)) = ji8 := (i64_w _).trans hji8
    by_cases c9 : 0 ≤ (ji8)
    ·rw [if_pos c9] at H
     have c9b0 : decide (0 ≤ (ji8)) = true := decide_eq_true c9
     clear c9
     by_cases c10 : (ji8) < (l1.length : Int)
     ·rw [if_pos c10] at H
      have c10b0 : decide ((ji8) < (l1.length : Int)) = true := decide_eq_true c10
      clear c10
      by_cases c11 : (rd l1 (ji8)) ≥ (l0_1.length : Int)
      ·rw [if_pos c11] at H
       have c11b0 : decide ((l0_1.length : Int) ≤ (rd l1 (ji8))) = true := decide_eq_true c11
       clear c11
       obtain rfl := Option.some.inj H
       go_enter Try.func31, Try.ntmps31
       go_wp2_with (first | ((with_reducible refine gate_dst (N := 2) rfl ?_); (try (refine gG (by rfl) ?_; dsimp only)); refine bE ?hg (N := 2) ?hd (cs := #[.int .i64 a0_0, .slice A0_1 l0_1.length c0_1]) (t := 24) ?hr ?_; (case hd => rfl); (case hg => rfl); (case hr => first | (go_simp; done) | (go_simp; rfl)); intro gb104 hg w12 hbox hb; have n0_ := Z0.mk (bT (by repeat (first | (with_reducible first | exact HB.out | apply below_alloc | apply bN | apply bD) | exact HB.out)) hb); have n1_ := Z0.mk (hbox); have n2_ := Z0.mk ((by rw [hg]; exact (bZ (by repeat (first | (with_reducible first | exact HB.out | apply below_alloc | apply bN | apply bD) | exact HB.out))) : w.heap.size ≤ gb104)); have n3_ := Z0.mk ((by rw [hg]; exact (bZ (by repeat (first | (with_reducible first | exact HB.out | apply below_alloc | apply bN | apply bD) | exact HB.out))) : w.heap.size ≤ gb104)); clear HB; have HB := n0_; have BK104 := n1_; have GW104 := n2_; have GE104 := n3_; clear n0_ n1_ n2_ n3_; clear hb hbox hg; have hcz13_0 : w12.cell? ⟨gb104, 0, none⟩ = some (.int .i64 a0_0) := (kC BK104.out 0).trans rfl; have hcz13_1 : w12.cell? ⟨gb104, 1, none⟩ = some (.slice A0_1 l0_1.length c0_1) := (kC BK104.out 1).trans rfl; have hfz13_0 := kF BK104.out 0; have hfz13_1 := kF BK104.out 1) | (go_at_call 35; (with_reducible refine (nCheck.calls a0_0 _ _ l0_1 t105 _ ?side1 ?side2 A3.out).mono ?_); (case side1 => repeat (first | exact (Kd.C_below HR0_1.out HB.out) | (with_reducible refine Kd.C_alloc ?_ _) | (with_reducible refine Kd.C_drewN ?_ _) | (with_reducible refine Kd.C_drew ?_))); (case side2 => exact HC0_1.out); rintro e w14 ⟨rfl, hb⟩; have n0_ := Z0.mk (kB (g := gb104) (o := .cells #[.int .i64 a0_0, .slice A0_1 l0_1.length c0_1] 24 (0, 0)) (by (with_reducible repeat (first | refine kN ?_ _ | refine kD ?_ | refine kA ?_ _)); exact BK104.out) hb); have n1_ := Z0.mk (bT (by repeat (first | (with_reducible first | exact HB.out | apply below_alloc | apply bN | apply bD | refine bS ?_ GE104.out) | exact HB.out)) hb); clear BK104; clear HB; have BK104 := n0_; have HB := n1_; clear n0_ n1_; (try clear hb); (try clear hb2); (try clear hk); (try clear hi)) | (go_at_call 83; (with_reducible refine (nrises.calls k _ _ l1 true _ ?side1 ?side2 A5.out).mono ?_); (case side1 => repeat (first | exact (Kd.C_below HR1.out HB.out) | (with_reducible refine Kd.C_alloc ?_ _) | (with_reducible refine Kd.C_drewN ?_ _) | (with_reducible refine Kd.C_drew ?_))); (case side2 => exact HC1.out); rintro e w' ⟨rfl, ⟨nd, rfl⟩⟩; (try first | exact ⟨rfl, _, World.drewN_drewN _ _ _⟩ | exact ⟨rfl, _, Eq.trans (World.drewN_drewN _ _ _) (congrArg (World.drewN _) (Nat.add_assoc _ _ _))⟩); have p107 : 0 ≤ ((ji8) : Int) := of_decide_eq_true (by first | (with_reducible assumption) | assumption); have q107 : (ji8) < (l1.length : Int) := of_decide_eq_true (by first | (with_reducible assumption) | assumption); obtain ⟨ad107, e107, hx107_0⟩ := Kd.at_int HR1.out (ji8) p107 q107; cases e107; replace hx107_0 := (HB.out.cell (wlt0 w _ hx107_0)).trans hx107_0; replace p107 := eq_true p107; replace q107 := eq_true q107; have hcz15_0 : w14.cell? ⟨gb104, 0, none⟩ = some (.int .i64 a0_0) := (kC BK104.out 0).trans rfl; have hcz15_1 : w14.cell? ⟨gb104, 1, none⟩ = some (.slice A0_1 l0_1.length c0_1) := (kC BK104.out 1).trans rfl; have hfz15_0 := kF BK104.out 0; have hfz15_1 := kF BK104.out 1) | (go_quiet (first | (go_at_call 83; (with_reducible refine (nrises.calls k _ _ l1 true _ ?side1 ?side2 A5.out).mono ?_); (case side1 => repeat (first | exact (Kd.C_below HR1.out HB.out) | (with_reducible refine Kd.C_alloc ?_ _) | (with_reducible refine Kd.C_drewN ?_ _) | (with_reducible refine Kd.C_drew ?_))); (case side2 => exact HC1.out); rintro e w' ⟨rfl, ⟨nd, rfl⟩⟩; (try first | exact ⟨rfl, _, World.drewN_drewN _ _ _⟩ | exact ⟨rfl, _, Eq.trans (World.drewN_drewN _ _ _) (congrArg (World.drewN _) (Nat.add_assoc _ _ _))⟩); have p107 : 0 ≤ ((ji8) : Int) := of_decide_eq_true (by first | (with_reducible assumption) | assumption); have q107 : (ji8) < (l1.length : Int) := of_decide_eq_true (by first | (with_reducible assumption) | assumption); obtain ⟨ad107, e107, hx107_0⟩ := Kd.at_int HR1.out (ji8) p107 q107; cases e107; replace hx107_0 := (HB.out.cell (wlt0 w _ hx107_0)).trans hx107_0; replace p107 := eq_true p107; replace q107 := eq_true q107; have hcz15_0 : w14.cell? ⟨gb104, 0, none⟩ = some (.int .i64 a0_0) := (kC BK104.out 0).trans rfl; have hcz15_1 : w14.cell? ⟨gb104, 1, none⟩ = some (.slice A0_1 l0_1.length c0_1) := (kC BK104.out 1).trans rfl; have hfz15_0 := kF BK104.out 0; have hfz15_1 := kF BK104.out 1))))
       go_ret
       exact ⟨by first | rfl | (simp [errW_none, errW_some] <;> rfl) | (simp only [← hji8]; first | rfl | (simp [errW_none, errW_some] <;> rfl)) | (simp [*, errW_none, errW_some] <;> rfl), by repeat (first | (with_reducible first | exact HB.out | apply below_alloc | apply bN | apply bD | refine bS ?_ GE104.out) | exact HB.out)⟩
      ·rw [if_neg c11] at H
       have c11b0 : decide ((l0_1.length : Int) ≤ (rd l1 (ji8))) = false := decide_eq_false c11
       clear c11
       obtain rfl := Option.some.inj H
       go_enter Try.func31, Try.ntmps31
       go_wp2_with (first | ((with_reducible refine gate_dst (N := 2) rfl ?_); (try (refine gG (by rfl) ?_; dsimp only)); refine bE ?hg (N := 2) ?hd (cs := #[.int .i64 a0_0, .slice A0_1 l0_1.length c0_1]) (t := 24) ?hr ?_; (case hd => rfl); (case hg => rfl); (case hr => first | (go_simp; done) | (go_simp; rfl)); intro gb104 hg w16 hbox hb; have n0_ := Z0.mk (bT (by repeat (first | (with_reducible first | exact HB.out | apply below_alloc | apply bN | apply bD) | exact HB.out)) hb); have n1_ := Z0.mk (hbox); have n2_ := Z0.mk ((by rw [hg]; exact (bZ (by repeat (first | (with_reducible first | exact HB.out | apply below_alloc | apply bN | apply bD) | exact HB.out))) : w.heap.size ≤ gb104)); have n3_ := Z0.mk ((by rw [hg]; exact (bZ (by repeat (first | (with_reducible first | exact HB.out | apply below_alloc | apply bN | apply bD) | exact HB.out))) : w.heap.size ≤ gb104)); clear HB; have HB := n0_; have BK104 := n1_; have GW104 := n2_; have GE104 := n3_; clear n0_ n1_ n2_ n3_; clear hb hbox hg; have hcz17_0 : w16.cell? ⟨gb104, 0, none⟩ = some (.int .i64 a0_0) := (kC BK104.out 0).trans rfl; have hcz17_1 : w16.cell? ⟨gb104, 1, none⟩ = some (.slice A0_1 l0_1.length c0_1) := (kC BK104.out 1).trans rfl; have hfz17_0 := kF BK104.out 0; have hfz17_1 := kF BK104.out 1) | (go_at_call 35; (with_reducible refine (nCheck.calls a0_0 _ _ l0_1 t105 _ ?side1 ?side2 A3.out).mono ?_); (case side1 => repeat (first | exact (Kd.C_below HR0_1.out HB.out) | (with_reducible refine Kd.C_alloc ?_ _) | (with_reducible refine Kd.C_drewN ?_ _) | (with_reducible refine Kd.C_drew ?_))); (case side2 => exact HC0_1.out); rintro e w18 ⟨rfl, hb⟩; have n0_ := Z0.mk (kB (g := gb104) (o := .cells #[.int .i64 a0_0, .slice A0_1 l0_1.length c0_1] 24 (0, 0)) (by (with_reducible repeat (first | refine kN ?_ _ | refine kD ?_ | refine kA ?_ _)); exact BK104.out) hb); have n1_ := Z0.mk (bT (by repeat (first | (with_reducible first | exact HB.out | apply below_alloc | apply bN | apply bD | refine bS ?_ GE104.out) | exact HB.out)) hb); clear BK104; clear HB; have BK104 := n0_; have HB := n1_; clear n0_ n1_; (try clear hb); (try clear hb2); (try clear hk); (try clear hi)) | (go_at_call 83; (with_reducible refine (nrises.calls k _ _ l1 true _ ?side1 ?side2 A5.out).mono ?_); (case side1 => repeat (first | exact (Kd.C_below HR1.out HB.out) | (with_reducible refine Kd.C_alloc ?_ _) | (with_reducible refine Kd.C_drewN ?_ _) | (with_reducible refine Kd.C_drew ?_))); (case side2 => exact HC1.out); rintro e w' ⟨rfl, ⟨nd, rfl⟩⟩; (try first | exact ⟨rfl, _, World.drewN_drewN _ _ _⟩ | exact ⟨rfl, _, Eq.trans (World.drewN_drewN _ _ _) (congrArg (World.drewN _) (Nat.add_assoc _ _ _))⟩); have p107 : 0 ≤ ((ji8) : Int) := of_decide_eq_true (by first | (with_reducible assumption) | assumption); have q107 : (ji8) < (l1.length : Int) := of_decide_eq_true (by first | (with_reducible assumption) | assumption); obtain ⟨ad107, e107, hx107_0⟩ := Kd.at_int HR1.out (ji8) p107 q107; cases e107; replace hx107_0 := (HB.out.cell (wlt0 w _ hx107_0)).trans hx107_0; replace p107 := eq_true p107; replace q107 := eq_true q107; have hcz19_0 : w18.cell? ⟨gb104, 0, none⟩ = some (.int .i64 a0_0) := (kC BK104.out 0).trans rfl; have hcz19_1 : w18.cell? ⟨gb104, 1, none⟩ = some (.slice A0_1 l0_1.length c0_1) := (kC BK104.out 1).trans rfl; have hfz19_0 := kF BK104.out 0; have hfz19_1 := kF BK104.out 1) | (go_quiet (first | (go_at_call 83; (with_reducible refine (nrises.calls k _ _ l1 true _ ?side1 ?side2 A5.out).mono ?_); (case side1 => repeat (first | exact (Kd.C_below HR1.out HB.out) | (with_reducible refine Kd.C_alloc ?_ _) | (with_reducible refine Kd.C_drewN ?_ _) | (with_reducible refine Kd.C_drew ?_))); (case side2 => exact HC1.out); rintro e w' ⟨rfl, ⟨nd, rfl⟩⟩; (try first | exact ⟨rfl, _, World.drewN_drewN _ _ _⟩ | exact ⟨rfl, _, Eq.trans (World.drewN_drewN _ _ _) (congrArg (World.drewN _) (Nat.add_assoc _ _ _))⟩); have p107 : 0 ≤ ((ji8) : Int) := of_decide_eq_true (by first | (with_reducible assumption) | assumption); have q107 : (ji8) < (l1.length : Int) := of_decide_eq_true (by first | (with_reducible assumption) | assumption); obtain ⟨ad107, e107, hx107_0⟩ := Kd.at_int HR1.out (ji8) p107 q107; cases e107; replace hx107_0 := (HB.out.cell (wlt0 w _ hx107_0)).trans hx107_0; replace p107 := eq_true p107; replace q107 := eq_true q107; have hcz19_0 : w18.cell? ⟨gb104, 0, none⟩ = some (.int .i64 a0_0) := (kC BK104.out 0).trans rfl; have hcz19_1 : w18.cell? ⟨gb104, 1, none⟩ = some (.slice A0_1 l0_1.length c0_1) := (kC BK104.out 1).trans rfl; have hfz19_0 := kF BK104.out 0; have hfz19_1 := kF BK104.out 1))))
       go_ret
       exact ⟨by first | rfl | (simp [errW_none, errW_some] <;> rfl) | (simp only [← hji8]; first | rfl | (simp [errW_none, errW_some] <;> rfl)) | (simp [*, errW_none, errW_some] <;> rfl), by repeat (first | (with_reducible first | exact HB.out | apply below_alloc | apply bN | apply bD | refine bS ?_ GE104.out) | exact HB.out)⟩
     ·rw [if_neg c10] at H
      exact absurd H (by simp)
    ·rw [if_neg c9] at H
     exact absurd H (by simp)
   ·rw [if_neg c7] at H
    have c7b0 : decide (0 < (l1.length : Int)) = false := decide_eq_false c7
    have c7b1 : decide (0 < l1.length) = false := decide_eq_false (by omega)
    clear c7
    obtain rfl := Option.some.inj H
    go_enter Try.func31, Try.ntmps31
    go_wp2_with (first | ((with_reducible refine gate_dst (N := 2) rfl ?_); (try (refine gG (by rfl) ?_; dsimp only)); refine bE ?hg (N := 2) ?hd (cs := #[.int .i64 a0_0, .slice A0_1 l0_1.length c0_1]) (t := 24) ?hr ?_; (case hd => rfl); (case hg => rfl); (case hr => first | (go_simp; done) | (go_simp; rfl)); intro gb104 hg w20 hbox hb; have n0_ := Z0.mk (bT (by repeat (first | (with_reducible first | exact HB.out | apply below_alloc | apply bN | apply bD) | exact HB.out)) hb); have n1_ := Z0.mk (hbox); have n2_ := Z0.mk ((by rw [hg]; exact (bZ (by repeat (first | (with_reducible first | exact HB.out | apply below_alloc | apply bN | apply bD) | exact HB.out))) : w.heap.size ≤ gb104)); have n3_ := Z0.mk ((by rw [hg]; exact (bZ (by repeat (first | (with_reducible first | exact HB.out | apply below_alloc | apply bN | apply bD) | exact HB.out))) : w.heap.size ≤ gb104)); clear HB; have HB := n0_; have BK104 := n1_; have GW104 := n2_; have GE104 := n3_; clear n0_ n1_ n2_ n3_; clear hb hbox hg; have hcz21_0 : w20.cell? ⟨gb104, 0, none⟩ = some (.int .i64 a0_0) := (kC BK104.out 0).trans rfl; have hcz21_1 : w20.cell? ⟨gb104, 1, none⟩ = some (.slice A0_1 l0_1.length c0_1) := (kC BK104.out 1).trans rfl; have hfz21_0 := kF BK104.out 0; have hfz21_1 := kF BK104.out 1) | (go_at_call 35; (with_reducible refine (nCheck.calls a0_0 _ _ l0_1 t105 _ ?side1 ?side2 A3.out).mono ?_); (case side1 => repeat (first | exact (Kd.C_below HR0_1.out HB.out) | (with_reducible refine Kd.C_alloc ?_ _) | (with_reducible refine Kd.C_drewN ?_ _) | (with_reducible refine Kd.C_drew ?_))); (case side2 => exact HC0_1.out); rintro e w22 ⟨rfl, hb⟩; have n0_ := Z0.mk (kB (g := gb104) (o := .cells #[.int .i64 a0_0, .slice A0_1 l0_1.length c0_1] 24 (0, 0)) (by (with_reducible repeat (first | refine kN ?_ _ | refine kD ?_ | refine kA ?_ _)); exact BK104.out) hb); have n1_ := Z0.mk (bT (by repeat (first | (with_reducible first | exact HB.out | apply below_alloc | apply bN | apply bD | refine bS ?_ GE104.out) | exact HB.out)) hb); clear BK104; clear HB; have BK104 := n0_; have HB := n1_; clear n0_ n1_; (try clear hb); (try clear hb2); (try clear hk); (try clear hi)) | (go_at_call 83; (with_reducible refine (nrises.calls k _ _ l1 true _ ?side1 ?side2 A5.out).mono ?_); (case side1 => repeat (first | exact (Kd.C_below HR1.out HB.out) | (with_reducible refine Kd.C_alloc ?_ _) | (with_reducible refine Kd.C_drewN ?_ _) | (with_reducible refine Kd.C_drew ?_))); (case side2 => exact HC1.out); rintro e w' ⟨rfl, ⟨nd, rfl⟩⟩; (try first | exact ⟨rfl, _, World.drewN_drewN _ _ _⟩ | exact ⟨rfl, _, Eq.trans (World.drewN_drewN _ _ _) (congrArg (World.drewN _) (Nat.add_assoc _ _ _))⟩)) | (go_quiet (first | (go_at_call 83; (with_reducible refine (nrises.calls k _ _ l1 true _ ?side1 ?side2 A5.out).mono ?_); (case side1 => repeat (first | exact (Kd.C_below HR1.out HB.out) | (with_reducible refine Kd.C_alloc ?_ _) | (with_reducible refine Kd.C_drewN ?_ _) | (with_reducible refine Kd.C_drew ?_))); (case side2 => exact HC1.out); rintro e w' ⟨rfl, ⟨nd, rfl⟩⟩; (try first | exact ⟨rfl, _, World.drewN_drewN _ _ _⟩ | exact ⟨rfl, _, Eq.trans (World.drewN_drewN _ _ _) (congrArg (World.drewN _) (Nat.add_assoc _ _ _))⟩)))))
    go_ret
    exact ⟨by first | rfl | (simp [errW_none, errW_some] <;> rfl) | (simp [*, errW_none, errW_some] <;> rfl), by repeat (first | (with_reducible first | exact HB.out | apply below_alloc | apply bN | apply bD | refine bS ?_ GE104.out) | exact HB.out)⟩
  ·replace c6 := Bool.eq_false_iff.mpr c6
   subst c6
   have H1 : (some 1) = some r := by rw [if_neg (show ¬ (false = true) by decide)] at H; exact H
   clear H
   have H := H1
   clear H1
   obtain rfl := Option.some.inj H
   go_enter Try.func31, Try.ntmps31
   go_wp2_with (first | ((with_reducible refine gate_dst (N := 2) rfl ?_); (try (refine gG (by rfl) ?_; dsimp only)); refine bE ?hg (N := 2) ?hd (cs := #[.int .i64 a0_0, .slice A0_1 l0_1.length c0_1]) (t := 24) ?hr ?_; (case hd => rfl); (case hg => rfl); (case hr => first | (go_simp; done) | (go_simp; rfl)); intro gb104 hg w23 hbox hb; have n0_ := Z0.mk (bT (by repeat (first | (with_reducible first | exact HB.out | apply below_alloc | apply bN | apply bD) | exact HB.out)) hb); have n1_ := Z0.mk (hbox); have n2_ := Z0.mk ((by rw [hg]; exact (bZ (by repeat (first | (with_reducible first | exact HB.out | apply below_alloc | apply bN | apply bD) | exact HB.out))) : w.heap.size ≤ gb104)); have n3_ := Z0.mk ((by rw [hg]; exact (bZ (by repeat (first | (with_reducible first | exact HB.out | apply below_alloc | apply bN | apply bD) | exact HB.out))) : w.heap.size ≤ gb104)); clear HB; have HB := n0_; have BK104 := n1_; have GW104 := n2_; have GE104 := n3_; clear n0_ n1_ n2_ n3_; clear hb hbox hg; have hcz24_0 : w23.cell? ⟨gb104, 0, none⟩ = some (.int .i64 a0_0) := (kC BK104.out 0).trans rfl; have hcz24_1 : w23.cell? ⟨gb104, 1, none⟩ = some (.slice A0_1 l0_1.length c0_1) := (kC BK104.out 1).trans rfl; have hfz24_0 := kF BK104.out 0; have hfz24_1 := kF BK104.out 1) | (go_at_call 35; (with_reducible refine (nCheck.calls a0_0 _ _ l0_1 t105 _ ?side1 ?side2 A3.out).mono ?_); (case side1 => repeat (first | exact (Kd.C_below HR0_1.out HB.out) | (with_reducible refine Kd.C_alloc ?_ _) | (with_reducible refine Kd.C_drewN ?_ _) | (with_reducible refine Kd.C_drew ?_))); (case side2 => exact HC0_1.out); rintro e w25 ⟨rfl, hb⟩; have n0_ := Z0.mk (kB (g := gb104) (o := .cells #[.int .i64 a0_0, .slice A0_1 l0_1.length c0_1] 24 (0, 0)) (by (with_reducible repeat (first | refine kN ?_ _ | refine kD ?_ | refine kA ?_ _)); exact BK104.out) hb); have n1_ := Z0.mk (bT (by repeat (first | (with_reducible first | exact HB.out | apply below_alloc | apply bN | apply bD | refine bS ?_ GE104.out) | exact HB.out)) hb); clear BK104; clear HB; have BK104 := n0_; have HB := n1_; clear n0_ n1_; (try clear hb); (try clear hb2); (try clear hk); (try clear hi)) | (go_at_call 83; (with_reducible refine (nrises.calls k _ _ l1 false _ ?side1 ?side2 A5.out).mono ?_); (case side1 => repeat (first | exact (Kd.C_below HR1.out HB.out) | (with_reducible refine Kd.C_alloc ?_ _) | (with_reducible refine Kd.C_drewN ?_ _) | (with_reducible refine Kd.C_drew ?_))); (case side2 => exact HC1.out); rintro e w' ⟨rfl, ⟨nd, rfl⟩⟩; (try first | exact ⟨rfl, _, World.drewN_drewN _ _ _⟩ | exact ⟨rfl, _, Eq.trans (World.drewN_drewN _ _ _) (congrArg (World.drewN _) (Nat.add_assoc _ _ _))⟩)) | (go_quiet (first | (go_at_call 83; (with_reducible refine (nrises.calls k _ _ l1 false _ ?side1 ?side2 A5.out).mono ?_); (case side1 => repeat (first | exact (Kd.C_below HR1.out HB.out) | (with_reducible refine Kd.C_alloc ?_ _) | (with_reducible refine Kd.C_drewN ?_ _) | (with_reducible refine Kd.C_drew ?_))); (case side2 => exact HC1.out); rintro e w' ⟨rfl, ⟨nd, rfl⟩⟩; (try first | exact ⟨rfl, _, World.drewN_drewN _ _ _⟩ | exact ⟨rfl, _, Eq.trans (World.drewN_drewN _ _ _) (congrArg (World.drewN _) (Nat.add_assoc _ _ _))⟩)))))
   go_ret
   exact ⟨by first | rfl | (simp [errW_none, errW_some] <;> rfl) | (simp [*, errW_none, errW_some] <;> rfl), by repeat (first | (with_reducible first | exact HB.out | apply below_alloc | apply bN | apply bD | refine bS ?_ GE104.out) | exact HB.out)⟩
 ·rw [if_neg c4] at H
  have c4b0 : (t105 == 0) = false := beq_eq_false_iff_ne.mpr c4
  have c4b1 : (t105 != 0) = true := bne_iff_ne.mpr c4
  obtain rfl := Option.some.inj H
  go_enter Try.func31, Try.ntmps31
  go_wp2_with (first | ((with_reducible refine gate_dst (N := 2) rfl ?_); (try (refine gG (by rfl) ?_; dsimp only)); refine bE ?hg (N := 2) ?hd (cs := #[.int .i64 a0_0, .slice A0_1 l0_1.length c0_1]) (t := 24) ?hr ?_; (case hd => rfl); (case hg => rfl); (case hr => first | (go_simp; done) | (go_simp; rfl)); intro gb104 hg w26 hbox hb; have n0_ := Z0.mk (bT (by repeat (first | (with_reducible first | exact HB.out | apply below_alloc | apply bN | apply bD) | exact HB.out)) hb); have n1_ := Z0.mk (hbox); have n2_ := Z0.mk ((by rw [hg]; exact (bZ (by repeat (first | (with_reducible first | exact HB.out | apply below_alloc | apply bN | apply bD) | exact HB.out))) : w.heap.size ≤ gb104)); have n3_ := Z0.mk ((by rw [hg]; exact (bZ (by repeat (first | (with_reducible first | exact HB.out | apply below_alloc | apply bN | apply bD) | exact HB.out))) : w.heap.size ≤ gb104)); clear HB; have HB := n0_; have BK104 := n1_; have GW104 := n2_; have GE104 := n3_; clear n0_ n1_ n2_ n3_; clear hb hbox hg; have hcz27_0 : w26.cell? ⟨gb104, 0, none⟩ = some (.int .i64 a0_0) := (kC BK104.out 0).trans rfl; have hcz27_1 : w26.cell? ⟨gb104, 1, none⟩ = some (.slice A0_1 l0_1.length c0_1) := (kC BK104.out 1).trans rfl; have hfz27_0 := kF BK104.out 0; have hfz27_1 := kF BK104.out 1) | (go_at_call 35; (with_reducible refine (nCheck.calls a0_0 _ _ l0_1 t105 _ ?side1 ?side2 A3.out).mono ?_); (case side1 => repeat (first | exact (Kd.C_below HR0_1.out HB.out) | (with_reducible refine Kd.C_alloc ?_ _) | (with_reducible refine Kd.C_drewN ?_ _) | (with_reducible refine Kd.C_drew ?_))); (case side2 => exact HC0_1.out); rintro e w28 ⟨rfl, hb⟩; have n0_ := Z0.mk (kB (g := gb104) (o := .cells #[.int .i64 a0_0, .slice A0_1 l0_1.length c0_1] 24 (0, 0)) (by (with_reducible repeat (first | refine kN ?_ _ | refine kD ?_ | refine kA ?_ _)); exact BK104.out) hb); have n1_ := Z0.mk (bT (by repeat (first | (with_reducible first | exact HB.out | apply below_alloc | apply bN | apply bD | refine bS ?_ GE104.out) | exact HB.out)) hb); clear BK104; clear HB; have BK104 := n0_; have HB := n1_; clear n0_ n1_; (try clear hb); (try clear hb2); (try clear hk); (try clear hi)) | (go_quiet (fail)))
  go_ret
  exact ⟨by first | rfl | (simp [errW_none, errW_some] <;> rfl) | (simp [*, errW_none, errW_some] <;> rfl), by repeat (first | (with_reducible first | exact HB.out | apply below_alloc | apply bN | apply bD | refine bS ?_ GE104.out) | exact HB.out)⟩
section
section
section
variable {P : Program} {ops : Array Oper} {Q : Exit → Act → World → Prop} {md : Region.Mode}
theorem oper_in_round {l n : Nat} {o : Oper} (ho : ∀ c, o.op ≠ .defer c) {a : Act} {w : World} {K : Act → World → Prop} (h : o.wp P a w K Q) : o.wpIn (Fence.wide.inRound l) n P a w K Q := by
  refine ⟨fun _ _ => trivial, ?_⟩
  rw [Oper.semAt_eq _ _ _ ho]
  unfold Oper.wp at h
  generalize (execOp a.eval o).run P w = r at *
  have hd : (Fence.wide.inRound l).depth.isSome = true → 1 ≤ n := fun hh => by cases hh
  cases r with
  | ok x w' =>
    cases x <;> simp only [Oper.upon, Oper.uponIn] at h ⊢ <;> first
      | exact h
      | exact ⟨hd, CallsIn.inRound l (callsIn_wide.2 h)⟩
      | exact ⟨hd, fun c cs _ => let ⟨v, w', hr, hs⟩ := h c cs; ⟨v, w', hr, stepsIn_wide.2 hs⟩⟩
  | halt x w' => cases x <;> simp only [Oper.upon, Oper.uponIn] at h ⊢ <;> exact h
theorem wpOp_in_round {l n : Nat} (hno : ∀ o ∈ ops, ∀ c, o.op ≠ .defer c) (hQ : ¬ LetsOut Q) {i : Nat} {K : Act → World → Prop} {a : Act} {w : World} (h : wpOp P ops Q i K a w) : wpOpIn (Fence.wide.inRound l) n P ops Q i K a w := by
  unfold wpOp at h
  unfold wpOpIn
  split
  · rename_i ho; rw [ho] at h; exact h
  · rename_i o ho
    rw [ho] at h
    simp only [] at h
    split
    · rename_i hw
      rw [if_pos hw] at h
      rcases h with h | ⟨_, h⟩
      · exact oper_in_round (hno o (Array.mem_of_getElem? ho)) h
      · exact absurd h hQ
    · rename_i hw
      rw [if_neg hw] at h
      exact ⟨fun _ _ => trivial, h⟩
theorem wpAny_in_round {l n : Nat} (hno : ∀ o ∈ ops, ∀ c, o.op ≠ .defer c) (hQ : ¬ LetsOut Q) : ∀ (fuel : Nat) (listed : Array Bool) (a : Act) (w : World), wpAny P md ops Q fuel listed a w → wpAnyIn (Fence.wide.inRound l) n P md ops Q fuel listed a w
  | 0, _, _, _, h => h
  | fuel + 1, _, _, _, h => ⟨h.1, fun i hi => wpOpIn_mono (fun a w => wpAny_in_round hno hQ fuel _ a w) (wpOp_in_round hno hQ (h.2 i hi))⟩
theorem start_in_ {S : World → Prop} {ds : List Nat} {r n id m : Nat} {a : Act} {w : World} (l : Array Bool) (hno : ∀ o ∈ ops, ∀ c, o.op ≠ .defer c) (hQ : ¬ LetsOut Q) (hm : P.follows .mixedOrders = true) (hn : ops.size = n) (hl : Array.replicate n false = l) (hS : S w.drew)
    (h : S w.drew → wpAnyLast P .any ops Q S ds n l a w.drew) : (Code.region id ops true).wpIn (Fence.wide.inRound r) m P Q a w := by
  subst hn
  subst hl
  exact wpIn_region_any hm (wpAny_in_round hno hQ _ _ _ _ (wpAny_of_last _ _ _ _ (h hS)))
end
section
variable {P : Program} {ops : Array Oper} {o : Oper} {a : Act} {Q : Exit → Act → World → Prop} {Kc : Act → World → Prop} {α : Type}
theorem step_append_src (d : Kd α) {W : World} (base : Nat) (hw : Region.wanted o (yielded ops a.tmps) = true) (s x : Operand) (t e : TypeId) (z : Value) (bytes : Nat)
    (ho : o.op = .call { callee := .builtin .append, args := #[s, x], argTypes := #[t, t] })
    (ht : P.underlying t = some (.slice e)) (hinfo : (P.info? e).map (fun i => (i.zero, i.size, i.bytes)) = some (some z, d.sz, bytes)) (hz : z.cells.size = d.sz) (hs0 : 0 < d.sz) (hb0 : 0 < bytes)
    (v : Value) (xs : List α) (p : α) (cs : List Value) (ok okp : Nat → Prop) (ad : Addr) (c : Nat) (hs : a.eval s = v) (hx : a.eval x = .slice (some ad) 1 c) (hp : d.M W base okp p cs) (hokp : ∀ k, okp k → ok k ∧ some k ≠ v.ownBlock) (hfresh : ∀ k, W.heap.size ≤ k → ok k)
    (hcs : ∀ j u, cs[j]? = some u → W.cell? (ad.add j) = some u)
    (HO : d.R e W base ok v xs) (hbase : base ≤ W.heap.size) (hl : (xs.length + 1) * bytes ≤ 140737488355328)
    (h : ∀ v1 w1, d.R e w1 base ok v1 (xs ++ [p]) → W.grownBy w1 v.ownBlock → (v1.ownBlock = v.ownBlock ∨ v1.ownBlock = some W.heap.size) → Kc (a.put o.dst v1) w1) :
    if Region.wanted o (yielded ops a.tmps) = true then Oper.wp P o a W Kc Q else Kc (a.put o.dst undef) W := by
  obtain ⟨h0, inner, hown, hr⟩ := HO
  obtain ⟨i0, hi, hzz⟩ := Option.map_eq_some_iff.1 hinfo
  simp only [Prod.mk.injEq] at hzz
  obtain ⟨hz0, hz1, hz2⟩ := hzz
  have hlen : xs.length + 1 ≤ 140737488355328 := Nat.le_trans (Nat.le_mul_of_pos_right _ hb0) hl
  rw [if_pos hw]
  obtain ⟨v1, w1, hrun, hown1, hg, _, hat⟩ := run_append_own_at (P := P) W base t o.type e i0 z d.sz bytes ht hi hz0 hz1 hz2 hz hs0 v xs.length inner hown ad 1 c cs (by rw [d.K_len (d.K_of_M hp)]; simp) hcs (d.K_one (d.K_of_M hp)) (by simp only [maxLen]; omega) hl hbase
  unfold Oper.wp execOp
  simp only [ho, resolve, invoke, builtin, Sem.run_bind, Sem.run_pure, Result.andThen_ok, List.map_toArray, List.map_cons, List.map_nil, hs, hx, hrun]
  refine h v1 w1 (Kd.R_appended h0 hr hp hokp hfresh hown1 hg ?_) hg hat
  rcases hat with hat | hat
  · exact .inl hat
  · exact .inr ⟨_, hat, Nat.le_refl _⟩
end
theorem setCell_id {W : World} {g i : Nat} {t : TypeId} {cs : Array Value} {v : Value} (h : W.heap[g]? = some (.cells cs t (0, 0))) (hc : cs[i]? = some v) : W.setCell ⟨g, i, none⟩ v = W := by
  have e : (W.setCell ⟨g, i, none⟩ v).heap = W.heap := by
    apply Array.ext_getElem?
    intro j
    by_cases hj : j = g
    · subst hj
      have := blk_set h i v
      rw [this, h]
      have : cs.setIfInBounds i v = cs := by
        apply Array.ext_getElem?
        intro k
        rw [Array.getElem?_setIfInBounds]
        by_cases hk : i = k
        · subst hk
          rw [if_pos rfl]
          obtain ⟨hlt, _⟩ := Array.getElem?_eq_some_iff.1 hc
          rw [if_pos hlt, hc]
        · rw [if_neg hk]
      rw [this]
    · exact Below.heap_setCell W _ v j hj
  cases W
  simp only [World.setCell] at e ⊢
  rw [e]
theorem R_grown_walk {α : Type} {d : Kd α} {e base : Nat} {ok : Nat → Prop} {W W' : World} {v : Value} {xs : List α} {row : Option Nat} (hE : d.E = []) (h : d.R e W base ok v xs) (hg : W.grownBy W' row) (hr : ∀ r, row = some r → ∃ o : Obj, W.heap[r]? = some o ∧ o.isCells = false) : d.R e W' base ok v xs := by
  cases row with
  | none => exact Kd.R_grown h hg (by simp)
  | some r =>
    refine Kd.R_grown1 h hE hg ?_
    intro he
    obtain ⟨o, ho, hc⟩ := hr r rfl
    obtain ⟨cells, hcc⟩ := Kd.R_typed h r he.symm
    rw [hcc] at ho; cases ho; cases hc
end
section
attribute [local go_sem] Oper.semAt_some
def insF (fnd : Nat → Bool) (L : List S37) (k : Nat) : List (Nat × S37) := ((List.range k).filter (fun j => !fnd j)).map (fun j => (j, rd_T37 L (j : Int)))
theorem insF_succ_in {fnd : Nat → Bool} {L : List S37} {k : Nat} (h : fnd k = false) : insF fnd L (k + 1) = insF fnd L k ++ [(k, rd_T37 L (k : Int))] := by
  simp [insF, List.range_succ, List.filter_append, h]
theorem insF_succ_out {fnd : Nat → Bool} {L : List S37} {k : Nat} (h : fnd k = true) : insF fnd L (k + 1) = insF fnd L k := by
  simp [insF, List.range_succ, List.filter_append, h]
theorem insF_length {fnd : Nat → Bool} {L : List S37} (k : Nat) : (insF fnd L k).length ≤ k := by
  simp only [insF, List.length_map]
  exact Nat.le_trans (List.length_filter_le _ _) (by simp)
def encL (x : Nat × S37) : Array Value := #[.int .i64 (x.1 : Int), .agg #[.int .i64 x.2.f0, .int .i64 x.2.f1, .int .i64 x.2.f2, .int .i64 x.2.f3]]
def KpS (S : Nat → Prop) (W W' : World) : Prop := ∀ i, S i → W'.heap[i]? = W.heap[i]?
theorem KpS_lt {S : Nat → Prop} {w0 W : World} (h : ∀ i, S i → i < w0.heap.size) (hk : KpS S w0 W) : ∀ i, S i → i < W.heap.size := fun i hi => by
  have e := hk i hi
  rw [Array.getElem?_eq_getElem (h i hi)] at e
  exact (Array.getElem?_eq_some_iff.1 e).1
set_option maxRecDepth 100000 in
set_option maxHeartbeats 4000000 in
theorem in_iter (S : Nat → Prop) (w0 : World) (bn bo : Nat) (a0 : Int) (A0 : Option Addr) (c0 : Nat) (L : List S37) (A1 : Option Addr) (c1 : Nat) (out : List Int) (fnd : Nat → Bool)
    (hlen : L.length ≤ 100) (hlen2 : L.length ≤ c0)
    (hf : ∀ k, k < L.length → ∃ kk r, sBinarySearch.f kk out (k : Int) = some (r, fnd k))
    (hSn : S bn) (hSo : S bo) (hco : out.length ≤ c1)
    (hbn : ∀ W, KpS S w0 W → W.heap[bn]? = some (.cells #[.int .i64 a0, .slice A0 L.length c0] 24 (0, 0)))
    (hbo : ∀ W, KpS S w0 W → W.heap[bo]? = some (.cells #[.slice A1 out.length c1] 25 (0, 0)))
    (hL : ∀ W, KpS S w0 W → Kd.C k37 W A0 L.length L) (hout : ∀ W, KpS S w0 W → Kd.C (Kd.int .i64) W A1 out.length out)
    (l : Nat) (J Jx : List (Nat × S37) → World → Prop) (W : World) (hKW : KpS S w0 W)
    (hSlt : ∀ i, S i → i < w0.heap.size)
    (hJ : AbidesFrom W.heap.size J)
    (hY : ∀ pre x W1, J pre W1 → pre.length < L.length → YieldAt Fence.wide 1 Try.prog l (encL x) W1 fun e W' =>
      (e = .returned (.bool true) ∧ J (pre ++ [x]) W' ∧ KpS S W1 W') ∨ (e = .returned (.bool false) ∧ Jx (pre ++ [x]) W'))
    (h0 : J [] W) :
    CallsIn Fence.wide 2 Try.prog 106 (#[.func (.yield l) #[] #[]] ++ #[.pointer (some ⟨bn, 0, none⟩), .pointer (some ⟨bo, 0, none⟩)]) W fun e W' => (∃ v, e = .returned v) ∧
      ((∃ xs, xs = insF fnd L L.length ∧ J xs W') ∨ (∃ pre, True ∧ Jx pre W')) := by
  refine callsIn_of_wp Try.func106 rfl trivial ?_ rfl
  simp only [Try.ntmps106, List.size_toArray, List.length_cons, List.length_nil, Nat.reduceAdd, Nat.reduceSub, Array.replicate_succ, Array.replicate_zero, List.push_toArray, List.append_toArray, List.nil_append, List.cons_append]
  have hu24 := Try.underlying24
  have hu37 := Try.underlying37
  have x0 : W.cell? ⟨bn, 1, none⟩ = some (.slice A0 L.length c0) := (kC (hbn W hKW) 1).trans rfl
  have HN := Lib.hid hbn
  have HO := Lib.hid hbo
  have HL := Lib.hid hL
  have HOUT := Lib.hid hout
  have HF := Lib.hid hf
  have HJ := Lib.hid hJ
  have HY := Lib.hid hY
  have HKW := Lib.hid hKW
  have HLT := Lib.hid hSlt
  clear hbn hbo hL hout hf hJ hY hKW hSlt
  have H0 := Lib.hid h0
  clear h0
  gi_wp2
  gi_loopw [11] (fun i wr => ∃ k : Nat, k ≤ L.length ∧ i = .int .i64 k ∧ Hid (J (insF fnd L k) wr ∧ KpS S w0 wr)) (fun i _ => L.length - (intOf i).toNat)
  case atStart => exact ⟨0, Nat.zero_le _, rfl, H0.out, HKW.out⟩
  case round =>
    obtain ⟨k, hk, rfl, HR⟩ := hrel
    by_cases hlt : k < L.length
    · have hlt2 : (k : Int) < (L.length : Int) := by omega
      obtain ⟨ad, rfl, e0, e1, e2, e3⟩ := at_T37 (HL.out wr HR.out.2) (k : Int) (by omega) hlt2
      rw [Int.toNat_natCast] at e0 e1 e2 e3
      have y0 : wr.cell? ⟨bo, 0, none⟩ = some (.slice A1 out.length c1) := (kC (HO.out wr HR.out.2) 0).trans rfl
      obtain ⟨x, hx⟩ : ∃ x, x = rd_T37 L (k : Int) := ⟨_, rfl⟩
      rw [← hx] at e0 e1 e2 e3
      have HX := Lib.hid hx
      clear hx
      have hbo : bo < wr.heap.size := wlt0 wr _ y0
      obtain ⟨kk, r, hsr⟩ := HF.out k hlt
      have HSR := Lib.hid hsr
      clear hsr
      have hz := Lib.hid (fun o => (HOUT.out wr HR.out.2).imp_ ((Below.refl _ _).alloc (Nat.le_refl _) o) (fun _ _ hp => (Kd.int .i64).K_below ((Below.refl _ _).alloc (Nat.le_refl _) o) hp) : ∀ o, Kd.C (Kd.int .i64) (wr.alloc o) A1 out.length out)
      generalize hfk : fnd k = fk at HSR
      have HFK := Lib.hid hfk
      clear hfk
      have hJB : ∀ o nd, J (insF fnd L k) ((wr.alloc o).drewN nd) := fun o nd => HJ.out _ wr _ none HR.out.1 (grown_of_below (bN (below_alloc (Below.refl _ _) o) nd) none) (fun r h => by cases h)
      have HJB := Lib.hid hJB
      clear hJB
      have hKP : ∀ o nd, KpS S w0 ((wr.alloc o).drewN nd) := fun o nd i hi => ((below_alloc (Below.refl _ _) o).block i (KpS_lt HLT.out HR.out.2 i hi)).trans (HR.out.2 i hi)
      have HKP := Lib.hid hKP
      clear hKP
      cases fk with
      | true =>
        gi_wp2_with (refine ⟨trivial, ?_⟩; gi_at_call 107; refine (callsIn_wide.2 (sBinarySearch.calls kk _ _ out _ r _ _ (hz.out _) hco HSR.out)).mono ?_; rintro e w5 ⟨rfl, ⟨⟨nd, rfl⟩⟩⟩)
        refine ⟨fun _ h => (by cases h), ?_⟩
        gi_wp2
        go_roundw
        case rel => exact ⟨k + 1, by omega, by go_num, by rw [insF_succ_out HFK.out]; exact HJB.out _ nd, HKP.out _ nd⟩
        case measure => simp [intOf]; omega
      | false =>
        gi_wp2_with (refine ⟨trivial, ?_⟩; gi_at_call 107; refine (callsIn_wide.2 (sBinarySearch.calls kk _ _ out _ r _ _ (hz.out _) hco HSR.out)).mono ?_; rintro e w5 ⟨rfl, ⟨⟨nd, rfl⟩⟩⟩; obtain ⟨fn, tmps, assign, body, hy, hRo⟩ := HY.out (insF fnd L k) (k, x) _ (HJB.out (.cells #[.int .i64 x.f0, .int .i64 x.f1, .int .i64 x.f2, .int .i64 x.f3] 37) nd) (Nat.lt_of_le_of_lt (insF_length k) hlt); dsimp only [encL] at hy; have HRO := Lib.hid hRo; clear hRo)
        refine HRO.out.mono ?_
        rintro e W3 (⟨rfl, hJ3, hk3⟩ | ⟨rfl, hJx3⟩)
        · have HJ3 := Lib.hid hJ3
          have HK3 := Lib.hid hk3
          clear hJ3 hk3
          gi_wp2
          go_roundw
          case rel => exact ⟨k + 1, by omega, by go_num, by rw [insF_succ_in HFK.out, ← HX.out]; exact HJ3.out, fun i hi => (HK3.out i hi).trans (HKP.out _ nd i hi)⟩
          case measure => simp [intOf]; omega
        · have HJ3 := Lib.hid hJx3
          clear hJx3
          gi_wp2
          refine bodyPost_ret (results_none rfl _ _ _) rfl ?_
          exact ⟨⟨_, rfl⟩, .inr ⟨_, trivial, HJ3.out⟩⟩
    · obtain rfl : k = L.length := by omega
      gi_wp2
      go_end0
      exact ⟨⟨_, rfl⟩, .inl ⟨_, rfl, HR.out.1⟩⟩
theorem in_calls (a0 : Int) (A0 : Option Addr) (n0 c0 : Nat) (A1 : Option Addr) (n1 c1 : Nat) (w : World) :
    Calls Try.prog 84 #[.agg #[.int .i64 a0, .slice A0 n0 c0], .slice A1 n1 c1] w fun e w' => e = .returned (.func (.func 106) #[] #[.pointer (some ⟨w.heap.size, 0, none⟩), .pointer (some ⟨w.heap.size + 1, 0, none⟩)]) ∧
      Below w.heap.size w w' ∧ w'.heap.size = w.heap.size + 2 ∧ w'.heap[w.heap.size]? = some (.cells #[.int .i64 a0, .slice A0 n0 c0] 24 (0, 0)) ∧ w'.heap[w.heap.size + 1]? = some (.cells #[.slice A1 n1 c1] 25 (0, 0)) := by
  have hu24 := Try.underlying24
  go_enter Try.func84, Try.ntmps84
  go_wp2
  go_ret
  generalize hA : w.alloc (.cells #[.int .i64 a0, .slice A0 n0 c0] 24) = wA
  have hsA : wA.heap.size = w.heap.size + 1 := by rw [← hA]; simp
  have bA : wA.heap[w.heap.size]? = some (.cells #[.int .i64 a0, .slice A0 n0 c0] 24 (0, 0)) := by rw [← hA]; exact heap_alloc_new w _
  have hbA : Below w.heap.size w wA := by rw [← hA]; exact (Below.refl _ _).alloc (Nat.le_refl _) _
  refine ⟨rfl, hbA.alloc (by omega) _, by simp [hsA], kA bA _, ?_⟩
  rw [← hsA]; exact heap_alloc_new wA _
end
section
structure Tr (H B H1 H2 : Nat) (W W' : World) : Prop where
  kf : KeepsFrom B W W'
  kp : KpS (fun i => i < B ∧ i ≠ H1 ∧ i ≠ H2) W W'
  bl : Below H W W'
section
variable {H B H1 H2 : Nat} {X Y Z : World}
theorem Tr.refl (X : World) : Tr H B H1 H2 X X := ⟨KeepsFrom.refl _ _, fun _ _ => rfl, Below.refl _ _⟩
theorem Tr.trans (h : Tr H B H1 H2 X Y) (k : Tr H B H1 H2 Y Z) : Tr H B H1 H2 X Z := ⟨h.kf.trans k.kf, fun i hi => (k.kp i hi).trans (h.kp i hi), h.bl.trans k.bl⟩
theorem Tr.alloc (h : Tr H B H1 H2 X Y) (o : Obj) (hs : B ≤ Y.heap.size) (hH : H ≤ B) : Tr H B H1 H2 X (Y.alloc o) :=
  h.trans ⟨(KeepsOthers.alloc _ _).from _, fun i hi => (below_alloc (Below.refl _ _) o).block i (by omega), (Below.refl _ _).alloc (by omega) _⟩
theorem Tr.drew (h : Tr H B H1 H2 X Y) : Tr H B H1 H2 X Y.drew := h.trans ⟨(KeepsOthers.drew _).from _, fun _ _ => rfl, (Below.refl _ _).drew⟩
theorem Tr.grown {α : Type} {d : Kd α} {e : Nat} {ok : Nat → Prop} {v : Value} {xs : List α} (h : Tr H B H1 H2 X Y) (hr : d.R e Y B ok v xs) (hg : Y.grownBy Z v.ownBlock) (hs : B ≤ Y.heap.size) (hH : H ≤ B) : Tr H B H1 H2 X Z := by
  refine h.trans ⟨(KeepsOthers.of_grownBy hg (fun j o e' ho => ?_)).from _, fun i hi => hg.block i (by omega) (fun e' => ?_), (Below.refl _ _).grown hg (by omega) (fun k e' => ?_)⟩
  · obtain ⟨cells, hc⟩ := Kd.R_typed hr j e'
    rw [hc] at ho; cases ho; rfl
  · have := Kd.R_base hr i e'.symm; omega
  · have := Kd.R_base hr k e'; omega
theorem Tr.set (h : Tr H B H1 H2 X Y) (g i : Nat) (hg : g = H1 ∨ g = H2) (hH1 : H ≤ H1) (hH2 : H ≤ H2) (v : Value) : Tr H B H1 H2 X (Y.setCell ⟨g, i, none⟩ v) :=
  h.trans ⟨(KeepsOthers.setCell _ _ _).from _, fun j hj => Below.heap_setCell _ _ _ j (by have h1 := hj.2.1; have h2 := hj.2.2; show j ≠ g; omega), (Below.refl _ _).setCell (p := ⟨g, i, none⟩) (by simp; omega) _⟩
end
end
end
section
def risesFrom (last : Int) : List Int → Bool
  | [] => true
  | x :: xs => decide (last < x) && risesFrom x xs
theorem rd_nat (l : List Int) (i : Nat) (h : i < l.length) : rd l (i : Int) = l[i] := by simp [rd, h]
theorem wrap_small {x : Int} (h0 : -9223372036854775808 ≤ x) (h1 : x ≤ 9223372036854775807) : wrap64 x = x := by unfold wrap64; omega
theorem rises_l0 (l : List Int) (hb : l.length ≤ 9223372036854775807) : ∀ (d k : Nat) (last : Int) (i : Nat), i + d = l.length → d < k → nrises.l0 k last l (l.length : Int) (i : Int) = some (risesFrom last (l.drop i)) := by
  intro d
  induction d with
  | zero =>
    intro k last i hi hk
    obtain ⟨k, rfl⟩ : ∃ m, k = m + 1 := ⟨k - 1, by omega⟩
    simp only [nrises.l0]
    rw [if_neg (by omega), List.drop_eq_nil_of_le (by omega)]
    rfl
  | succ d ih =>
    intro k last i hi hk
    obtain ⟨k, rfl⟩ : ∃ m, k = m + 1 := ⟨k - 1, by omega⟩
    have hlt : i < l.length := by omega
    simp only [nrises.l0]
    rw [if_pos (by omega), if_pos (by omega), if_pos (by omega), List.drop_eq_getElem_cons hlt, rd_nat l i hlt, wrap_small (by omega) (by omega)]
    by_cases hc : l[i] ≤ last
    · rw [if_pos hc]; simp [risesFrom, Int.not_lt.2 hc]
    · rw [if_neg hc]
      have := ih k l[i] (i + 1) (by omega) (by omega)
      rw [show ((i : Int) + 1) = ((i + 1 : Nat) : Int) by omega, this]
      simp [risesFrom, Int.not_le.1 hc]
theorem rises_f (l : List Int) (hb : l.length ≤ 9223372036854775807) (k : Nat) (hk : l.length < k) : nrises.f k l = some (risesFrom (-1) l) := by
  have := rises_l0 l hb l.length k (-1) 0 (by omega) hk
  simpa [nrises.f] using this
def outsV (b : Int) (L : List S37) (out : List Int) : Int := if chk b L = 0 then (if risesFrom (-1) out && decide (∀ x ∈ out, x < (L.length : Int)) then 0 else 1) else chk b L
theorem risesFrom_last {last : Int} : ∀ {l : List Int}, risesFrom last l = true → (∀ x ∈ l, last < x)
  | [], _ => by simp
  | y :: ys, h => by
    simp only [risesFrom, Bool.and_eq_true, decide_eq_true_eq] at h
    intro x hx
    rcases List.mem_cons.1 hx with rfl | hx
    · exact h.1
    · have := risesFrom_last h.2 x hx; omega
theorem risesFrom_max {last : Int} : ∀ {l : List Int} (h : l ≠ []), risesFrom last l = true → ∀ x ∈ l, x ≤ l.getLast h
  | [y], _, _ => by simp
  | y :: z :: ys, _, h => by
    simp only [risesFrom, Bool.and_eq_true, decide_eq_true_eq] at h
    intro x hx
    have h2 : risesFrom y (z :: ys) = true := by simp [risesFrom, h.2.1, h.2.2]
    rw [List.getLast_cons (by simp)]
    rcases List.mem_cons.1 hx with rfl | hx
    · have := risesFrom_last h2 _ (List.getLast_mem (by simp : (z :: ys) ≠ [])); omega
    · exact risesFrom_max (by simp) h2 x hx
theorem outs_f (b : Int) (L : List S37) (out : List Int) (hb : out.length ≤ 9223372036854775807) (k : Nat) (hk : out.length < k) : nOuts.f k b L out = some (outsV b L out) := by
  unfold nOuts.f outsV nCheck.f
  simp only [Option.bind_some]
  by_cases hc : chk b L = 0
  · rw [if_pos hc, if_pos hc, rises_f out hb k hk]
    simp only [Option.bind_some]
    by_cases hr : risesFrom (-1) out = true
    · rw [if_pos hr]
      by_cases hl : out = []
      · subst hl; simp [risesFrom]
      · have hpos : 0 < out.length := List.length_pos_iff.2 hl
        rw [if_pos (by omega), wrap_small (by omega) (by omega), if_pos (by omega), if_pos (by omega)]
        have e : rd out ((out.length : Int) - 1) = out.getLast hl := by
          rw [show ((out.length : Int) - 1) = ((out.length - 1 : Nat) : Int) by omega, rd_nat out _ (by omega), List.getLast_eq_getElem]
        rw [e]
        by_cases hg : out.getLast hl ≥ (L.length : Int)
        · rw [if_pos hg, if_neg]
          simp only [hr, Bool.true_and, decide_eq_true_eq]
          intro h; have := h _ (List.getLast_mem hl); omega
        · rw [if_neg hg, if_pos]
          simp only [hr, Bool.true_and, decide_eq_true_eq]
          intro x hx; have := risesFrom_max hl hr x hx; omega
    · rw [if_neg hr, if_neg]; simp [hr]
  · rw [if_neg hc, if_neg hc]
theorem wrapu_small {x : Int} (h0 : 0 ≤ x) (h1 : x ≤ 9223372036854775807) : IntKind.u64.wrap x = x := by rw [IntKind.wrap_u64]; omega
theorem risesFrom_get {last : Int} : ∀ {l : List Int}, risesFrom last l = true → ∀ i j (hi : i < j) (hj : j < l.length), l[i] < l[j]
  | [], _, i, j, hi, hj => by simp at hj
  | y :: ys, h, i, j, hi, hj => by
    simp only [risesFrom, Bool.and_eq_true, decide_eq_true_eq] at h
    cases j with
    | zero => omega
    | succ j =>
      cases i with
      | zero => simp; exact risesFrom_last h.2 _ (List.getElem_mem _)
      | succ i => simp; exact risesFrom_get h.2 i j (by omega) (by simpa using hj)
theorem cmp_f (a b : Int) : cLess.f a b = some (decide (a < b)) := by
  unfold cLess.f cisNaN.f
  simp
theorem bs_l0 (l : List Int) (t : Int) (hb : l.length ≤ 1000000) (hs : ∀ i j (hi : i < j) (hj : j < l.length), l[i] < l[j]) : ∀ (d k i j : Nat), j - i ≤ d → d < k → i ≤ j → j ≤ l.length →
    (∀ a (h : a < l.length), a < i → l[a] < t) → (∀ a (h : a < l.length), j ≤ a → t ≤ l[a]) → ∃ r, sBinarySearch.l0 k l t (l.length : Int) (i : Int) (j : Int) = some (r, l.contains t) := by
  intro d
  induction d with
  | zero =>
    intro k i j hd hk hij hj h1 h2
    obtain ⟨k, rfl⟩ : ∃ m, k = m + 1 := ⟨k - 1, by omega⟩
    obtain rfl : i = j := by omega
    simp only [sBinarySearch.l0]
    rw [if_neg (by omega)]
    by_cases hlt : i < l.length
    · rw [if_pos (by omega), if_pos (by omega), if_pos (by omega), rd_nat l i hlt]
      by_cases he : l[i] = t
      · rw [if_pos he]
        have : l.contains t = true := by rw [List.contains_iff_mem, ← he]; exact List.getElem_mem hlt
        exact ⟨_, by rw [this]⟩
      · rw [if_neg he]
        unfold sisNaN.f
        have hn : l.contains t = false := by
          rw [Bool.eq_false_iff]; intro hc
          rw [List.contains_iff_mem] at hc
          obtain ⟨a, ha, e⟩ := List.getElem_of_mem hc
          rcases Nat.lt_trichotomy a i with h | h | h
          · have := h1 a ha h; omega
          · subst h; exact he e
          · have := hs i a h ha; have := h2 i hlt (Nat.le_refl _); omega
        exact ⟨(i : Int), by simp only [bne_self_eq_false, Option.bind_some]; rw [if_neg (by simp), hn]⟩
    · rw [if_neg (by omega)]
      have hn : l.contains t = false := by
        rw [Bool.eq_false_iff]; intro hc
        rw [List.contains_iff_mem] at hc
        obtain ⟨a, ha, e⟩ := List.getElem_of_mem hc
        have := h1 a ha (by omega); omega
      exact ⟨i, by rw [hn]⟩
  | succ d ih =>
    intro k i j hd hk hij hj h1 h2
    by_cases hlt : i < j
    · obtain ⟨k, rfl⟩ : ∃ m, k = m + 1 := ⟨k - 1, by omega⟩
      simp only [sBinarySearch.l0]
      obtain ⟨h, hh⟩ : ∃ h : Nat, h = (i + j) / 2 := ⟨_, rfl⟩
      have hm : wrap64 ((IntKind.u64.wrap (wrap64 ((i : Int) + (j : Int)))) / 2) = ((h : Nat) : Int) := by
        have w1 : wrap64 ((i : Int) + (j : Int)) = ((i + j : Nat) : Int) := by rw [wrap_small (by omega) (by omega)]; omega
        have w2 : IntKind.u64.wrap ((i + j : Nat) : Int) = ((i + j : Nat) : Int) := wrapu_small (by omega) (by omega)
        rw [w1, w2, wrap_small (by omega) (by omega)]; omega
      have hhl : h < l.length := by omega
      rw [if_pos (by omega), hm, if_pos (by omega), if_pos (by omega), rd_nat l h hhl, cmp_f]
      simp only [Option.bind_some]
      by_cases hc : l[h] < t
      · rw [if_pos (by simp [hc]), wrap_small (by omega) (by omega), show ((h : Int) + 1) = ((h + 1 : Nat) : Int) by omega]
        refine ih k (h + 1) j (by omega) (by omega) (by omega) hj ?_ h2
        intro a ha hah
        rcases Nat.lt_or_ge a h with h' | h'
        · have := hs a h h' hhl; omega
        · obtain rfl : a = h := by omega
          exact hc
      · rw [if_neg (by simp; omega)]
        refine ih k i h (by omega) (by omega) (by omega) (by omega) h1 ?_
        intro a ha hah
        rcases Nat.lt_or_ge h a with h' | h'
        · have := hs h a h' ha; omega
        · obtain rfl : a = h := by omega
          omega
    · obtain rfl : i = j := by omega
      exact ih k i i (by omega) (by omega) (Nat.le_refl _) hj h1 h2
theorem bs_f (l : List Int) (t : Int) (hb : l.length ≤ 1000000) (hs : risesFrom (-1) l = true) : ∃ kk r, sBinarySearch.f kk l t = some (r, l.contains t) := by
  obtain ⟨r, h⟩ := bs_l0 l t hb (risesFrom_get hs) l.length (l.length + 1) 0 l.length (by omega) (by omega) (by omega) (Nat.le_refl _) (fun a h ha => by omega) (fun a h ha => by omega)
  exact ⟨_, r, h⟩
def inn (L : List S37) (out : List Int) : List Nat := (List.range L.length).filter (fun k => !out.contains (k : Int))
theorem outsV_ok {b : Int} {L : List S37} {out : List Int} (h : outsV b L out = 0) : chk b L = 0 ∧ risesFrom (-1) out = true ∧ ∀ x ∈ out, x < (L.length : Int) := by
  unfold outsV at h
  by_cases hc : chk b L = 0
  · rw [if_pos hc] at h
    by_cases h2 : (risesFrom (-1) out && decide (∀ x ∈ out, x < (L.length : Int))) = true
    · simp only [Bool.and_eq_true, decide_eq_true_eq] at h2; exact ⟨hc, h2.1, h2.2⟩
    · rw [if_neg h2] at h; omega
  · rw [if_neg hc] at h; exact absurd h hc
theorem chk_ok {b : Int} {L : List S37} (h : chk b L = 0) : 1 ≤ b ∧ b ≤ 6 ∧ L.length ≤ 10 ∧ ∀ l ∈ L, okLine b l = true := by
  unfold chk at h
  by_cases h1 : b < 1 ∨ 6 < b
  · rw [if_pos h1] at h; omega
  · rw [if_neg h1] at h
    by_cases h2 : 10 < L.length
    · rw [if_pos h2] at h; omega
    · rw [if_neg h2] at h
      by_cases h3 : L.all (okLine b) = true
      · exact ⟨by omega, by omega, by omega, List.all_eq_true.1 h3⟩
      · rw [if_neg h3] at h; omega
theorem rises_len {l : List Int} {m : Int} : ∀ {last : Int}, risesFrom last l = true → (∀ x ∈ l, x < m) → last < m → (l.length : Int) ≤ m - 1 - last := by
  induction l with
  | nil => intro last _ _ h; simp; omega
  | cons x xs ih =>
    intro last h hm hl
    simp only [risesFrom, Bool.and_eq_true, decide_eq_true_eq] at h
    have := ih h.2 (fun y hy => hm y (List.mem_cons_of_mem _ hy)) (hm x (by simp))
    simp; omega
theorem outsV_len {b : Int} {L : List S37} {out : List Int} (h : outsV b L out = 0) : out.length ≤ L.length := by
  obtain ⟨_, h1, h2⟩ := outsV_ok h
  have := rises_len h1 h2 (by omega)
  omega
end
section
theorem insF_inn (L : List S37) (out : List Int) : insF (fun k => out.contains (k : Int)) L L.length = (inn L out).map (fun (k : Nat) => (k, rd_T37 L (k : Int))) := rfl
theorem boxes3 {w w4 : World} {c0 c1 c2 : Array Value} {t0 t1 t2 : TypeId} (h : Below (((w.alloc (.cells c0 t0)).alloc (.cells c1 t1)).alloc (.cells c2 t2)).heap.size (((w.alloc (.cells c0 t0)).alloc (.cells c1 t1)).alloc (.cells c2 t2)) w4) :
    w4.heap[w.heap.size]? = some (.cells c0 t0 (0, 0)) ∧ w4.heap[w.heap.size + 1]? = some (.cells c1 t1 (0, 0)) ∧ w4.heap[w.heap.size + 1 + 1]? = some (.cells c2 t2 (0, 0)) ∧ w.heap.size + 3 ≤ w4.heap.size ∧ Below w.heap.size w w4 := by
  have b0 := heap_alloc_new w (.cells c0 t0)
  have z0 : (w.alloc (.cells c0 t0)).heap.size = w.heap.size + 1 := by simp
  generalize hA : w.alloc (.cells c0 t0) = wA at *
  have hbA : Below w.heap.size w wA := by rw [← hA]; exact (Below.refl _ _).alloc (Nat.le_refl _) _
  have b1 := heap_alloc_new wA (.cells c1 t1)
  have b01 := kA b0 (.cells c1 t1)
  have hbB : Below w.heap.size w (wA.alloc (.cells c1 t1)) := hbA.alloc (by omega) _
  have z1 : (wA.alloc (.cells c1 t1)).heap.size = w.heap.size + 1 + 1 := by simp [z0]
  rw [z0] at b1
  generalize hB : wA.alloc (.cells c1 t1) = wB at *
  have b2 := heap_alloc_new wB (.cells c2 t2)
  have b02 := kA b01 (.cells c2 t2)
  have b12 := kA b1 (.cells c2 t2)
  have z2 : (wB.alloc (.cells c2 t2)).heap.size = w.heap.size + 1 + 1 + 1 := by simp [z1]
  have hbC : Below w.heap.size w (wB.alloc (.cells c2 t2)) := hbB.alloc (by omega) _
  rw [z1] at b2
  generalize wB.alloc (.cells c2 t2) = wC at *
  exact ⟨(h.block _ (by omega)).trans b02, (h.block _ (by omega)).trans b12, (h.block _ (by omega)).trans b2, by have := h.size; omega, hbC.trans (h.mono (by omega))⟩
end
section
attribute [local go_sem] Oper.semAt_some
def nStrip.f (a0_0 : Int) (l0_1 : List (S37)) (l1 : List Int) : Option (Int × (List (S37)) × List Int × Int) :=
 if outsV a0_0 l0_1 l1 = 0 then some (a0_0, (inn l0_1 l1).map (fun (k : Nat) => rd_T37 l0_1 (k : Int)), (inn l0_1 l1).map (fun (k : Nat) => (k : Int)), 0) else some (0, [], [], outsV a0_0 l0_1 l1)
structure Fx (a0 : Int) (H B Bx : Nat) (x : S37) (b1 b2 : Value) (X2 : List Int) (W : World) (vr : Value) (Xr : List S37) (Y : World) : Prop where
 m : Y.heap[H + 1]? = some (.cells #[.int .i64 a0, b1] 24 (0, 0))
 l : Y.heap[H + 1 + 1]? = some (.cells #[b2] 25 (0, 0))
 r1 : Kd.R k37 37 Y B (fun _ => True) vr Xr
 r2 : Kd.R (Kd.int .i64) 3 Y B (fun _ => True) b2 X2
 bx : Y.heap[Bx]? = some (.cells #[.int .i64 x.f0, .int .i64 x.f1, .int .i64 x.f2, .int .i64 x.f3] 37 (0, 0))
 tr : Tr H B (H + 1) (H + 1 + 1) W Y
 sz : B ≤ Y.heap.size
section
variable {a0 : Int} {H B Bx : Nat} {x : S37} {b1 b2 : Value} {X2 : List Int} {W : World} {vr : Value} {Xr : List S37} {Y Z : World}
theorem Fx.alloc (h : Fx a0 H B Bx x b1 b2 X2 W vr Xr Y) (hH : H ≤ B) (o : Obj) : Fx a0 H B Bx x b1 b2 X2 W vr Xr (Y.alloc o) :=
 ⟨kA h.m _, kA h.l _, Kd.R_alloc h.r1 _, Kd.R_alloc h.r2 _, kA h.bx _, h.tr.alloc o h.sz hH, by have := h.sz; simp; omega⟩
theorem Fx.append {X1 : List S37} {v' : Value} {X' : List S37} (h : Fx a0 H B Bx x b1 b2 X2 W b1 X1 Y) (hH : H ≤ B) (hne : some Bx ≠ b1.ownBlock) (hg : Y.grownBy Z b1.ownBlock) (hr : Kd.R k37 37 Z B (fun _ => True) v' X') : Fx a0 H B Bx x b1 b2 X2 W v' X' Z :=
 ⟨blk_grown h.m hg (Kd.R_ne h.r1 h.m (by decide)), blk_grown h.l hg (Kd.R_ne h.r1 h.l (by decide)), hr, Kd.R_over' h.r2 (Kd.R_typed h.r1) (by decide) hg, blk_grown h.bx hg hne, h.tr.grown h.r1 hg h.sz hH, Nat.le_trans h.sz hg.size⟩
theorem Fx.held (h : Fx a0 H B Bx x b1 b2 X2 W vr Xr Y) : Y.cell? ⟨H + 1, 1, none⟩ = some b1 ∧ Y.cell? ⟨H + 1 + 1, 0, none⟩ = some b2 ∧ Y.cell? ⟨Bx, 0, none⟩ = some (.int .i64 x.f0) ∧ Y.cell? ⟨Bx, 1, none⟩ = some (.int .i64 x.f1) ∧ Y.cell? ⟨Bx, 2, none⟩ = some (.int .i64 x.f2) ∧ Y.cell? ⟨Bx, 3, none⟩ = some (.int .i64 x.f3) :=
 ⟨(kC h.m 1).trans rfl, (kC h.l 0).trans rfl, (kC h.bx 0).trans rfl, (kC h.bx 1).trans rfl, (kC h.bx 2).trans rfl, (kC h.bx 3).trans rfl⟩
theorem news_at {W : World} {g : Nat} {cs : List Value} {t : TypeId} (h : W.heap[g]? = some (.cells cs.toArray t (0, 0))) : ∀ j u, cs[j]? = some u → W.cell? ((⟨g, 0, none⟩ : Addr).add j) = some u := fun j u hu => by
 rw [add_plain, kC h j]; simpa using hu
end
set_option maxRecDepth 100000 in
set_option maxHeartbeats 4000000 in
theorem nStrip.calls (a0_0 : Int) (A0_1 : Option Addr) (c0_1 : Nat) (l0_1 : List (S37)) (A1 : Option Addr) (c1 : Nat) (l1 : List Int) (r1 : Int) (r2 : List (S37)) (r3 : List Int) (r4 : Int) (w : World) (hr0_1 : Kd.C k37 w A0_1 l0_1.length l0_1) (hc0_1 : l0_1.length ≤ c0_1) (hr1 : Kd.C (Kd.int .i64) w A1 l1.length l1) (hc1 : l1.length ≤ c1) (h : nStrip.f a0_0 l0_1 l1 = some (r1, r2, r3, r4)) :
  Calls Try.prog 32 #[.agg #[.int .i64 a0_0, .slice A0_1 l0_1.length c0_1], .slice A1 l1.length c1] w fun e w' => ∃ v1_ v2_ : Value, e = .returned (.tuple #[.agg #[.int .i64 r1, v1_], v2_, .int .i64 r4]) ∧ Kd.R k37 37 w' w.heap.size (fun _ => True) v1_ r2 ∧ Kd.R (Kd.int .i64) 3 w' w.heap.size (fun _ => True) v2_ r3 ∧ Below w.heap.size w w' := by
 have hu24 := Try.underlying24
 have hu37 := Try.underlying37
 have hob : l1.length ≤ 9223372036854775807 := hr1.2.1
 have HOF := Lib.hid (outs_f a0_0 l0_1 l1 hob (l1.length + 1) (by omega))
 have HR0 := Lib.hid hr0_1
 have HR1 := Lib.hid hr1
 clear hr0_1 hr1 hob
 by_cases hv : outsV a0_0 l0_1 l1 = 0
 ·rw [nStrip.f, if_pos hv] at h
  simp only [Option.some.injEq, Prod.mk.injEq] at h
  obtain ⟨rfl, rfl, rfl, rfl⟩ := h
  rw [hv] at HOF
  have HV := Lib.hid hv
  clear hv
  refine (callsIn_wide (n := 3)).1 ?_
  refine callsIn_of_wp_marks Try.func32 rfl trivial ?_ rfl
  simp only [Try.ntmps32, List.size_toArray, List.length_cons, List.length_nil, Nat.reduceAdd, Nat.reduceSub, Array.replicate_succ, Array.replicate_zero, List.push_toArray, List.append_toArray, List.nil_append, List.cons_append]
  gi_wp2_with (refine ⟨trivial, ?_⟩; refine (callsIn_wide.2 (nOuts.calls (l1.length + 1) a0_0 _ _ l0_1 _ _ l1 0 _ ?side1 hc0_1 ?side2 hc1 HOF.out)).mono ?_; (case side1 => exact Kd.C_below HR0.out (((((Below.refl _ w).alloc (Nat.le_refl _) _).alloc (by simp) _).alloc (by simp; omega) _))); (case side2 => exact Kd.C_below HR1.out (((((Below.refl _ w).alloc (Nat.le_refl _) _).alloc (by simp) _).alloc (by simp; omega) _))); rintro e w4 ⟨rfl, hb4⟩; obtain ⟨k0, k1, k2, hsz, hbw⟩ := boxes3 hb4; have K0 := Lib.hid k0; have K1 := Lib.hid k1; have K2 := Lib.hid k2; have HBW := Lib.hid hbw; clear hb4 k0 k1 k2 hbw; have c00 : w4.cell? ⟨w.heap.size, 0, none⟩ = some (.int .i64 a0_0) := (kC K0.out 0).trans rfl; have c01 : w4.cell? ⟨w.heap.size, 1, none⟩ = some (.slice A0_1 l0_1.length c0_1) := (kC K0.out 1).trans rfl; have c10 : w4.cell? ⟨w.heap.size + 1, 0, none⟩ = some (.int .i64 0) := (kC K1.out 0).trans rfl; have f10 := kF K1.out 0)
  have hbm : w4.heap[w.heap.size + 1]? = some (.cells #[.int .i64 0, .slice none 0 0] 24 (0, 0)) := K1.out
  have m1 := blk_set hbm 0 (.int .i64 a0_0)
  have l1' := kR (p := ⟨w.heap.size + 1, 0, none⟩) K2.out (by simp) (.int .i64 a0_0)
  have bw5 : Below w.heap.size w (w4.setCell ⟨w.heap.size + 1, 0, none⟩ (.int .i64 a0_0)) := HBW.out.setCell (p := ⟨w.heap.size + 1, 0, none⟩) (by simp) _
  have sz5 : (w4.setCell ⟨w.heap.size + 1, 0, none⟩ (.int .i64 a0_0)).heap.size = w4.heap.size := by simp [World.setCell]
  have M1 := Lib.hid m1
  have L1 := Lib.hid l1'
  have BW5 := Lib.hid bw5
  have SZ5 := Lib.hid sz5
  clear hbm m1 l1' bw5 sz5 c00 c01 c10 f10
  gi_wp2_with (refine ⟨trivial, ?_⟩; refine (callsIn_wide.2 (in_calls _ _ _ _ _ _ _ _)).mono ?_; rintro e w6 ⟨rfl, hb6, hs6, n6, o6⟩; generalize w4.setCell ⟨w.heap.size + 1, 0, none⟩ (.int .i64 a0_0) = w5 at hb6 hs6 n6 o6 M1 L1 BW5 SZ5 ⊢; have HB6 := Lib.hid hb6; have HS6 := Lib.hid hs6; have N6 := Lib.hid n6; have O6 := Lib.hid o6; clear hb6 hs6 n6 o6)
  obtain ⟨B, hB⟩ : ∃ B, B = w6.heap.size := ⟨_, rfl⟩
  obtain ⟨H, hH⟩ : ∃ H, H = w.heap.size := ⟨_, rfl⟩
  have hBn : w5.heap.size + 2 = B := by rw [hB]; exact HS6.out.symm
  have hH5 : H + 3 ≤ w5.heap.size := by rw [hH]; have := SZ5.out; omega
  have bw6 : Below H w w6 := by rw [hH]; exact BW5.out.trans (HB6.out.mono (by rw [SZ5.out]; omega))
  have m6 : w6.heap[H + 1]? = some (.cells #[.int .i64 a0_0, .slice none 0 0] 24 (0, 0)) := by rw [hH]; exact kB (o := .cells #[.int .i64 a0_0, .slice none 0 0] 24 (0, 0)) M1.out HB6.out
  have l6 : w6.heap[H + 1 + 1]? = some (.cells #[.slice none 0 0] 25 (0, 0)) := by rw [hH]; exact kB L1.out HB6.out
  have hkc : ∀ W, KpS (fun i => i < B ∧ i ≠ H + 1 ∧ i ≠ H + 1 + 1) w6 W → ∀ k, k < w.heap.size → W.heap[k]? = w.heap[k]? := fun W hk k hlt => (hk k ⟨by omega, by omega, by omega⟩).trans (bw6.block k (by omega))
  have hseq : SeqStopsK Fence.wide 2 Try.prog 106 #[.pointer (some ⟨w5.heap.size, 0, none⟩), .pointer (some ⟨w5.heap.size + 1, 0, none⟩)] encL (KpS (fun i => i < B ∧ i ≠ H + 1 ∧ i ≠ H + 1 + 1)) (fun xs => xs = insF (fun k => l1.contains (k : Int)) l0_1 l0_1.length) (fun _ => True) l0_1.length w6 := by
   intro l J Jx W hW hJ hJx hY h0
   obtain ⟨hck, hri, _⟩ := outsV_ok HV.out
   have hL10 := (chk_ok hck).2.2.1
   have hol := outsV_len HV.out
   refine in_iter _ w6 w5.heap.size (w5.heap.size + 1) a0_0 A0_1 c0_1 l0_1 A1 c1 l1 _ (by omega) hc0_1 (fun k _ => bs_f l1 (k : Int) (by omega) hri) ⟨by omega, by omega, by omega⟩ ⟨by omega, by omega, by omega⟩ hc1 ?_ ?_ ?_ ?_ l J Jx W (fun i hi => hW.block i (by rw [← hB]; exact hi.1)) (fun i hi => by rw [← hB]; exact hi.1) hJ hY h0
   ·intro W hk; exact (hk _ ⟨by omega, by omega, by omega⟩).trans N6.out
   ·intro W hk; exact (hk _ ⟨by omega, by omega, by omega⟩).trans O6.out
   ·intro W hk; exact Kd.Heap.C (Kd.heap_iso _ (Kd.heap_pair (Kd.heap_int _) (Kd.heap_pair (Kd.heap_int _) (Kd.heap_pair (Kd.heap_int _) (Kd.heap_int _))))) (hkc W hk) HR0.out
   ·intro W hk; exact Kd.Heap.C (Kd.heap_int _) (hkc W hk) HR1.out
  have HSEQ := Lib.hid hseq
  have HB' := Lib.hid hB
  have HH' := Lib.hid hH
  have BW6 := Lib.hid bw6
  have M6 := Lib.hid m6
  have L6 := Lib.hid l6
  clear hseq hB hH bw6 m6 l6 hkc
  have hbs : w6.heap.size = B := HB'.out.symm
  have HBS := Lib.hid hbs
  clear hbs
  refine wpIn_rangeFunc_ownH (F := Fence.wide) (n := 3) rfl (by omega) (gf := 106) (lb := #[.pointer (some ⟨w5.heap.size, 0, none⟩), .pointer (some ⟨w5.heap.size + 1, 0, none⟩)]) rfl trivial (enters_of Try.func106 (by kernel_rfl) rfl)
   (encs := encL) (Kp := KpS (fun i => i < B ∧ i ≠ H + 1 ∧ i ≠ H + 1 + 1)) HSEQ.out ?hKt ?hKb (Below.refl _ _) (fun _ => rfl)
   (fun pre W => ∃ v1 v2, W.heap[H + 1]? = some (.cells #[.int .i64 a0_0, v1] 24 (0, 0)) ∧ W.heap[H + 1 + 1]? = some (.cells #[v2] 25 (0, 0)) ∧ Kd.R k37 37 W B (fun _ => True) v1 (pre.map (fun p => p.2)) ∧ Kd.R (Kd.int .i64) 3 W B (fun _ => True) v2 (pre.map (fun p => (p.1 : Int))) ∧ Below H w6 W ∧ B ≤ W.heap.size)
   (fun _ _ _ => False) ?hI (fun _ _ _ _ _ hs _ _ => hs) ?h0
   (fun x a' W => ∃ Bx, B ≤ Bx ∧ W.heap[Bx]? = some (.cells #[.int .i64 x.2.f0, .int .i64 x.2.f1, .int .i64 x.2.f2, .int .i64 x.2.f3] 37 (0, 0)) ∧ (H + 1 < W.heap.size ∧ ∀ v, W.heap[H + 1]? = some (.cells #[.int .i64 a0_0, v] 24 (0, 0)) → some Bx ≠ v.ownBlock) ∧ a' = { tmps := #[.agg #[.int .i64 a0_0, .slice A0_1 l0_1.length c0_1], .slice A1 l1.length c1, .pointer (some ⟨w.heap.size, 0, none⟩), undef, .pointer (some ⟨w.heap.size + 1, 0, none⟩), .pointer (some ⟨w.heap.size + 1 + 1, 0, none⟩), .int .i64 0, .int .i64 0, .int .i64 (x.1 : Int), .pointer (some ⟨Bx, 0, none⟩), .agg #[.int .i64 a0_0, .slice A0_1 l0_1.length c0_1], .slice A1 l1.length c1, .int .i64 0, .int .i64 0, .bool false, undef, undef, .pointer (some ⟨w.heap.size, 0, none⟩), .int .i64 a0_0, .pointer (some ⟨w.heap.size + 1, 0, none⟩), .agg #[.int .i64 a0_0, .slice A0_1 l0_1.length c0_1], .slice A1 l1.length c1, .func (.func 106) #[] #[.pointer (some ⟨w5.heap.size, 0, none⟩), .pointer (some ⟨w5.heap.size + 1, 0, none⟩)], .int .i64 (x.1 : Int), .agg #[.int .i64 x.2.f0, .int .i64 x.2.f1, .int .i64 x.2.f2, .int .i64 x.2.f3], undef, undef, undef, undef, undef, undef, undef, undef, undef, undef, undef, undef], defers := [] }) ?hAx ?assign ?body ?done ?stop
  case hKt => intro A B' C h1 h2 i hi; exact (h2 i hi).trans (h1 i hi)
  case hKb => intro W l o o' hl ho _ _ i hi; exact World.putObj_heap_other (by rw [HBS.out] at hl; omega)
  case hI =>
   rintro pre W W' row ⟨v1, v2, hm, hl, h1, h2, hb, hs⟩ hg hr
   rw [HBS.out] at hr
   have hlt : H + 1 + 1 < B := by omega
   refine ⟨v1, v2, blk_grown hm hg (fun e => by have := (hr _ e.symm).1; omega), blk_grown hl hg (fun e => by have := (hr _ e.symm).1; omega), R_grown_walk rfl h1 hg (fun r e => (hr r e).2), R_grown_walk rfl h2 hg (fun r e => (hr r e).2), hb.grown hg (by omega) (fun k e => by have := (hr k e).1; omega), Nat.le_trans hs hg.size⟩
  case h0 => exact ⟨_, _, M6.out, L6.out, Kd.R_nil _ _ _ _ _, Kd.R_nil _ _ _ _ _, Below.refl _ _, by rw [HBS.out]; exact Nat.le_refl _⟩
  case hAx =>
   rintro x a' _ W W' row ⟨Bx, hB1, hB2, ⟨hne1, hne⟩, rfl⟩ hg hr
   rw [HBS.out] at hr
   refine ⟨Bx, hB1, blk_grown hB2 hg ?_, ⟨Nat.lt_of_lt_of_le hne1 hg.size, fun v hv => hne v ((hg.block (H + 1) hne1 (fun e => by have := (hr _ e.symm).1; omega)).symm.trans hv)⟩, rfl⟩
   intro e
   obtain ⟨_, o, ho, hc⟩ := hr _ e.symm
   rw [hB2] at ho; cases ho; cases hc
  case assign =>
   rintro l pre x W K ⟨v1, v2, hm, hl, h1, h2, hb, hs⟩ hK
   have hKK := Lib.hid hK
   clear hK
   simp only [encL]
   gi_wp2
   refine hKK.out _ _ ((KeepsOthers.alloc _ _).from _) (fun i hi => (below_alloc (Below.refl _ _) _).block i (by omega)) ⟨v1, v2, kA hm _, kA hl _, Kd.R_alloc h1 _, Kd.R_alloc h2 _, hb.alloc (by omega) _, by simp; omega⟩ ⟨W.heap.size, hs, heap_alloc_new W _, ⟨by simp; omega, fun v hv => ?_⟩, rfl⟩
   rw [kA hm] at hv
   simp only [Option.some.injEq, Obj.cells.injEq, Array.mk.injEq, List.cons.injEq, and_true, true_and] at hv
   subst hv
   intro e
   have := Kd.R_lt h1 _ e.symm
   omega
  case body =>
   rintro l pre x a' W _ _ ⟨v1, v2, hm, hl, h1, h2, hb, hs⟩ ⟨Bx, hB1, hB2, ⟨_, hne⟩, rfl⟩ hlen
   have hH' := HH'.out
   clear HH'
   subst hH'
   obtain ⟨A7, c7, rfl⟩ := Kd.R_slice h1
   obtain ⟨A8, c8, rfl⟩ := Kd.R_slice h2
   have c10 : W.cell? ⟨w.heap.size + 1, 0, none⟩ = some (.int .i64 a0_0) := (kC hm 0).trans rfl
   gi_wp2
   have c11 : W.cell? ⟨w.heap.size + 1, 1, none⟩ = some (.slice A7 (pre.map (fun p => p.2)).length c7) := (kC hm 1).trans rfl
   have c20 : W.cell? ⟨w.heap.size + 1 + 1, 0, none⟩ = some (.slice A8 (pre.map (fun p => (p.1 : Int))).length c8) := (kC hl 0).trans rfl
   have hneB := hne _ hm
   have b0 : W.cell? ⟨Bx, 0, none⟩ = some (.int .i64 x.2.f0) := (kC hB2 0).trans rfl
   have b1 : W.cell? ⟨Bx, 1, none⟩ = some (.int .i64 x.2.f1) := (kC hB2 1).trans rfl
   have b2 : W.cell? ⟨Bx, 2, none⟩ = some (.int .i64 x.2.f2) := (kC hB2 2).trans rfl
   have b3 : W.cell? ⟨Bx, 3, none⟩ = some (.int .i64 x.2.f3) := (kC hB2 3).trans rfl
   generalize hX1 : pre.map (fun p => p.2) = X1 at *
   generalize hX2 : pre.map (fun p => (p.1 : Int)) = X2 at *
   have EX1 := Lib.hid hX1
   have EX2 := Lib.hid hX2
   clear hX1 hX2
   have HM := Lib.hid hm
   have HL := Lib.hid hl
   have R1 := Lib.hid h1
   have R2 := Lib.hid h2
   have HBB := Lib.hid hb
   have HSS := Lib.hid hs
   have HBX := Lib.hid hB2
   have HNE := Lib.hid hneB
   have HLEN := Lib.hid hlen
   clear hm hl h1 h2 hb hs hB2 hneB hne hlen c10
   refine start_in_ (n := 12) (S := fun w' => w'.cell? ⟨w.heap.size + 1, 1, none⟩ = some (.slice A7 X1.length c7) ∧ w'.cell? ⟨w.heap.size + 1 + 1, 0, none⟩ = some (.slice A8 X2.length c8) ∧ w'.cell? ⟨Bx, 0, none⟩ = some (.int .i64 x.2.f0) ∧ w'.cell? ⟨Bx, 1, none⟩ = some (.int .i64 x.2.f1) ∧ w'.cell? ⟨Bx, 2, none⟩ = some (.int .i64 x.2.f2) ∧ w'.cell? ⟨Bx, 3, none⟩ = some (.int .i64 x.2.f3)) (ds := [8, 10, 11]) #[false,false,false,false,false,false,false,false,false,false,false,false] ?hno ?hQ (by kernel_rfl) rfl rfl ⟨c11, c20, b0, b1, b2, b3⟩ (fun hHeld => ?_)
   case hno => simp
   case hQ => rintro ⟨a, w, h⟩; exact h
   refine pure_ (i := 0) (N := some 25) (v := ?_) (a' := ?_) #[true,false,false,false,false,false,false,false,false,false,false,false] rfl rfl (by kernel_rfl) (fun _ _ _ h => h) (Or.inl ⟨by rfl, ?_⟩) ?_ ?_
   rotate_left; (intro w'; go_simp; with_reducible rfl); rotate_left; (simp only [Act.put, List.setIfInBounds_toArray, List.set_cons_zero, List.set_cons_succ, i64_w, i32_w]; rfl)
   refine pure_ (i := 6) (N := some 31) (v := ?_) (a' := ?_) #[true,false,false,false,false,false,true,false,false,false,false,false] rfl rfl (by kernel_rfl) (fun _ _ _ h => h) (Or.inl ⟨by rfl, ?_⟩) ?_ ?_
   rotate_left; (intro w'; go_simp; with_reducible rfl); rotate_left; (simp only [Act.put, List.setIfInBounds_toArray, List.set_cons_zero, List.set_cons_succ, i64_w, i32_w]; rfl)
   refine take_ (i := 1) (N := some 26) (v := ?_) (a' := ?_) #[true,true,false,false,false,false,true,false,false,false,false,false] rfl rfl (by kernel_rfl) (fun _ _ _ h => h) (Or.inl ⟨by rfl, ?_⟩) hHeld ?_ ?_
   rotate_left; (rintro w' ⟨s0, s1, s2, s3, s4, s5⟩; go_simp; with_reducible rfl); rotate_left; (simp only [Act.put, List.setIfInBounds_toArray, List.set_cons_zero, List.set_cons_succ, i64_w, i32_w]; rfl)
   refine take_ (i := 2) (N := some 27) (v := ?_) (a' := ?_) #[true,true,true,false,false,false,true,false,false,false,false,false] rfl rfl (by kernel_rfl) (fun _ _ _ h => h) (Or.inl ⟨by rfl, ?_⟩) hHeld ?_ ?_
   rotate_left; (rintro w' ⟨s0, s1, s2, s3, s4, s5⟩; go_simp; with_reducible rfl); rotate_left; (simp only [Act.put, List.setIfInBounds_toArray, List.set_cons_zero, List.set_cons_succ, i64_w, i32_w]; rfl)
   refine take_ (i := 5) (N := some 30) (v := ?_) (a' := ?_) #[true,true,true,false,false,true,true,false,false,false,false,false] rfl rfl (by kernel_rfl) (fun _ _ _ h => h) (Or.inl ⟨by rfl, ?_⟩) hHeld ?_ ?_
   rotate_left; (rintro w' ⟨s0, s1, s2, s3, s4, s5⟩; go_simp; with_reducible rfl); rotate_left; (simp only [Act.put, List.setIfInBounds_toArray, List.set_cons_zero, List.set_cons_succ, i64_w, i32_w]; rfl)
   have F0 := Lib.hid (⟨HM.out, HL.out, Kd.R_drew R1.out, Kd.R_drew R2.out, HBX.out, (Tr.refl W).drew, HSS.out⟩ : Fx a0_0 w.heap.size B Bx x.2 (.slice A7 X1.length c7) (.slice A8 X2.length c8) X2 W (.slice A7 X1.length c7) X1 W.drew)
   have hHB : w.heap.size ≤ B := by omega
   clear HM HL R1 R2 HBX HSS c11 c20 b0 b1 b2 b3
   generalize W.drew = Y at F0 hHeld ⊢
   have hx1 : X1.length ≤ 10 := by rw [← EX1.out, List.length_map]; have := HLEN.out; have := (chk_ok (outsV_ok HV.out).1).2.2.1; omega
   have hx2 : X2.length ≤ 10 := by rw [← EX2.out, List.length_map]; have := HLEN.out; have := (chk_ok (outsV_ok HV.out).1).2.2.1; omega
   refine join_ (σ := Value × Value × Nat) 3 #[true,true,true,true,true,true,true,true,false,true,false,false] (fun s => [(28, s.1), (29, s.2.1), (32, .slice (some ⟨s.2.2, 0, none⟩) 1 1), (34, .pointer (some ⟨w.heap.size + 1, 1, none⟩))])
    (fun s W' => Fx a0_0 w.heap.size B Bx x.2 (.slice A7 X1.length c7) (.slice A8 X2.length c8) X2 W s.2.1 (X1 ++ [x.2]) W' ∧ W'.heap[s.2.2]? = some (.cells #[.int .i64 (x.1 : Int)] 3 (0, 0)) ∧ some s.2.2 ≠ (Value.slice A8 X2.length c8).ownBlock) ?after ?orders
   case after =>
    rintro ⟨b28, vn, b7⟩ W1 ⟨hF, hbk7, hne7⟩
    have HF1 := Lib.hid hF
    have HB7 := Lib.hid hbk7
    clear hF hbk7 hne7
    refine norm_ (a' := ?_) ?_ ?_
    rotate_left
    ·simp only [putAll, Act.put, List.setIfInBounds_toArray, List.set_cons_zero, List.set_cons_succ, i64_w, i32_w]
     rfl
    refine last_ (i := 8) (N := some 33) #[true,true,true,true,true,true,true,true,true,true,false,false] rfl rfl (by kernel_rfl) (by decide) (fun K hK => ?_)
    refine step_append_src (Kd.int .i64) B (by rfl) (.tmp 30) (.tmp 32) 25 3 (.int .i64 0) 8 rfl Try.underlying25 info3 rfl (by decide) (by omega) (.slice A8 X2.length c8) X2 (x.1 : Int) [.int .i64 (x.1 : Int)] (fun _ => True) (fun _ => False) ⟨b7, 0, none⟩ 1 rfl rfl rfl (fun _ hk => hk.elim) (fun _ _ => trivial) (news_at HB7.out) HF1.out.r2 HF1.out.sz (by omega) ?_
    intro vm W2 hr2 hg hat
    have hm2 := blk_grown HF1.out.m hg (Kd.R_ne HF1.out.r2 HF1.out.m (by decide))
    have hl2 := blk_grown HF1.out.l hg (Kd.R_ne HF1.out.r2 HF1.out.l (by decide))
    have hr1 := Kd.R_over' HF1.out.r1 (Kd.R_typed HF1.out.r2) (by decide) hg
    have ht2 := HF1.out.tr.grown HF1.out.r2 hg HF1.out.sz hHB
    have hs2 := Nat.le_trans HF1.out.sz hg.size
    dsimp only at hr1
    obtain ⟨A9, c9, rfl⟩ := Kd.R_slice hr1
    obtain ⟨A10, c10, rfl⟩ := Kd.R_slice hr2
    clear hat hg
    refine hK.out _ _ ?_
    clear hK K
    refine norm_ (a' := ?_) ?_ ?_
    rotate_left
    ·show Act.put _ (some 33) _ = _
     simp only [Act.put, List.setIfInBounds_toArray, List.set_cons_zero, List.set_cons_succ, i64_w, i32_w]
     rfl
    have d11 : W2.cell? ⟨w.heap.size + 1, 1, none⟩ = some (.slice A7 X1.length c7) := (kC hm2 1).trans rfl
    have g11 := kF hm2 1
    refine last_ (i := 10) (N := none) #[true,true,true,true,true,true,true,true,true,true,true,false] rfl rfl (by kernel_rfl) (by decide) (fun K hK => ?_)
    refine skip_ (w1 := W2.setCell ⟨w.heap.size + 1, 1, none⟩ (.slice A9 (X1 ++ [x.2]).length c9)) (by rfl) rfl ?_ ?_
    ·go_simp
    refine hK.out _ _ ?_
    clear hK K
    have hl3 := kR (p := ⟨w.heap.size + 1, 1, none⟩) hl2 (by simp) (.slice A9 (X1 ++ [x.2]).length c9)
    have d20 : W2.cell? ⟨w.heap.size + 1 + 1, 0, none⟩ = some (.slice A8 X2.length c8) := (kC hl2 0).trans rfl
    have g20 := kF hl2 0
    refine last_ (i := 11) (N := none) #[true,true,true,true,true,true,true,true,true,true,true,true] rfl rfl (by kernel_rfl) (by decide) (fun K hK => ?_)
    refine skip_ (w1 := (W2.setCell ⟨w.heap.size + 1, 1, none⟩ (.slice A9 (X1 ++ [x.2]).length c9)).setCell ⟨w.heap.size + 1 + 1, 0, none⟩ (.slice A10 (X2 ++ [(x.1 : Int)]).length c10)) (by rfl) rfl ?_ ?_
    ·go_simp
    refine hK.out _ _ ?_
    clear hK K
    refine done_ (by kernel_rfl) ?_
    refine (?_ : KeepsFrom _ _ _ ∧ KpS _ _ _ ∧ _)
    have ht4 := (ht2.set (w.heap.size + 1) 1 (.inl rfl) (by omega) (by omega) (.slice A9 (X1 ++ [x.2]).length c9)).set (w.heap.size + 1 + 1) 0 (.inr rfl) (by omega) (by omega) (.slice A10 (X2 ++ [(x.1 : Int)]).length c10)
    have hm4 := kR (p := ⟨w.heap.size + 1 + 1, 0, none⟩) (blk_set hm2 1 (.slice A9 (X1 ++ [x.2]).length c9)) (by simp) (.slice A10 (X2 ++ [(x.1 : Int)]).length c10)
    have hl4 := blk_set hl3 0 (.slice A10 (X2 ++ [(x.1 : Int)]).length c10)
    refine ⟨by rw [HBS.out]; exact ht4.kf, ht4.kp, _, _, hm4, hl4, ?_, ?_, HBB.out.trans ht4.bl, ?_⟩
    ·rw [List.map_append, EX1.out]
     exact Kd.R_mono (Kd.R_far (Kd.R_far (Kd.R_reok (ok := fun k => k ≠ w.heap.size + 1 ∧ k ≠ w.heap.size + 1 + 1) rfl hr1 (fun k e => by have := Kd.R_base hr1 k e; omega)) (fun k hk => hk.1) _) (fun k hk => hk.2) _) (fun _ _ => trivial)
    ·rw [List.map_append, EX2.out]
     exact Kd.R_mono (Kd.R_far (Kd.R_far (Kd.R_reok (ok := fun k => k ≠ w.heap.size + 1 ∧ k ≠ w.heap.size + 1 + 1) rfl hr2 (fun k e => by have := Kd.R_base hr2 k e; omega)) (fun k hk => hk.1) _) (fun k hk => hk.2) _) (fun _ _ => trivial)
    ·simp [World.setCell]; exact hs2
   case orders =>
    intro hcont
    have HC := Lib.hid hcont
    clear hcont
    refine two_ (i := 3) (j := 7) (Ni := some 28) (Nj := some 32) #[true,true,true,true,false,true,true,false,false,false,false,false] #[true,true,true,false,false,true,true,true,false,false,false,false] rfl rfl rfl rfl (by kernel_rfl) (by decide) (by decide) (fun K hK => ?_) (fun K hK => ?_)
    ·refine value_ (w1 := ?_) (v := ?_) (by rfl) rfl ?_ ?_
     rotate_left 2
     ·go_simp
      constructor
      ·rfl
      ·rfl
     have Fa := Lib.hid (F0.out.alloc hHB (.cells #[.int .i64 x.2.f0, .int .i64 x.2.f1, .int .i64 x.2.f2, .int .i64 x.2.f3] 37))
     have bk3 : (Y.alloc (.cells #[.int .i64 x.2.f0, .int .i64 x.2.f1, .int .i64 x.2.f2, .int .i64 x.2.f3] 37)).heap[Y.heap.size]? = some (.cells #[.int .i64 x.2.f0, .int .i64 x.2.f1, .int .i64 x.2.f2, .int .i64 x.2.f3] 37 (0, 0)) := heap_alloc_new Y _
     refine hK.out _ _ Fa.out.held (fun hHeld => ?_)
     clear hK K
     refine norm_ (a' := ?_) ?_ ?_
     rotate_left
     ·show Act.put _ (some 28) _ = _
      simp only [Act.put, List.setIfInBounds_toArray, List.set_cons_zero, List.set_cons_succ, i64_w, i32_w]
      rfl
     generalize Y.alloc (.cells #[.int .i64 x.2.f0, .int .i64 x.2.f1, .int .i64 x.2.f2, .int .i64 x.2.f3] 37) = Ya at Fa bk3 hHeld ⊢
     generalize Y.heap.size = b3 at bk3 ⊢
     have Hbk3 := Lib.hid bk3
     clear bk3
     refine two_ (i := 4) (j := 7) (Ni := some 29) (Nj := some 32) #[true,true,true,true,true,true,true,false,false,false,false,false] #[true,true,true,true,false,true,true,true,false,false,false,false] rfl rfl rfl rfl (by kernel_rfl) (by decide) (by decide) (fun K hK => ?_) (fun K hK => ?_)
     ·refine step_append_src k37 B (by rfl) (.tmp 26) (.tmp 28) 22 37 (.agg #[(.int .i64 0), (.int .i64 0), (.int .i64 0), (.int .i64 0)]) 32 rfl Try.underlying22 info37 rfl (by decide) (by omega) (.slice A7 X1.length c7) X1 x.2 [.int .i64 x.2.f0, .int .i64 x.2.f1, .int .i64 x.2.f2, .int .i64 x.2.f3] (fun _ => True) (fun _ => False) ⟨b3, 0, none⟩ 1 rfl rfl (k37_mkM _ _ _ x.2) (fun _ hk => hk.elim) (fun _ _ => trivial) (news_at Hbk3.out) Fa.out.r1 Fa.out.sz (by omega) ?_
      intro vn Yb hr hg hat
      have Fb := Lib.hid (Fa.out.append hHB HNE.out hg hr)
      clear hr hg hat
      refine hK.out _ _ Fb.out.held (fun hHeld => ?_)
      clear hK K
      refine norm_ (a' := ?_) ?_ ?_
      rotate_left
      ·show Act.put _ (some 29) _ = _
       simp only [Act.put, List.setIfInBounds_toArray, List.set_cons_zero, List.set_cons_succ, i64_w, i32_w]
       rfl
      refine pure_ (i := 9) (N := some 34) (v := ?_) (a' := ?_) #[true,true,true,true,true,true,true,false,false,true,false,false] rfl rfl (by kernel_rfl) (fun _ _ _ h => h) (Or.inl ⟨by rfl, ?_⟩) ?_ ?_
      rotate_left; (intro w'; go_simp; with_reducible rfl); rotate_left; (simp only [Act.put, List.setIfInBounds_toArray, List.set_cons_zero, List.set_cons_succ, i64_w, i32_w]; rfl)
      refine one_ (i := 7) (N := some 32) #[true,true,true,true,true,true,true,true,false,true,false,false] rfl rfl (by kernel_rfl) (by decide) (fun K hK => ?_)
      refine value_ (w1 := ?_) (v := ?_) (by rfl) rfl ?_ ?_
      rotate_left 2
      ·go_simp
       constructor
       ·rfl
       ·rfl
      have Fc := Lib.hid (Fb.out.alloc hHB (.cells #[.int .i64 (x.1 : Int)] 3))
      have bk7 : (Yb.alloc (.cells #[.int .i64 (x.1 : Int)] 3)).heap[Yb.heap.size]? = some (.cells #[.int .i64 (x.1 : Int)] 3 (0, 0)) := heap_alloc_new Yb _
      have ne7 := Kd.R_ne_new Fb.out.r2 0
      rw [Nat.add_zero] at ne7
      refine hK.out _ _ Fc.out.held (fun hHeld => ?_)
      clear hK K
      refine norm_ (a' := ?_) ?_ ?_
      rotate_left
      ·show Act.put _ (some 32) _ = _
       simp only [Act.put, List.setIfInBounds_toArray, List.set_cons_zero, List.set_cons_succ, i64_w, i32_w]
       rfl
      generalize Yb.alloc (.cells #[.int .i64 (x.1 : Int)] 3) = Yc at Fc bk7 hHeld ⊢
      generalize Yb.heap.size = b7 at bk7 ne7 ⊢
      have Hbk7 := Lib.hid bk7
      clear bk7
      have HN7 := Lib.hid ne7
      clear ne7
      exact HC.out (_, _, b7) _ ⟨Fc.out, Hbk7.out, HN7.out⟩
     ·refine value_ (w1 := ?_) (v := ?_) (by rfl) rfl ?_ ?_
      rotate_left 2
      ·go_simp
       constructor
       ·rfl
       ·rfl
      have Fb := Lib.hid (Fa.out.alloc hHB (.cells #[.int .i64 (x.1 : Int)] 3))
      have bk7 : (Ya.alloc (.cells #[.int .i64 (x.1 : Int)] 3)).heap[Ya.heap.size]? = some (.cells #[.int .i64 (x.1 : Int)] 3 (0, 0)) := heap_alloc_new Ya _
      have Hbk3' := Lib.hid (kA Hbk3.out (.cells #[.int .i64 (x.1 : Int)] 3))
      have ne7 := Kd.R_ne_new Fa.out.r2 0
      rw [Nat.add_zero] at ne7
      refine hK.out _ _ Fb.out.held (fun hHeld => ?_)
      clear hK K
      refine norm_ (a' := ?_) ?_ ?_
      rotate_left
      ·show Act.put _ (some 32) _ = _
       simp only [Act.put, List.setIfInBounds_toArray, List.set_cons_zero, List.set_cons_succ, i64_w, i32_w]
       rfl
      generalize Ya.alloc (.cells #[.int .i64 (x.1 : Int)] 3) = Yb at Fb bk7 Hbk3' hHeld ⊢
      generalize Ya.heap.size = b7 at bk7 ne7 ⊢
      have Hbk7 := Lib.hid bk7
      clear bk7
      have HN7 := Lib.hid ne7
      clear ne7; clear Hbk3
      have Hbk3 := Hbk3'
      clear Hbk3'
      refine one_ (i := 4) (N := some 29) #[true,true,true,true,true,true,true,true,false,false,false,false] rfl rfl (by kernel_rfl) (by decide) (fun K hK => ?_)
      refine step_append_src k37 B (by rfl) (.tmp 26) (.tmp 28) 22 37 (.agg #[(.int .i64 0), (.int .i64 0), (.int .i64 0), (.int .i64 0)]) 32 rfl Try.underlying22 info37 rfl (by decide) (by omega) (.slice A7 X1.length c7) X1 x.2 [.int .i64 x.2.f0, .int .i64 x.2.f1, .int .i64 x.2.f2, .int .i64 x.2.f3] (fun _ => True) (fun _ => False) ⟨b3, 0, none⟩ 1 rfl rfl (k37_mkM _ _ _ x.2) (fun _ hk => hk.elim) (fun _ _ => trivial) (news_at Hbk3.out) Fb.out.r1 Fb.out.sz (by omega) ?_
      intro vn Yc hr hg hat
      have Fc := Lib.hid (Fb.out.append hHB HNE.out hg hr)
      have Hbk7' := Lib.hid (blk_grown Hbk7.out hg (Kd.R_ne Fb.out.r1 Hbk7.out (by decide)))
      clear Hbk7
      have Hbk7 := Hbk7'
      clear Hbk7'; clear hr hg hat
      refine hK.out _ _ Fc.out.held (fun hHeld => ?_)
      clear hK K
      refine norm_ (a' := ?_) ?_ ?_
      rotate_left
      ·show Act.put _ (some 29) _ = _
       simp only [Act.put, List.setIfInBounds_toArray, List.set_cons_zero, List.set_cons_succ, i64_w, i32_w]
       rfl
      refine pure_ (i := 9) (N := some 34) (v := ?_) (a' := ?_) #[true,true,true,true,true,true,true,true,false,true,false,false] rfl rfl (by kernel_rfl) (fun _ _ _ h => h) (Or.inl ⟨by rfl, ?_⟩) ?_ ?_
      rotate_left; (intro w'; go_simp; with_reducible rfl); rotate_left; (simp only [Act.put, List.setIfInBounds_toArray, List.set_cons_zero, List.set_cons_succ, i64_w, i32_w]; rfl)
      exact HC.out (_, _, b7) _ ⟨Fc.out, Hbk7.out, HN7.out⟩
    ·refine value_ (w1 := ?_) (v := ?_) (by rfl) rfl ?_ ?_
     rotate_left 2
     ·go_simp
      constructor
      ·rfl
      ·rfl
     have Fa := Lib.hid (F0.out.alloc hHB (.cells #[.int .i64 (x.1 : Int)] 3))
     have bk7 : (Y.alloc (.cells #[.int .i64 (x.1 : Int)] 3)).heap[Y.heap.size]? = some (.cells #[.int .i64 (x.1 : Int)] 3 (0, 0)) := heap_alloc_new Y _
     have ne7 := Kd.R_ne_new F0.out.r2 0
     rw [Nat.add_zero] at ne7
     refine hK.out _ _ Fa.out.held (fun hHeld => ?_)
     clear hK K
     refine norm_ (a' := ?_) ?_ ?_
     rotate_left
     ·show Act.put _ (some 32) _ = _
      simp only [Act.put, List.setIfInBounds_toArray, List.set_cons_zero, List.set_cons_succ, i64_w, i32_w]
      rfl
     generalize Y.alloc (.cells #[.int .i64 (x.1 : Int)] 3) = Ya at Fa bk7 hHeld ⊢
     generalize Y.heap.size = b7 at bk7 ne7 ⊢
     have Hbk7 := Lib.hid bk7
     clear bk7
     have HN7 := Lib.hid ne7
     clear ne7
     refine one_ (i := 3) (N := some 28) #[true,true,true,true,false,true,true,true,false,false,false,false] rfl rfl (by kernel_rfl) (by decide) (fun K hK => ?_)
     refine value_ (w1 := ?_) (v := ?_) (by rfl) rfl ?_ ?_
     rotate_left 2
     ·go_simp
      constructor
      ·rfl
      ·rfl
     have Fb := Lib.hid (Fa.out.alloc hHB (.cells #[.int .i64 x.2.f0, .int .i64 x.2.f1, .int .i64 x.2.f2, .int .i64 x.2.f3] 37))
     have bk3 : (Ya.alloc (.cells #[.int .i64 x.2.f0, .int .i64 x.2.f1, .int .i64 x.2.f2, .int .i64 x.2.f3] 37)).heap[Ya.heap.size]? = some (.cells #[.int .i64 x.2.f0, .int .i64 x.2.f1, .int .i64 x.2.f2, .int .i64 x.2.f3] 37 (0, 0)) := heap_alloc_new Ya _
     have Hbk7' := Lib.hid (kA Hbk7.out (.cells #[.int .i64 x.2.f0, .int .i64 x.2.f1, .int .i64 x.2.f2, .int .i64 x.2.f3] 37))
     refine hK.out _ _ Fb.out.held (fun hHeld => ?_)
     clear hK K
     refine norm_ (a' := ?_) ?_ ?_
     rotate_left
     ·show Act.put _ (some 28) _ = _
      simp only [Act.put, List.setIfInBounds_toArray, List.set_cons_zero, List.set_cons_succ, i64_w, i32_w]
      rfl
     generalize Ya.alloc (.cells #[.int .i64 x.2.f0, .int .i64 x.2.f1, .int .i64 x.2.f2, .int .i64 x.2.f3] 37) = Yb at Fb bk3 Hbk7' hHeld ⊢
     generalize Ya.heap.size = b3 at bk3 ⊢
     have Hbk3 := Lib.hid bk3
     clear bk3; clear Hbk7
     have Hbk7 := Hbk7'
     clear Hbk7'
     refine one_ (i := 4) (N := some 29) #[true,true,true,true,true,true,true,true,false,false,false,false] rfl rfl (by kernel_rfl) (by decide) (fun K hK => ?_)
     refine step_append_src k37 B (by rfl) (.tmp 26) (.tmp 28) 22 37 (.agg #[(.int .i64 0), (.int .i64 0), (.int .i64 0), (.int .i64 0)]) 32 rfl Try.underlying22 info37 rfl (by decide) (by omega) (.slice A7 X1.length c7) X1 x.2 [.int .i64 x.2.f0, .int .i64 x.2.f1, .int .i64 x.2.f2, .int .i64 x.2.f3] (fun _ => True) (fun _ => False) ⟨b3, 0, none⟩ 1 rfl rfl (k37_mkM _ _ _ x.2) (fun _ hk => hk.elim) (fun _ _ => trivial) (news_at Hbk3.out) Fb.out.r1 Fb.out.sz (by omega) ?_
     intro vn Yc hr hg hat
     have Fc := Lib.hid (Fb.out.append hHB HNE.out hg hr)
     have Hbk7' := Lib.hid (blk_grown Hbk7.out hg (Kd.R_ne Fb.out.r1 Hbk7.out (by decide)))
     clear Hbk7
     have Hbk7 := Hbk7'
     clear Hbk7'; clear hr hg hat
     refine hK.out _ _ Fc.out.held (fun hHeld => ?_)
     clear hK K
     refine norm_ (a' := ?_) ?_ ?_
     rotate_left
     ·show Act.put _ (some 29) _ = _
      simp only [Act.put, List.setIfInBounds_toArray, List.set_cons_zero, List.set_cons_succ, i64_w, i32_w]
      rfl
     refine pure_ (i := 9) (N := some 34) (v := ?_) (a' := ?_) #[true,true,true,true,true,true,true,true,false,true,false,false] rfl rfl (by kernel_rfl) (fun _ _ _ h => h) (Or.inl ⟨by rfl, ?_⟩) ?_ ?_
     rotate_left; (intro w'; go_simp; with_reducible rfl); rotate_left; (simp only [Act.put, List.setIfInBounds_toArray, List.set_cons_zero, List.set_cons_succ, i64_w, i32_w]; rfl)
     exact HC.out (_, _, b7) _ ⟨Fc.out, Hbk7.out, HN7.out⟩
  case done =>
   rintro D xs W hD hxs ⟨v1, v2, hm, hl, h1, h2, hb, hs⟩ hK
   obtain ⟨X1, hX1⟩ : ∃ X1, X1 = xs.map (fun p => p.2) := ⟨_, rfl⟩
   obtain ⟨X2, hX2⟩ : ∃ X2, X2 = xs.map (fun p => (p.1 : Int)) := ⟨_, rfl⟩
   rw [← hX1] at h1
   rw [← hX2] at h2
   have E1 := Lib.hid (show X1 = (inn l0_1 l1).map (fun (k : Nat) => rd_T37 l0_1 (k : Int)) by rw [hX1, hxs, insF_inn, List.map_map]; rfl)
   have E2 := Lib.hid (show X2 = (inn l0_1 l1).map (fun (k : Nat) => (k : Int)) by rw [hX2, hxs, insF_inn, List.map_map]; rfl)
   clear hX1 hX2 hxs
   have hH' := HH'.out
   clear HH'
   subst hH'
   have c10 : W.cell? ⟨w.heap.size + 1, 0, none⟩ = some (.int .i64 a0_0) := (kC hm 0).trans rfl
   have c11 : W.cell? ⟨w.heap.size + 1, 1, none⟩ = some v1 := (kC hm 1).trans rfl
   have c20 : W.cell? ⟨w.heap.size + 1 + 1, 0, none⟩ = some v2 := (kC hl 0).trans rfl
   have f10 := kF hm 0
   have f11 := kF hm 1
   have f20 := kF hl 0
   obtain ⟨A7, c7, rfl⟩ := Kd.R_slice h1
   obtain ⟨A8, c8, rfl⟩ := Kd.R_slice h2
   have HM := Lib.hid hm
   have HL := Lib.hid hl
   have R1 := Lib.hid h1
   have R2 := Lib.hid h2
   have HBB := Lib.hid hb
   have HSS := Lib.hid hs
   have HD := Lib.hid hD
   have HK := Lib.hid hK
   clear hm hl h1 h2 hb hs hD hK
   gi_wp2
   gi_region
   have e1 : ((W.setCell ⟨w.heap.size + 1, 0, none⟩ (.int .i64 a0_0)).setCell ⟨w.heap.size + 1, 1, none⟩ (.slice A7 X1.length c7)).setCell ⟨w.heap.size + 1 + 1, 0, none⟩ (.slice A8 X2.length c8) = W := by
    rw [setCell_id (i := 0) (v := .int .i64 a0_0) HM.out rfl, setCell_id (i := 1) (v := .slice A7 X1.length c7) HM.out rfl, setCell_id (i := 0) (v := .slice A8 X2.length c8) HL.out rfl]
   have hM := HM.out
   have hL := HL.out
   have hR1 := R1.out
   have hR2 := R2.out
   clear HM HL R1 R2 c10 c11 c20 f10 f11 f20
   rw [e1]
   clear e1
   gi_wp2
   refine ⟨by simp, .inl ⟨_, _, rfl, run_takeDeferred (w := W.drew) HK.out, ?_⟩⟩
   have gD := grownBy_putObj' W.drew D (.deferred none)
   have hrow : ∀ r, some D = some r → ∃ o : Obj, W.drew.heap[r]? = some o ∧ o.isCells = false := fun r e => by cases e; exact ⟨_, HK.out, rfl⟩
   have hDw : w.heap.size + 1 + 1 < D := by have := HD.out; rw [HBS.out] at this; omega
   have hM2 := blk_grown (w := W.drew) hM gD (by simp; omega)
   have hL2 := blk_grown (w := W.drew) hL gD (by simp; omega)
   have q1 := R_grown_walk rfl (Kd.R_drew hR1) gD hrow
   have q2 := R_grown_walk rfl (Kd.R_drew hR2) gD hrow
   have q3 : Below w.heap.size w (W.drew.putObj D (.deferred none)) := (BW6.out.trans HBB.out).trans (((Below.refl _ _).drew).grown gD (by have := HSS.out; show w.heap.size ≤ W.heap.size; omega) (fun k e => by cases e; omega))
   generalize W.drew.putObj D (.deferred none) = Wf at hM2 hL2 q1 q2 q3 ⊢
   have d10 : Wf.cell? ⟨w.heap.size + 1, 0, none⟩ = some (.int .i64 a0_0) := (kC hM2 0).trans rfl
   have d11 : Wf.cell? ⟨w.heap.size + 1, 1, none⟩ = some (.slice A7 X1.length c7) := (kC hM2 1).trans rfl
   have d20 : Wf.cell? ⟨w.heap.size + 1 + 1, 0, none⟩ = some (.slice A8 X2.length c8) := (kC hL2 0).trans rfl
   refine ⟨.tuple #[.agg #[.int .i64 a0_0, .slice A7 X1.length c7], .slice A8 X2.length c8, .int .i64 0], ?_, ?_⟩
   ·simp [results, Try.f32, go_sem, d10, d11, d20]
   ·rw [← E1.out, ← E2.out]
    exact ⟨_, _, rfl, Kd.R_lower q1 (by omega), Kd.R_lower q2 (by omega), q3⟩
  case stop =>
   rintro D c pre W _ _ h _
   exact h.elim
 ·rw [nStrip.f, if_neg hv] at h
  simp only [Option.some.injEq, Prod.mk.injEq] at h
  obtain ⟨rfl, rfl, rfl, rfl⟩ := h
  have hvb : (outsV a0_0 l0_1 l1 != 0) = true := by simpa using hv
  generalize outsV a0_0 l0_1 l1 = ev at HOF hvb ⊢
  clear hv
  go_enter Try.func32, Try.ntmps32
  go_wp2_with (go_at_call 31; refine (nOuts.calls (l1.length + 1) a0_0 _ _ l0_1 _ _ l1 ev _ ?side1 hc0_1 ?side2 hc1 HOF.out).mono ?_; (case side1 => exact Kd.C_below HR0.out (((((Below.refl _ w).alloc (Nat.le_refl _) _).alloc (by simp) _).alloc (by simp; omega) _))); (case side2 => exact Kd.C_below HR1.out (((((Below.refl _ w).alloc (Nat.le_refl _) _).alloc (by simp) _).alloc (by simp; omega) _))); rintro e w4 ⟨rfl, hb4⟩; obtain ⟨k0, k1, k2, hsz, hbw⟩ := boxes3 hb4; have K0 := Lib.hid k0; have K1 := Lib.hid k1; have K2 := Lib.hid k2; have HBW := Lib.hid hbw; clear hb4 k0 k1 k2 hbw; have c00 : w4.cell? ⟨w.heap.size, 0, none⟩ = some (.int .i64 a0_0) := (kC K0.out 0).trans rfl; have c10 : w4.cell? ⟨w.heap.size + 1, 0, none⟩ = some (.int .i64 0) := (kC K1.out 0).trans rfl; have c11 : w4.cell? ⟨w.heap.size + 1, 1, none⟩ = some (.slice none 0 0) := (kC K1.out 1).trans rfl; have f10 := kF K1.out 0; have f11 := kF K1.out 1; have c20 : w4.cell? ⟨w.heap.size + 1 + 1, 0, none⟩ = some (.slice none 0 0) := (kC K2.out 0).trans rfl; have f20 := kF K2.out 0)
  have e1 : ((w4.setCell ⟨w.heap.size + 1, 0, none⟩ (.int .i64 0)).setCell ⟨w.heap.size + 1, 1, none⟩ (.slice none 0 0)).setCell ⟨w.heap.size + 1 + 1, 0, none⟩ (.slice none 0 0) = w4 := by
   rw [setCell_id (i := 0) (v := .int .i64 0) K1.out rfl, setCell_id (i := 1) (v := .slice none 0 0) K1.out rfl, setCell_id (i := 0) (v := .slice none 0 0) K2.out rfl]
  rw [e1]
  exact bodyPost_ret (v := .tuple #[.agg #[.int .i64 0, .slice none 0 0], .slice none 0 0, .int .i64 ev]) (by simp [results, Try.f32, go_sem, c10, c11, c20]) rfl ⟨_, _, rfl, Kd.R_nil _ _ _ _ _, Kd.R_nil _ _ _ _ _, HBW.out⟩
end
section
def merge (f : Nat → Nat) (e : Nat × Nat) : Nat → Nat := fun x => if f x = max (f e.1) (f e.2) then min (f e.1) (f e.2) else f x
def lab (E : List (Nat × Nat)) : Nat → Nat := E.foldl merge id
theorem lab_snoc (E : List (Nat × Nat)) (e : Nat × Nat) : lab (E ++ [e]) = merge (lab E) e := by simp [lab]
theorem merge_same {f : Nat → Nat} {e : Nat × Nat} (h : f e.1 = f e.2) : merge f e = f := by
  funext x; unfold merge; split <;> omega
structure UF (l : List Int) (f : Nat → Nat) (N : Nat) : Prop where
  len : l.length = N
  le : ∀ b, f b ≤ b
  idem : ∀ b, f (f b) = f b
  par : ∀ b, b < N → ∃ p : Nat, rd l (b : Int) = (p : Int) ∧ p ≤ b ∧ f p = f b ∧ (p = b → f b = b)
theorem UF.start (N : Nat) : UF ((List.range N).map (fun (b : Nat) => (b : Int))) id N := by
  refine ⟨by simp, fun b => Nat.le_refl _, fun b => rfl, fun b hb => ⟨b, ?_, Nat.le_refl _, rfl, fun _ => rfl⟩⟩
  rw [rd_nat _ b (by simpa using hb)]; simp
theorem rd_set {l : List Int} {i j : Nat} {v : Int} (hi : i < l.length) : rd (l.set i v) (j : Int) = if j = i then v else rd l (j : Int) := by
  unfold rd
  simp only [Int.toNat_natCast, List.getD_eq_getElem?_getD]
  by_cases h : j = i
  · subst h; simp [hi]
  · rw [if_neg h, List.getElem?_set_ne (fun e => h e.symm)]
theorem idem_max {f : Nat → Nat} {u v : Nat} (h1 : f (f u) = f u) (h2 : f (f v) = f v) : f (max (f u) (f v)) = max (f u) (f v) := by
  rcases Nat.le_total (f u) (f v) with hh | hh
  · rw [Nat.max_eq_right hh]; exact h2
  · rw [Nat.max_eq_left hh]; exact h1
theorem idem_min {f : Nat → Nat} {u v : Nat} (h1 : f (f u) = f u) (h2 : f (f v) = f v) : f (min (f u) (f v)) = min (f u) (f v) := by
  rcases Nat.le_total (f u) (f v) with hh | hh
  · rw [Nat.min_eq_left hh]; exact h1
  · rw [Nat.min_eq_right hh]; exact h2
theorem UF.union {l : List Int} {f : Nat → Nat} {N : Nat} (h : UF l f N) {u v : Nat} (hu : u < N) (hv : v < N) (hne : f u ≠ f v) : UF (l.set (max (f u) (f v)) ((min (f u) (f v) : Nat) : Int)) (merge f (u, v)) N := by
  have h1 := h.le u
  have h2 := h.le v
  have hm : max (f u) (f v) < N := by omega
  have iM := idem_max (h.idem u) (h.idem v)
  have im := idem_min (h.idem u) (h.idem v)
  have hlt : min (f u) (f v) < max (f u) (f v) := by omega
  have hmg : ∀ x, merge f (u, v) x = if f x = max (f u) (f v) then min (f u) (f v) else f x := fun x => rfl
  generalize max (f u) (f v) = M at *
  generalize min (f u) (f v) = m at *
  refine ⟨by simp [h.len], fun b => ?_, fun b => ?_, fun b hb => ?_⟩
  · rw [hmg]; have := h.le b; split <;> omega
  · rw [hmg b]
    by_cases hb : f b = M
    · rw [if_pos hb, hmg, im, if_neg (by omega)]
    · rw [if_neg hb, hmg, h.idem b, if_neg hb]
  · obtain ⟨p, hp, hpb, hfp, hpe⟩ := h.par b hb
    rw [rd_set (by rw [h.len]; exact hm)]
    by_cases hbM : b = M
    · subst hbM
      refine ⟨m, by rw [if_pos rfl], by omega, ?_, fun e => by omega⟩
      rw [hmg, hmg, im, if_neg (by omega), if_pos iM]
    · refine ⟨p, by rw [if_neg hbM]; exact hp, hpb, by rw [hmg, hmg, hfp], fun e => ?_⟩
      rw [hmg, hpe e, if_neg hbM]
theorem UF.flat {l : List Int} {f : Nat → Nat} {N : Nat} (h : UF l f N) {b : Nat} (hb : b < N) : UF (l.set b ((f b : Nat) : Int)) f N := by
  refine ⟨by simp [h.len], h.le, h.idem, fun c hc => ?_⟩
  rw [rd_set (by rw [h.len]; exact hb)]
  by_cases e : c = b
  · subst e
    exact ⟨f c, by rw [if_pos rfl], h.le c, h.idem c, fun e => e⟩
  · rw [if_neg e]; exact h.par c hc
def Lb (f : Nat → Nat) : Prop := ∀ b, f b ≤ b ∧ f (f b) = f b
theorem Lb.merge {f : Nat → Nat} (ih : Lb f) (e : Nat × Nat) : Lb (merge f e) := by
  intro b
  by_cases hs : f e.1 = f e.2
  · rw [merge_same hs]; exact ih b
  · have iM := idem_max (ih e.1).2 (ih e.2).2
    have im := idem_min (ih e.1).2 (ih e.2).2
    have hmg : ∀ x, P.merge f e x = if f x = max (f e.1) (f e.2) then min (f e.1) (f e.2) else f x := fun x => rfl
    have hlt : min (f e.1) (f e.2) < max (f e.1) (f e.2) := by omega
    generalize max (f e.1) (f e.2) = M at *
    generalize min (f e.1) (f e.2) = m at *
    have := (ih b).1
    by_cases hb : f b = M
    · rw [hmg b, if_pos hb, hmg, im, if_neg (by omega)]; omega
    · rw [hmg b, if_neg hb, hmg, (ih b).2, if_neg hb]; omega
theorem Lb.fold (E : List (Nat × Nat)) : ∀ f, Lb f → Lb (E.foldl P.merge f) := by
  induction E with
  | nil => intro f h; exact h
  | cons e E ih => intro f h; exact ih _ (h.merge e)
theorem lab_lb (E : List (Nat × Nat)) : Lb (lab E) := Lb.fold E id (fun b => ⟨Nat.le_refl _, rfl⟩)
end
section
theorem merge_keep {f : Nat → Nat} (e : Nat × Nat) {x y : Nat} (h : f x = f y) : merge f e x = merge f e y := by
  unfold merge; rw [h]
theorem merge_ends (f : Nat → Nat) (u v : Nat) : merge f (u, v) u = merge f (u, v) v := by
  unfold merge
  simp only
  split <;> split <;> omega
theorem fold_keep (E : List (Nat × Nat)) : ∀ (f : Nat → Nat) (x y : Nat), f x = f y → (E.foldl merge f) x = (E.foldl merge f) y := by
  induction E with
  | nil => intro f x y h; exact h
  | cons e E ih => intro f x y h; exact ih _ x y (merge_keep e h)
theorem fold_edge (E : List (Nat × Nat)) : ∀ (f : Nat → Nat) (e : Nat × Nat), e ∈ E → (E.foldl merge f) e.1 = (E.foldl merge f) e.2 := by
  induction E with
  | nil => intro f e h; cases h
  | cons a E ih =>
    intro f e h
    rcases List.mem_cons.1 h with rfl | h
    · exact fold_keep E _ _ _ (merge_ends f e.1 e.2)
    · exact ih _ e h
theorem lab_edge {E : List (Nat × Nat)} {e : Nat × Nat} (h : e ∈ E) : lab E e.1 = lab E e.2 := fold_edge E id e h
theorem fold_const {α : Type} (g : Nat → α) (E : List (Nat × Nat)) : ∀ f : Nat → Nat, (∀ x, g (f x) = g x) → (∀ e ∈ E, g e.1 = g e.2) → ∀ x, g ((E.foldl merge f) x) = g x := by
  induction E with
  | nil => intro f hf _ x; exact hf x
  | cons e E ih =>
    intro f hf hE x
    refine ih (merge f e) (fun z => ?_) (fun e' h => hE e' (List.mem_cons_of_mem _ h)) x
    have he := hE e (List.mem_cons_self ..)
    unfold merge
    have h1 := hf e.1
    have h2 := hf e.2
    split
    · rename_i hz
      rw [← hf z, hz]
      rcases Nat.le_total (f e.1) (f e.2) with h | h
      · rw [Nat.min_eq_left h, Nat.max_eq_right h, h1, h2, he]
      · rw [Nat.min_eq_right h, Nat.max_eq_left h, h1, h2, he]
    · exact hf z
theorem lab_const {α : Type} (g : Nat → α) {E : List (Nat × Nat)} (h : ∀ e ∈ E, g e.1 = g e.2) {x y : Nat} (hxy : lab E x = lab E y) : g x = g y := by
  have k := fold_const g E id (fun _ => rfl) h
  have e1 : g (lab E x) = g x := k x
  have e2 : g (lab E y) = g y := k y
  rw [← e1, ← e2, hxy]
end
set_option maxRecDepth 100000 in
set_option maxHeartbeats 4000000 in
theorem find_calls (g : Nat) (A : Option Addr) (c : Nat) (l : List Int) (f : Nat → Nat) (N : Nat) (b : Nat) (w : World) (hg : w.cell? ⟨g, 0, none⟩ = some (.slice A l.length c)) (hl : Kd.C (Kd.int .i64) w A l.length l) (hu : UF l f N) (hb : b < N) :
  Calls Try.prog 105 #[.int .i64 (b : Int), .pointer (some ⟨g, 0, none⟩)] w fun e w' => e = .returned (.int .i64 ((f b : Nat) : Int)) ∧ w' = w := by
 have hN : l.length = N := hu.len
 have HU := Lib.hid hu
 have HL := Lib.hid hl
 have HN := Lib.hid hN
 clear hu hl hN
 go_enter Try.func105, Try.ntmps105
 go_wp2_with fail
 go_loopg [0] b (fun k v0 w' => ∃ x : Nat, v0 = .int .i64 (x : Int) ∧ Hid (x < N ∧ f x = f b ∧ k = x) ∧ w' = w)
 case atStart => exact ⟨b, rfl, ⟨hb, rfl, rfl⟩, rfl⟩
 case round =>
  obtain ⟨x, rfl, HX, rfl⟩ := hrel
  obtain ⟨p, hp, hpx, hfp, hpe⟩ := HU.out.par x HX.out.1
  have hxl : x < l.length := by rw [HN.out]; exact HX.out.1
  have hxi : (x : Int) < (l.length : Int) := by omega
  obtain ⟨ad, e0, e1⟩ := Kd.at_int HL.out (x : Int) (by omega) hxi
  subst e0
  rw [Int.toNat_natCast, hp] at e1
  have HP := Lib.hid hp
  have HF := Lib.hid hfp
  have HPE := Lib.hid hpe
  clear hp hfp hpe
  by_cases hpx' : p = x
  ·have t1 : ((p : Int) != (x : Int)) = false := by rw [bne_eq_false_iff_eq]; omega
   have HPX := Lib.hid hpx'
   clear hpx'
   go_wp2_with fail
   go_ret
   have hfx : f b = x := by rw [← HX.out.2.1, HPE.out HPX.out]
   rw [hfx]
   exact ⟨rfl, rfl⟩
  ·have t1 : ((p : Int) != (x : Int)) = true := by rw [bne_iff_ne]; omega
   go_wp2_with fail
   go_roundg p
   case measure => have := HX.out.2.2; omega
   case rel => exact ⟨p, rfl, ⟨by have := HX.out.1; omega, by rw [HF.out]; exact HX.out.2.1, rfl⟩, rfl⟩
theorem boxes2 {w w4 : World} {c0 c1 : Array Value} {t0 t1 : TypeId} (h : Below ((w.alloc (.cells c0 t0)).alloc (.cells c1 t1)).heap.size ((w.alloc (.cells c0 t0)).alloc (.cells c1 t1)) w4) :
  w4.heap[w.heap.size]? = some (.cells c0 t0 (0, 0)) ∧ w4.heap[w.heap.size + 1]? = some (.cells c1 t1 (0, 0)) ∧ w.heap.size + 2 ≤ w4.heap.size ∧ Below w.heap.size w w4 := by
 have b0 := heap_alloc_new w (.cells c0 t0)
 have z0 : (w.alloc (.cells c0 t0)).heap.size = w.heap.size + 1 := by simp
 generalize hA : w.alloc (.cells c0 t0) = wA at *
 have hbA : Below w.heap.size w wA := by rw [← hA]; exact (Below.refl _ _).alloc (Nat.le_refl _) _
 have b1 := heap_alloc_new wA (.cells c1 t1)
 have b01 := kA b0 (.cells c1 t1)
 have hbB : Below w.heap.size w (wA.alloc (.cells c1 t1)) := hbA.alloc (by omega) _
 have z1 : (wA.alloc (.cells c1 t1)).heap.size = w.heap.size + 1 + 1 := by simp [z0]
 rw [z0] at b1
 generalize wA.alloc (.cells c1 t1) = wB at *
 exact ⟨(h.block _ (by omega)).trans b01, (h.block _ (by omega)).trans b1, by have := h.size; omega, hbB.trans (h.mono (by omega))⟩
structure St (a0 : Int) (H B0 g6 : Nat) (Am : Option Addr) (cm : Nat) (SL : List S37) (w : World) (v : Value) (X : List Int) (W : World) : Prop where
 b : W.heap[H + 1]? = some (.cells #[v] 25 (0, 0))
 m : W.heap[g6]? = some (.cells #[.int .i64 a0, .slice Am SL.length cm] 24 (0, 0))
 s : Kd.R k37 37 W H (fun k => k < B0 ∧ k ≠ H + 1) (.slice Am SL.length cm) SL
 r : Kd.R (Kd.int .i64) 3 W B0 (fun _ => True) v X
 bl : Below H w W
 sz : B0 ≤ W.heap.size
section
variable {a0 : Int} {H B0 g6 : Nat} {Am : Option Addr} {cm : Nat} {SL : List S37} {w W W5 : World} {v v' : Value} {X X' : List Int}
theorem St.alloc (h : St a0 H B0 g6 Am cm SL w v X W) (hH : H ≤ B0) (o : Obj) : St a0 H B0 g6 Am cm SL w v X (W.alloc o) :=
 ⟨kA h.b _, kA h.m _, Kd.R_alloc h.s _, Kd.R_alloc h.r _, h.bl.alloc (by have := h.sz; omega) _, by have := h.sz; simp; omega⟩
theorem St.drew (h : St a0 H B0 g6 Am cm SL w v X W) : St a0 H B0 g6 Am cm SL w v X W.drew := ⟨h.b, h.m, Kd.R_drew h.s, Kd.R_drew h.r, h.bl.drew, h.sz⟩
theorem St.drewN (h : St a0 H B0 g6 Am cm SL w v X W) (n : Nat) : St a0 H B0 g6 Am cm SL w v X (W.drewN n) := ⟨h.b, h.m, Kd.R_drewN h.s n, Kd.R_drewN h.r n, bN h.bl n, h.sz⟩
theorem St.append (h : St a0 H B0 g6 Am cm SL w v X W) (hH : H + 1 < B0) (h6 : g6 < B0) (h6' : g6 ≠ H + 1) (hr : Kd.R (Kd.int .i64) 3 W5 B0 (fun _ => True) v' X') (hg : W.grownBy W5 v.ownBlock) : W5.heap[H + 1]? = some (.cells #[v] 25 (0, 0)) ∧ St a0 H B0 g6 Am cm SL w v' X' (W5.setCell ⟨H + 1, 0, none⟩ v') := by
 have hne : ∀ k, k < B0 → some k ≠ v.ownBlock := fun k hk e => by have := Kd.R_base h.r k e.symm; omega
 have hb5 := blk_grown h.b hg (hne _ hH)
 refine ⟨hb5, blk_set hb5 0 v', kR (p := ⟨H + 1, 0, none⟩) (blk_grown h.m hg (hne _ h6)) h6' v', ?_, ?_, ?_, ?_⟩
 ·exact Kd.R_far (Kd.R_grown h.s hg (fun k hk => hne k hk.1)) (fun k hk => hk.2) _
 ·exact Kd.R_mono (Kd.R_far (Kd.R_reok (ok := fun k => k ≠ H + 1) rfl hr (fun k e => by have := Kd.R_base hr k e; omega)) (fun k hk => hk) _) (fun _ _ => trivial)
 ·exact (h.bl.grown hg (by have := h.sz; omega) (fun k e => by have := Kd.R_base h.r k e; omega)).setCell (p := ⟨H + 1, 0, none⟩) (by simp) _
 ·have := hg.size; have := h.sz; simp [World.setCell]; omega
theorem St.put {g c : Nat} (h : St a0 H B0 g6 Am cm SL w (.slice (some ⟨g, 0, none⟩) X.length c) X W) (hH : H + 1 < B0) (h6 : g6 < B0) (i : Nat) (y : Int) : St a0 H B0 g6 Am cm SL w (.slice (some ⟨g, 0, none⟩) X.length c) (X.set i y) (W.setCell ⟨g, i, none⟩ (.int .i64 y)) := by
 obtain ⟨hr, hg⟩ := Kd.R_put h.r (i : Int) y
 simp only [Int.toNat_natCast] at hr hg
 have hg0 : B0 ≤ g := Kd.R_base h.r g rfl
 have hne : ∀ k, k < B0 → k ≠ g := fun k hk => by omega
 refine ⟨kR (p := ⟨g, i, none⟩) h.b (hne _ hH) _, kR (p := ⟨g, i, none⟩) h.m (hne _ h6) _, Kd.R_far h.s (fun k hk => hne k hk.1) _, hr, h.bl.setCell (p := ⟨g, i, none⟩) (by show H ≤ g; omega) _, by have := h.sz; simp [World.setCell]; omega⟩
theorem St.cellf {g c : Nat} (h : St a0 H B0 g6 Am cm SL w (.slice (some ⟨g, 0, none⟩) X.length c) X W) (i : Nat) (hi : i < X.length) : W.cell? ⟨g, i, none⟩ = some (.int .i64 (rd X (i : Int))) ∧ W.frozen? ⟨g, i, none⟩ = false := by
 have e := Kd.R_cell (d := (0 : Int)) h.r (i : Int) (by omega) (by omega)
 rw [Int.toNat_natCast] at e
 exact e
end
def edges (L : List S37) (out : List Int) : List (Nat × Nat) := (inn L out).map (fun (k : Nat) => ((rd_T37 L (k : Int)).f0.toNat, (rd_T37 L (k : Int)).f1.toNat))
theorem edge_ok {N : Nat} {L : List S37} {out : List Int} (h : outsV (N : Int) L out = 0) {SL : List S37} (hSL : SL = (inn L out).map (fun (k : Nat) => rd_T37 L (k : Int))) (i : Nat) (hi : i < SL.length) : ∃ u v : Nat, (rd_T37 SL (i : Int)).f0 = (u : Int) ∧ (rd_T37 SL (i : Int)).f1 = (v : Int) ∧ u < N ∧ v < N ∧ u ≠ v ∧ (edges L out).take (i + 1) = (edges L out).take i ++ [(u, v)] := by
 have hi' : i < (inn L out).length := by rw [hSL] at hi; simpa using hi
 obtain ⟨k, hk⟩ : ∃ k, k = (inn L out)[i]'hi' := ⟨_, rfl⟩
 have hkm : k ∈ inn L out := by rw [hk]; exact List.getElem_mem _
 have hkl : k < L.length := by
  unfold inn at hkm
  rw [List.mem_filter, List.mem_range] at hkm
  exact hkm.1
 have hrd : rd_T37 SL (i : Int) = rd_T37 L (k : Int) := by
  rw [hSL, hk]
  simp [rd_T37, List.getD_eq_getElem?_getD, hi']
 have hmem : rd_T37 L (k : Int) ∈ L := by
  simp only [rd_T37, List.getD_eq_getElem?_getD, Int.toNat_natCast, List.getElem?_eq_getElem hkl, Option.getD_some]
  exact List.getElem_mem _
 obtain ⟨hck, _, _⟩ := outsV_ok h
 have hok := (chk_ok hck).2.2.2 _ hmem
 simp only [okLine, Bool.and_eq_true, decide_eq_true_eq, bne_iff_ne, ne_eq] at hok
 obtain ⟨⟨⟨⟨a1, a2, a3, a4⟩, a5⟩, _⟩, _⟩ := hok
 refine ⟨(rd_T37 L (k : Int)).f0.toNat, (rd_T37 L (k : Int)).f1.toNat, by rw [hrd]; omega, by rw [hrd]; omega, by omega, by omega, by omega, ?_⟩
 have hl : i < (edges L out).length := by unfold edges; rw [List.length_map]; exact hi'
 have hg : (edges L out)[i]? = some ((rd_T37 L (k : Int)).f0.toNat, (rd_T37 L (k : Int)).f1.toNat) := by
  unfold edges; rw [List.getElem?_map, List.getElem?_eq_getElem hi', ← hk]; rfl
 rw [List.getElem?_eq_getElem hl] at hg
 rw [List.take_succ_eq_append_getElem hl, Option.some.inj hg]
def istands.f (a0_0 : Int) (l0_1 : List (S37)) (l1 : List Int) : Option (List Int × Int) :=
 if outsV a0_0 l0_1 l1 = 0 then some ((List.range a0_0.toNat).map (fun (b : Nat) => ((lab (edges l0_1 l1) b : Nat) : Int)), 0) else some ([], outsV a0_0 l0_1 l1)
set_option maxRecDepth 100000 in
set_option maxHeartbeats 4000000 in
theorem istands.calls (a0_0 : Int) (A0_1 : Option Addr) (c0_1 : Nat) (l0_1 : List (S37)) (A1 : Option Addr) (c1 : Nat) (l1 : List Int) (r1 : List Int) (r2 : Int) (w : World) (hr0_1 : Kd.C k37 w A0_1 l0_1.length l0_1) (hc0_1 : l0_1.length ≤ c0_1) (hr1 : Kd.C (Kd.int .i64) w A1 l1.length l1) (hc1 : l1.length ≤ c1) (h : istands.f a0_0 l0_1 l1 = some (r1, r2)) :
  Calls Try.prog 81 #[.agg #[.int .i64 a0_0, .slice A0_1 l0_1.length c0_1], .slice A1 l1.length c1] w fun e w' => ∃ v0_ : Value, e = .returned (.tuple #[v0_, .int .i64 r2]) ∧ Kd.R (Kd.int .i64) 3 w' w.heap.size (fun _ => True) v0_ r1 ∧ Below w.heap.size w w' := by
 have hu24 := Try.underlying24
 have hu37 := Try.underlying37
 have HR0 := Lib.hid hr0_1
 have HR1 := Lib.hid hr1
 clear hr0_1 hr1
 have hb2 : Below w.heap.size w ((w.alloc (.cells #[.int .i64 a0_0, .slice A0_1 l0_1.length c0_1] 24)).alloc (.cells #[.slice none 0 0] 25)) := ((Below.refl _ w).alloc (Nat.le_refl _) _).alloc (by simp) _
 have HB2 := Lib.hid hb2
 clear hb2
 by_cases hv : outsV a0_0 l0_1 l1 = 0
 ·have hst : nStrip.f a0_0 l0_1 l1 = some (a0_0, (inn l0_1 l1).map (fun (k : Nat) => rd_T37 l0_1 (k : Int)), (inn l0_1 l1).map (fun (k : Nat) => (k : Int)), 0) := by rw [nStrip.f, if_pos hv]
  rw [istands.f, if_pos hv] at h
  simp only [Option.some.injEq, Prod.mk.injEq] at h
  obtain ⟨rfl, rfl⟩ := h
  obtain ⟨SL, hSL⟩ : ∃ SL, SL = (inn l0_1 l1).map (fun (k : Nat) => rd_T37 l0_1 (k : Int)) := ⟨_, rfl⟩
  rw [← hSL] at hst
  have HSL := Lib.hid hSL
  clear hSL
  have HST := Lib.hid hst
  have HV := Lib.hid hv
  clear hst hv
  go_enter Try.func81, Try.ntmps81
  go_wp2_with fail
  go_step3
  go_wp2_with (fail)
  go_at_call 32
  refine (nStrip.calls a0_0 _ _ l0_1 _ _ l1 _ _ _ _ _ ?side1 hc0_1 ?side2 hc1 HST.out).mono ?_
  (case side1 => exact Kd.C_below HR0.out HB2.out)
  (case side2 => exact Kd.C_below HR1.out HB2.out)
  rintro e w4 ⟨v1, v2, rfl, hs1, hs2, hb4⟩
  obtain ⟨Am, cm, rfl⟩ := Kd.R_slice hs1
  obtain ⟨k0, k1, hsz, hbw⟩ := boxes2 hb4
  have hw0 : w.heap.size < w4.heap.size := by omega
  have hw1 : w.heap.size + 1 < w4.heap.size := by omega
  have c00 : w4.cell? ⟨w.heap.size, 0, none⟩ = some (.int .i64 a0_0) := (kC k0 0).trans rfl
  have S1 := Lib.hid (Kd.R_lower (base' := w.heap.size) hs1 (by rw [World.size_alloc, World.size_alloc]; omega))
  have K0 := Lib.hid k0
  have K1 := Lib.hid k1
  have HBW := Lib.hid hbw
  clear hs1 hs2 hb4 k0 k1 hbw
  go_wp2_with fail
  obtain ⟨hck, hri, hro⟩ := outsV_ok HV.out
  obtain ⟨hn1, hn6, hlen10, hok⟩ := chk_ok hck
  obtain ⟨N, rfl⟩ := Int.eq_ofNat_of_zero_le (show 0 ≤ a0_0 by omega)
  have HOK := Lib.hid hok
  have hSL10 : SL.length ≤ 10 := by
   have e : SL.length ≤ l0_1.length := by
    rw [HSL.out, List.length_map]
    exact Nat.le_trans (List.length_filter_le _ _) (by rw [List.length_range]; exact Nat.le_refl _)
   omega
  clear hck hri hro hok
  obtain ⟨B0, hB0⟩ : ∃ B0, B0 = w4.heap.size + 1 := ⟨_, rfl⟩
  have st0 : St (N : Int) w.heap.size B0 w4.heap.size Am cm SL w (.slice none 0 0) [] (w4.alloc (.cells #[.int .i64 (N : Int), .slice Am SL.length cm] 24)) :=
   ⟨kA K1.out _, heap_alloc_new w4 _, Kd.R_mono (Kd.R_bound (Kd.R_alloc (Kd.R_reok (ok := fun k => k < B0 ∧ k ≠ w.heap.size + 1) rfl S1.out (fun k e => ⟨by have := Kd.R_lt S1.out k e; omega, fun e' => Kd.R_ne S1.out K1.out (by decide) (by rw [← e', e])⟩)) _)) (fun k hk => hk.1), Kd.R_nil _ _ _ _ _, HBW.out.alloc (by omega) _, by simp; omega⟩
  have ST0 := Lib.hid st0
  have h6a : w4.heap.size < B0 := by omega
  have h6b : w4.heap.size ≠ w.heap.size + 1 := by omega
  have hHB : w.heap.size + 1 < B0 := by omega
  generalize w4.heap.size = g6 at ST0 h6a h6b hB0 ⊢
  generalize w4.alloc (.cells #[.int .i64 (N : Int), .slice Am SL.length cm] 24) = wA at ST0 ⊢
  clear st0 S1 K0 K1 HBW hw0 hw1 c00 hsz hB0
  go_loopg [27] N (fun kq v27 wr => ∃ k : Nat, k ≤ N ∧ v27 = .int .i64 (k : Int) ∧ Hid (kq = N - k ∧ ∃ v, St (N : Int) w.heap.size B0 g6 Am cm SL w v ((List.range k).map (fun (b : Nat) => (b : Int))) wr))
  case atStart => exact ⟨0, Nat.zero_le _, rfl, by simp, _, ST0.out⟩
  case round =>
   obtain ⟨k, hk, rfl, HK⟩ := hrel
   obtain ⟨v, hst⟩ := HK.out.2
   by_cases hlt : k < N
   ·have q1 : decide ((k : Int) < (N : Int)) = true := decide_eq_true (by omega)
    obtain ⟨A8, c8, rfl⟩ := Kd.R_slice hst.r
    obtain ⟨X, hX⟩ : ∃ X, X = (List.range k).map (fun (b : Nat) => (b : Int)) := ⟨_, rfl⟩
    have hXl : X.length = k := by rw [hX]; simp
    rw [← hX] at hst
    have HX := Lib.hid hX
    have HXL := Lib.hid hXl
    have ST := Lib.hid hst
    clear hX hXl hst
    have c20 : wr.cell? ⟨w.heap.size + 1, 0, none⟩ = some (.slice A8 X.length c8) := (kC ST.out.b 0).trans rfl
    have hlen : (X.length + 1) * 8 ≤ 140737488355328 := by have := HXL.out; have := hn6; omega
    have hwB : B0 ≤ wr.heap.size := ST.out.sz
    go_wp2_with (first | ((with_reducible refine gate_builtin (b := .append) (xs := #[.tmp 30, .tmp 32]) rfl ?_); at_builtin; refine Kd.R_append (Kd.int .i64) (w0 := wr) B0 rfl (.tmp 30) (.tmp 32) 25 3 (.int .i64 0) 8 rfl Try.underlying25 info3 rfl (by decide) (by omega) (.slice A8 X.length c8) X (k : Int) [.int .i64 (k : Int)] (fun _ => True) (fun _ => False) rfl rfl ?aP (fun _ hk => hk.elim) ?aF ?aO ?aB ?aS ?aL ?_; (case aP => exact rfl); (case aF => exact (fun _ _ => trivial)); (case aO => exact ST.out.r); (case aB => exact Below.refl _ _); (case aS => exact hwB); (case aL => exact hlen); intro v1 w5 hr5 hb5 hg5 hat5; obtain ⟨A9, c9, rfl⟩ := Kd.R_slice hr5; obtain ⟨hbx, hst'⟩ := ST.out.append hHB h6a h6b hr5 hg5; have HST' := Lib.hid hst'; have c21 : w5.cell? ⟨w.heap.size + 1, 0, none⟩ = some (.slice A8 X.length c8) := (kC hbx 0).trans rfl; have f21 := kF hbx; clear hbx hst' hr5 hb5 hg5 hat5))
    go_roundg (N - (k + 1))
    case measure => have := HK.out.1; omega
    case rel =>
     refine ⟨k + 1, by omega, rfl, rfl, .slice A9 (X.length + 1) c9, ?_⟩
     have e1 : (List.range (k + 1)).map (fun (b : Nat) => (b : Int)) = X ++ [(k : Int)] := by rw [List.range_succ, List.map_append, ← HX.out]; rfl
     rw [e1]
     have h := HST'.out
     simp only [List.length_append, List.length_cons, List.length_nil, Nat.zero_add] at h
     exact h
   ·have q1 : decide ((k : Int) < (N : Int)) = false := decide_eq_false (by omega)
    go_wp2_with fail
    have hkN : k = N := by omega
    subst hkN
    have hXN : UF ((List.range k).map (fun (b : Nat) => (b : Int))) (lab ((edges l0_1 l1).take 0)) k := UF.start k
    obtain ⟨X0, hX0⟩ : ∃ X, X = (List.range k).map (fun (b : Nat) => (b : Int)) := ⟨_, rfl⟩
    rw [← hX0] at hst hXN
    have ST := Lib.hid hst
    have HUF := Lib.hid hXN
    clear hst hXN hX0 HK ST0
    have c61 : wr.cell? ⟨g6, 1, none⟩ = some (.slice Am SL.length cm) := (kC ST.out.m 1).trans rfl
    go_step3
    go_wp2_with fail
    obtain ⟨A8, c8, rfl⟩ := Kd.R_slice ST.out.r
    go_loopg [39] SL.length (fun kq v39 wr => ∃ i : Nat, i ≤ SL.length ∧ v39 = .int .i64 (i : Int) ∧ Hid (kq = SL.length - i ∧ ∃ A c X, St (k : Int) w.heap.size B0 g6 Am cm SL w (.slice A X.length c) X wr ∧ UF X (lab ((edges l0_1 l1).take i)) k))
    case atStart => exact ⟨0, Nat.zero_le _, rfl, rfl, A8, c8, X0, ST.out, HUF.out⟩
    case round =>
     obtain ⟨i, hi, rfl, HI⟩ := hrel
     obtain ⟨A, c, X, hst, huf⟩ := HI.out.2
     have ST := Lib.hid hst
     have HUF := Lib.hid huf
     clear hst huf
     by_cases hlt2 : i < SL.length
     ·have q1 : decide ((i : Int) < (SL.length : Int)) = true := decide_eq_true (by omega)
      obtain ⟨u, v, hu0, hv0, hu, hv, huv, htk⟩ := edge_ok HV.out HSL.out i hlt2
      obtain ⟨ad, hAm, e0, e1, e2, e3⟩ := at_T37 (Kd.R_reads' ST.out.s).2.2 (i : Int) (by omega) (by omega)
      subst hAm
      rw [Int.toNat_natCast] at e0 e1 e2 e3
      rw [hu0] at e0
      rw [hv0] at e1
      obtain ⟨x2, hx2⟩ : ∃ x, x = (rd_T37 SL (i : Int)).f2 := ⟨_, rfl⟩
      obtain ⟨x3, hx3⟩ : ∃ x, x = (rd_T37 SL (i : Int)).f3 := ⟨_, rfl⟩
      rw [← hx2] at e2
      rw [← hx3] at e3
      clear hx2 hx3 hu0 hv0
      have ST2 := Lib.hid (fun n => ((ST.out.alloc (by omega) (.cells #[.int .i64 (u : Int), .int .i64 (v : Int), .int .i64 x2, .int .i64 x3] 37))).drewN n)
      have HTK := Lib.hid htk
      have HNE := Lib.hid huv
      clear htk huv
      go_wp2_with fail
      go_quiet (first
       | (rename_i nn; go_at_call_of 105 (Value.int IntKind.i64 (u : Int)); refine Calls.quiet_of_same (find_calls (w.heap.size + 1) A c X (lab ((edges l0_1 l1).take i)) k u _ ?_ ?_ HUF.out hu); exact (kC (ST2.out nn).b 0).trans rfl; exact (Kd.R_reads' (ST2.out nn).r).2.2)
       | (rename_i nn; go_at_call_of 105 (Value.int IntKind.i64 (v : Int)); refine Calls.quiet_of_same (find_calls (w.heap.size + 1) A c X (lab ((edges l0_1 l1).take i)) k v _ ?_ ?_ HUF.out hv); exact (kC (ST2.out nn).b 0).trans rfl; exact (Kd.R_reads' (ST2.out nn).r).2.2))
      generalize hLa : lab ((edges l0_1 l1).take i) u = la
      generalize hLb : lab ((edges l0_1 l1).take i) v = lb
      have HLA := Lib.hid hLa
      have HLB := Lib.hid hLb
      clear hLa hLb
      have ST3 := Lib.hid (ST2.out nq)
      have HLA2 := Lib.hid (HUF.out.le u)
      have HLB2 := Lib.hid (HUF.out.le v)
      clear ST ST2
      generalize (wr.alloc (.cells #[.int .i64 (u : Int), .int .i64 (v : Int), .int .i64 x2, .int .i64 x3] 37)).drewN nq = W at ST3 ⊢
      by_cases hll : la = lb
      ·have t1 : ((la : Int) == (lb : Int)) = true := by rw [beq_iff_eq]; omega
       have HLL := Lib.hid hll
       clear hll
       go_wp2_with fail
       go_roundg (SL.length - (i + 1))
       case measure => have := HI.out.1; omega
       case rel =>
        refine ⟨i + 1, by omega, rfl, rfl, A, c, X, ST3.out, ?_⟩
        rw [HTK.out, lab_snoc, merge_same (by show lab _ u = lab _ v; rw [HLA.out, HLB.out, HLL.out])]
        exact HUF.out
      ·have t1 : ((la : Int) == (lb : Int)) = false := by rw [beq_eq_false_iff_ne]; omega
       have HLL := Lib.hid hll
       clear hll
       have hXl := HUF.out.len
       obtain ⟨g, cap, hAc, hgB, hgW, _⟩ := Kd.R_form ST3.out.r (by omega)
       simp only [Value.slice.injEq, true_and] at hAc
       obtain ⟨rfl, rfl⟩ := hAc
       have c40 : W.cell? ⟨w.heap.size + 1, 0, none⟩ = some (.slice (some ⟨g, 0, none⟩) X.length c) := (kC ST3.out.b 0).trans rfl
       have hla : la < X.length := by have := HLA2.out; have := HLA.out; omega
       have hlb : lb < X.length := by have := HLB2.out; have := HLB.out; omega
       obtain ⟨cXa, fXa⟩ := ST3.out.cellf la hla
       obtain ⟨cXb, fXb⟩ := ST3.out.cellf lb hlb
       have hua := HUF.out.union hu hv (by rw [HLA.out, HLB.out]; exact HLL.out)
       rw [HLA.out, HLB.out] at hua
       have HUA := Lib.hid hua
       clear hua
       have HPT := Lib.hid (fun j y => ST3.out.put hHB h6a j y)
       rcases Nat.lt_or_gt_of_ne HLL.out with hlt | hlt
       ·have q2 : decide ((la : Int) < (lb : Int)) = true := decide_eq_true (by omega)
        have q3 : decide ((lb : Int) < (la : Int)) = false := decide_eq_false (by omega)
        rw [Nat.max_eq_right (by omega), Nat.min_eq_left (by omega)] at HUA
        go_wp2_with fail
        go_roundg (SL.length - (i + 1))
        case measure => have := HI.out.1; omega
        case rel =>
         refine ⟨i + 1, by omega, rfl, rfl, some ⟨g, 0, none⟩, c, X.set lb (la : Int), ?_, ?_⟩
         ·rw [List.length_set]; exact HPT.out lb (la : Int)
         ·rw [HTK.out, lab_snoc]; exact HUA.out
       ·have q2 : decide ((la : Int) < (lb : Int)) = false := decide_eq_false (by omega)
        have q3 : decide ((lb : Int) < (la : Int)) = true := decide_eq_true (by omega)
        rw [Nat.max_eq_left (by omega), Nat.min_eq_right (by omega)] at HUA
        go_wp2_with fail
        go_roundg (SL.length - (i + 1))
        case measure => have := HI.out.1; omega
        case rel =>
         refine ⟨i + 1, by omega, rfl, rfl, some ⟨g, 0, none⟩, c, X.set la (lb : Int), ?_, ?_⟩
         ·rw [List.length_set]; exact HPT.out la (lb : Int)
         ·rw [HTK.out, lab_snoc]; exact HUA.out
     ·have q1 : decide ((i : Int) < (SL.length : Int)) = false := decide_eq_false (by omega)
      have hiS : i = SL.length := by omega
      subst hiS
      have hE : (edges l0_1 l1).take SL.length = edges l0_1 l1 := List.take_of_length_le (by unfold edges; rw [HSL.out, List.length_map, List.length_map]; exact Nat.le_refl _)
      rw [hE] at HUF
      generalize hF : lab (edges l0_1 l1) = F at HUF ⊢
      have HF := Lib.hid hF
      clear hF hE HI
      have c40 : wr.cell? ⟨w.heap.size + 1, 0, none⟩ = some (.slice A X.length c) := (kC ST.out.b 0).trans rfl
      have hXl := HUF.out.len
      go_wp2_with fail
      go_loopg [65] X.length (fun kq v65 wr => ∃ j : Nat, j ≤ k ∧ v65 = .int .i64 (j : Int) ∧ Hid (kq = k - j ∧ ∃ A c X, St (k : Int) w.heap.size B0 g6 Am cm SL w (.slice A X.length c) X wr ∧ UF X F k ∧ ∀ b : Nat, b < j → rd X (b : Int) = ((F b : Nat) : Int)))
      case atStart => exact ⟨0, Nat.zero_le _, rfl, by omega, A, c, X, ST.out, HUF.out, fun b hb => absurd hb (Nat.not_lt_zero _)⟩
      case round =>
       obtain ⟨j, hj, rfl, HJ⟩ := hrel
       obtain ⟨A, c, Y, hst, huf, hrd⟩ := HJ.out.2
       have ST := Lib.hid hst
       have HUF := Lib.hid huf
       have HRD := Lib.hid hrd
       clear hst huf hrd
       have hYl := HUF.out.len
       by_cases hlt3 : j < k
       ·have q1 : decide ((j : Int) < (X.length : Int)) = true := decide_eq_true (by omega)
        obtain ⟨g, cap, hAc, hgB, hgW, _⟩ := Kd.R_form ST.out.r (by omega)
        simp only [Value.slice.injEq, true_and] at hAc
        obtain ⟨rfl, rfl⟩ := hAc
        have st2 := ST.out.drew
        obtain ⟨cX, fX⟩ := st2.cellf j (by omega)
        have c40 : wr.drew.cell? ⟨w.heap.size + 1, 0, none⟩ = some (.slice (some ⟨g, 0, none⟩) Y.length c) := (kC st2.b 0).trans rfl
        have ST2 := Lib.hid st2
        clear st2 ST
        go_wp2_with fail
        go_region_with (go_at_call 105; refine (find_calls (w.heap.size + 1) (some ⟨g, 0, none⟩) c Y F k j _ c40 (Kd.R_reads' ST2.out.r).2.2 HUF.out hlt3).mono ?_; rintro e w' ⟨rfl, rfl⟩)
        all_goals go_wp2_with fail
        all_goals (go_roundg (k - (j + 1)); (case measure => have := HJ.out.1; omega); (case rel =>
         refine ⟨j + 1, by omega, rfl, rfl, some ⟨g, 0, none⟩, c, Y.set j ((F j : Nat) : Int), ?_, HUF.out.flat hlt3, ?_⟩
         ·rw [List.length_set]; exact ST2.out.put hHB h6a j _
         ·intro b hb
          rw [rd_set (by omega)]
          by_cases hbj : b = j
          ·rw [if_pos hbj, hbj]
          ·rw [if_neg hbj]; exact HRD.out b (by omega)))
       ·have q1 : decide ((j : Int) < (X.length : Int)) = false := decide_eq_false (by omega)
        have hjk : j = k := by omega
        subst hjk
        have c40 : wr.cell? ⟨w.heap.size + 1, 0, none⟩ = some (.slice A Y.length c) := (kC ST.out.b 0).trans rfl
        have HYL := Lib.hid hYl
        clear hYl
        have f40 := kF ST.out.b 0
        go_wp2_with fail
        rw [Exit.noGoto_ret]
        have hY : Y = (List.range j).map (fun (b : Nat) => ((F b : Nat) : Int)) := by
         have hYl := HYL.out
         refine List.ext_getElem (by rw [hYl, List.length_map, List.length_range]) (fun n h1 h2 => ?_)
         have e := HRD.out n (by omega)
         rw [rd_nat _ _ h1] at e
         rw [e, List.getElem_map, List.getElem_range]
        have e1 : wr.setCell ⟨w.heap.size + 1, 0, none⟩ (.slice A Y.length c) = wr := setCell_id (i := 0) ST.out.b rfl
        try rw [e1]
        refine bodyPost_ret (v := .tuple #[.slice A Y.length c, .int .i64 0]) (by simp [results, Try.f81, go_sem, c40]) rfl ⟨_, rfl, ?_, ST.out.bl⟩
        have hF' : lab (edges l0_1 l1) = F := HF.out
        rw [hF', Int.toNat_natCast, ← hY]
        exact Kd.R_lower ST.out.r (by omega)
 ·obtain ⟨ev, hev⟩ : ∃ ev, ev = outsV a0_0 l0_1 l1 := ⟨_, rfl⟩
  have hst : nStrip.f a0_0 l0_1 l1 = some (0, [], [], ev) := by rw [nStrip.f, if_neg hv, hev]
  rw [istands.f, if_neg hv, ← hev] at h
  simp only [Option.some.injEq, Prod.mk.injEq] at h
  obtain ⟨rfl, rfl⟩ := h
  rw [← hev] at hv
  have t1 : (ev != 0) = true := by rw [bne_iff_ne]; exact hv
  have HST := Lib.hid hst
  clear hst hv hev
  go_enter Try.func81, Try.ntmps81
  go_wp2_with fail
  go_step3
  go_wp2_with (fail)
  go_at_call 32
  refine (nStrip.calls a0_0 _ _ l0_1 _ _ l1 _ _ _ _ _ ?side1 hc0_1 ?side2 hc1 HST.out).mono ?_
  (case side1 => exact Kd.C_below HR0.out HB2.out)
  (case side2 => exact Kd.C_below HR1.out HB2.out)
  rintro e w4 ⟨v1, v2, rfl, hs1, hs2, hb4⟩
  obtain ⟨Am, cm, rfl⟩ := Kd.R_slice hs1
  obtain ⟨k0, k1, hsz, hbw⟩ := boxes2 hb4
  have hw1 : w.heap.size + 1 < w4.heap.size := by omega
  have c1 : w4.cell? ⟨w.heap.size + 1, 0, none⟩ = some (.slice none 0 0) := (kC k1 0).trans rfl
  have f1 := kF k1 0
  have e1 : w4.setCell ⟨w.heap.size + 1, 0, none⟩ (.slice none 0 0) = w4 := setCell_id (i := 0) k1 rfl
  have c2 : ∀ o, (w4.alloc o).cell? ⟨w.heap.size + 1, 0, none⟩ = some (.slice none 0 0) := fun o => (kC (kA k1 o) 0).trans rfl
  have C2 := Lib.hid c2
  clear c2
  have HBW := Lib.hid (fun o => hbw.alloc (by omega : w.heap.size ≤ w4.heap.size) o)
  have K1 := Lib.hid k1
  have E1 := Lib.hid e1
  clear hs1 hs2 hb4 k0 k1 hbw e1
  go_wp2_with fail
  try rw [Exit.noGoto_ret]
  rw [E1.out]
  refine bodyPost_ret (v := .tuple #[.slice none 0 0, .int .i64 ev]) (by have c2 := C2.out; simp [results, Try.f81, go_sem, c2]) rfl ⟨_, rfl, Kd.R_nil _ _ _ _ _, HBW.out _⟩
section
def iRefs.l0 : Nat → List Int → Int → List Int → Int → Int → Option (List Int × Int)
 | 0, _, _, _, _, _ => none
 | k + 1, x4, x5, x15, x16, x17 => if x17 < x16 then (if 0 ≤ x17 then (if x17 < (x15.length : Int) then (if x17 = (rd x15 x17) then (if x4.length < 17592186044416 then (iRefs.l0 k (x4 ++ [x17]) x5 x15 x16 (wrap64 (x17 + 1))) else (none)) else (iRefs.l0 k x4 x5 x15 x16 (wrap64 (x17 + 1)))) else (none)) else (none)) else (some (x4, x5))
def iRefs.f (k : Nat) (a0_0 : Int) (l0_1 : List (S37)) (l1 : List Int) : Option (List Int × Int) := (istands.f a0_0 l0_1 l1).bind fun bt117 => (iRefs.l0 k ([] : List Int) bt117.2 bt117.1 (bt117.1.length : Int) 0)
set_option maxHeartbeats 8000000 in
set_option maxRecDepth 100000 in
theorem iRefs.calls (k : Nat) (a0_0 : Int) (A0_1 : Option Addr) (c0_1 : Nat) (l0_1 : List (S37)) (A1 : Option Addr) (c1 : Nat) (l1 : List Int) (r1 : List Int) (r2 : Int) (w : World) (hr0_1 : Kd.C k37 w A0_1 l0_1.length l0_1) (hc0_1 : l0_1.length ≤ c0_1) (hr1 : Kd.C (Kd.int .i64) w A1 l1.length l1) (hc1 : l1.length ≤ c1) (h : iRefs.f k a0_0 l0_1 l1 = some (r1, r2)) :
  Calls Try.prog 41 #[.agg #[.int .i64 a0_0, .slice A0_1 l0_1.length c0_1], .slice A1 l1.length c1] w fun e w' => ∃ v0_ : Value, e = .returned (.tuple #[v0_, .int .i64 r2]) ∧ Kd.R (Kd.int .i64) 3 w' w.heap.size (fun _ => True) v0_ r1 ∧ Below w.heap.size w w' := by
 have hu24 := Try.underlying24
 have HR0_1 := Z0.mk hr0_1
 have HC0_1 := Z0.mk hc0_1
 clear hr0_1 hc0_1
 have HR1 := Z0.mk hr1
 have HC1 := Z0.mk hc1
 clear hr1 hc1
 have HB := Z0.mk (Below.refl w.heap.size w)
 have H : ((istands.f a0_0 l0_1 l1).bind fun bt117 => (iRefs.l0 k ([] : List Int) bt117.2 bt117.1 (bt117.1.length : Int) 0)) = some (r1, r2) := h
 clear h
 replace H := Option.bind_eq_some_iff.mp H
 obtain ⟨⟨t117, t120⟩, A30, H⟩ := H
 replace H : (iRefs.l0 k ([] : List Int) t120 t117 (t117.length : Int) 0) = some (r1, r2) := H
 have A3 := Z0.mk A30
 clear A30
 have H' := Z0.mk H
 clear H
 go_enter Try.func41, Try.ntmps41
 go_wp2_with (first | ((with_reducible refine gate_dst (N := 2) rfl ?_); refine bE ?hg (N := 2) ?hd (cs := #[.int .i64 a0_0, .slice A0_1 l0_1.length c0_1]) (t := 24) ?hr ?_; (case hd => rfl); (case hg => rfl); (case hr => first | (go_simp; done) | (go_simp; rfl)); intro gb116 hg w4 hbox hb; have n0_ := Z0.mk (bT (by repeat (first | (with_reducible first | exact HB.out | apply below_alloc | apply bN | apply bD) | exact HB.out)) hb); have n1_ := Z0.mk (hbox); have n2_ := Z0.mk ((by rw [hg]; exact (bZ (by repeat (first | (with_reducible first | exact HB.out | apply below_alloc | apply bN | apply bD) | exact HB.out))) : w.heap.size ≤ gb116)); have n3_ := Z0.mk ((by rw [hg]; exact (bZ (by repeat (first | (with_reducible first | exact HB.out | apply below_alloc | apply bN | apply bD) | exact HB.out))) : w.heap.size ≤ gb116)); clear HB; have HB := n0_; have BK116 := n1_; have GW116 := n2_; have GE116 := n3_; clear n0_ n1_ n2_ n3_; clear hb hbox hg; have hcz5_0 : w4.cell? ⟨gb116, 0, none⟩ = some (.int .i64 a0_0) := (kC BK116.out 0).trans rfl; have hcz5_1 : w4.cell? ⟨gb116, 1, none⟩ = some (.slice A0_1 l0_1.length c0_1) := (kC BK116.out 1).trans rfl; have hfz5_0 := kF BK116.out 0; have hfz5_1 := kF BK116.out 1) | ((with_reducible refine gC (f := 81) rfl ?_); refine gL (some 12) rfl rfl Try.func81 (by kernel_rfl) rfl #[.agg #[.int .i64 a0_0, .slice A0_1 l0_1.length c0_1], .slice A1 l1.length c1] rfl (by (try simp only [List.map_toArray, List.map_cons, List.map_nil]); first | done | rfl | (simp only [List.length_drop, List.length_take]; rfl)) ?_; (with_reducible refine (istands.calls a0_0 _ _ l0_1 _ _ l1 t117 t120 _ ?side1 ?side2 ?side3 ?side4 A3.out).mono ?_); (case side1 => repeat (first | exact (Kd.C_below HR0_1.out HB.out) | (with_reducible refine Kd.C_alloc ?_ _) | (with_reducible refine Kd.C_drewN ?_ _) | (with_reducible refine Kd.C_drew ?_))); (case side2 => exact HC0_1.out); (case side3 => repeat (first | exact (Kd.C_below HR1.out HB.out) | (with_reducible refine Kd.C_alloc ?_ _) | (with_reducible refine Kd.C_drewN ?_ _) | (with_reducible refine Kd.C_drew ?_))); (case side4 => exact HC1.out); rintro e w6 ⟨v118, rfl, ho0, hb⟩; refine ⟨_, rfl, ?_⟩; have n0_ := Z0.mk (Kd.R_lower ho0 (bZ (by repeat (first | (with_reducible first | exact HB.out | apply below_alloc | apply bN | apply bD | refine bS ?_ GE116.out) | exact HB.out)))); have n1_ := Z0.mk (kB (g := gb116) (o := .cells #[.int .i64 a0_0, .slice A0_1 l0_1.length c0_1] 24 (0, 0)) (by (with_reducible repeat (first | refine kN ?_ _ | refine kD ?_ | refine kA ?_ _)); exact BK116.out) hb); have n2_ := Z0.mk (bT (by repeat (first | (with_reducible first | exact HB.out | apply below_alloc | apply bN | apply bD | refine bS ?_ GE116.out) | exact HB.out)) hb); clear BK116; clear HB; have HO119 := n0_; have BK116 := n1_; have HB := n2_; clear n0_ n1_ n2_; (try clear hb); (try clear hb2); (try clear hk); (try clear hi); (try clear ho0); obtain ⟨Ao7, co7, eo7⟩ := Kd.R_slice HO119.out; subst eo7))
 go_loopg [4, 17] k (fun kq v4 v17 w' => ∃ (x4_1 : List Int) (x17_1 : Int), v17 = .int .i64 x17_1 ∧ Z0 (iRefs.l0 kq x4_1 t120 t117 (t117.length : Int) x17_1 = some (r1, r2)) ∧ Z0 (kq ≤ k) ∧ Z0 (Kd.R (Kd.int .i64) 3 w' w.heap.size (fun k_ => some k_ ≠ ((.slice Ao7 t117.length co7) : Value).ownBlock) v4 x4_1) ∧ Z0 (Kd.R (Kd.int .i64) 3 w' w.heap.size (fun k_ => some k_ ≠ (v4 : Value).ownBlock) (.slice Ao7 t117.length co7) t117) ∧ Z0 (w'.heap[gb116]? = some (.cells #[.int .i64 a0_0, (.slice A0_1 l0_1.length c0_1)] 24 (0, 0))) ∧ Z0 (Below w.heap.size w w'))
 case atStart => exact ⟨(([] : List Int)), (0), (by first | rfl | (simp; done) | (simp [*]; done)), H', ⟨Nat.le_refl _⟩, ⟨by first | exact Kd.R_nil _ _ _ _ _ | exact Kd.N_nil _ _ _ _ _ | exact Kd.V_nil _ _ _ _ _ | exact Kd.Q_nil _ _ _ _ _ | exact Kd.S_nil _ _ _ _ _⟩, ⟨by (with_reducible repeat (first | apply Kd.R_alloc | apply Kd.R_drewN | apply Kd.R_drew)); exact Kd.R_mono HO119.out (fun _ hk => (by simp [Value.ownBlock]))⟩, ⟨by (with_reducible repeat (first | refine kN ?_ _ | refine kD ?_ | refine kA ?_ _)); exact BK116.out⟩, ⟨by repeat (first | (with_reducible first | exact HB.out | apply below_alloc | apply bN | apply bD | refine bS ?_ GE116.out) | exact HB.out)⟩⟩
 case round =>
  clear H'; (try clear c1); (try clear p2); (try clear c4); (try clear hcz5_0); (try clear hcz5_1); (try clear hfz5_0); (try clear hfz5_1)
  obtain ⟨x4_1, x17_1, rfl, HA, HK1, HO_4, HO_15, BK116, HB⟩ := hrel
  cases gk with
  | zero => exact absurd HA.out (by simp [iRefs.l0])
  | succ k1 =>
   have H := HA.out
   clear HA
   simp only [iRefs.l0] at H
   by_cases c8 : x17_1 < (t117.length : Int)
   ·rw [if_pos c8] at H
    have c8b0 : decide (x17_1 < (t117.length : Int)) = true := decide_eq_true c8
    clear c8
    by_cases c9 : 0 ≤ x17_1
    ·rw [if_pos c9] at H
     have c9b0 : decide (0 ≤ x17_1) = true := decide_eq_true c9
     clear c9
     by_cases c10 : x17_1 < (t117.length : Int)
     ·rw [if_pos c10] at H
      have c10b0 : decide (x17_1 < (t117.length : Int)) = true := decide_eq_true c10
      clear c10
      by_cases c11 : x17_1 = (rd t117 x17_1)
      ·rw [if_pos c11] at H
       have c11b0 : (x17_1 == (rd t117 x17_1)) = true := beq_iff_eq.mpr c11
       have c11b1 : (x17_1 != (rd t117 x17_1)) = false := bne_eq_false_iff_eq.mpr c11
       clear c11
       by_cases c12 : x4_1.length < 17592186044416
       ·rw [if_pos c12] at H
        have LMc12 := Z0.mk c12
        clear c12
        obtain ⟨y122, hy122⟩ : ∃ y_ : List Int, y_ = (x4_1 ++ [x17_1]) := ⟨_, rfl⟩
        replace H : (iRefs.l0 k1 y122 t120 t117 (t117.length : Int) (wrap64 (x17_1 + 1))) = some (r1, r2) := by first | (rw [hy122]; with_reducible exact H) | (have H2_ := (Option.bind_some _ _).symm.trans H; rw [hy122]; with_reducible exact H2_) | (have H2_ := (Option.bind_some _ _).symm.trans H; with_reducible exact H2_) | with_reducible exact H | (rw [hy122]; exact H) | exact H
        have Ny122 := Z0.mk hy122
        clear hy122
        have H' := Z0.mk H
        clear H
        have p121 : 0 ≤ (x17_1 : Int) := of_decide_eq_true (by first | (with_reducible assumption) | assumption)
        have q121 : x17_1 < (t117.length : Int) := of_decide_eq_true (by first | (with_reducible assumption) | assumption)
        obtain ⟨ad121, e121, hx121_0⟩ := Kd.at_int (Kd.R_reads' HO_15.out).2.2 x17_1 p121 q121
        cases e121
        replace p121 := eq_true p121
        replace q121 := eq_true q121
        go_wp2_with (first | ((with_reducible refine gate_builtin (b := .append) (xs := #[.tmp 25, .tmp 27]) rfl ?_); at_builtin; refine Kd.R_append (Kd.int .i64) (w0 := w) w.heap.size rfl (.tmp 25) (.tmp 27) 25 3 (.int .i64 0) 8 rfl Try.underlying25 info3 rfl (by decide) (by omega) u4 x4_1 x17_1 [.int .i64 x17_1] (fun k_ => some k_ ≠ (.slice (some ad121) t117.length co7 : Value).ownBlock) (fun _ => False) rfl rfl ?aP (fun _ hk => hk.elim) ?aF ?aO ?aB ?aS ?aL ?_; (case aP => exact rfl); (case aB => exact (by repeat (first | (with_reducible first | exact HB.out | apply below_alloc | apply bN | apply bD | refine bS ?_ GE116.out) | exact HB.out))); (case aF => exact (fun k_ hk => Kd.fresh' (Kd.R_lt (by (with_reducible repeat (first | apply Kd.R_alloc | apply Kd.R_drewN | apply Kd.R_drew)); exact HO_15.out)) k_ hk)); (case aO => exact (by (with_reducible repeat (first | apply Kd.R_alloc | apply Kd.R_drewN | apply Kd.R_drew)); exact HO_4.out)); (case aS => exact (bZ (by repeat (first | (with_reducible first | exact HB.out | apply below_alloc | apply bN | apply bD | refine bS ?_ GE116.out) | exact HB.out)))); (case aL => have := LMc12.out; omega); intro v123 w13 ho hb hg hat; rw [← Ny122.out] at ho; have n0_ := Z0.mk (Kd.R_after (ok := (fun _ => True)) (by (with_reducible repeat (first | apply Kd.R_alloc | apply Kd.R_drewN | apply Kd.R_drew)); exact Kd.R_mono HO_15.out (fun _ hk => ⟨trivial, hk⟩)) hg hat); have n1_ := Z0.mk (blk_grown (g := gb116) (o := .cells #[.int .i64 a0_0, .slice A0_1 l0_1.length c0_1] 24 (0, 0)) (by (with_reducible repeat (first | refine kN ?_ _ | refine kD ?_ | refine kA ?_ _)); exact BK116.out) hg (Kd.R_ne HO_4.out BK116.out (by decide))); have n2_ := Z0.mk (hb); have n3_ := Z0.mk (ho); clear HO_15; clear BK116; clear HB; clear HO_4; have HO_15 := n0_; have BK116 := n1_; have HB := n2_; have HO124 := n3_; clear n0_ n1_ n2_ n3_; clear ho hb hg hat))
        go_roundg k1
        case measure => have := HK1.out; omega
        case rel => exact ⟨(y122), (wrap64 (x17_1 + 1)), (by first | rfl | (simp; done) | (simp [*]; done)), H', ⟨by have := HK1.out; omega⟩, ⟨by (with_reducible repeat (first | apply Kd.R_alloc | apply Kd.R_drewN | apply Kd.R_drew)); exact HO124.out⟩, ⟨by (with_reducible repeat (first | apply Kd.R_alloc | apply Kd.R_drewN | apply Kd.R_drew)); exact Kd.R_mono HO_15.out (fun _ hk => hk.2)⟩, ⟨by (with_reducible repeat (first | refine kN ?_ _ | refine kD ?_ | refine kA ?_ _)); exact BK116.out⟩, ⟨by repeat (first | (with_reducible first | exact HB.out | apply below_alloc | apply bN | apply bD | refine bS ?_ GE116.out) | exact HB.out)⟩⟩
       ·rw [if_neg c12] at H
        exact absurd H (by simp)
      ·rw [if_neg c11] at H
       have c11b0 : (x17_1 == (rd t117 x17_1)) = false := beq_eq_false_iff_ne.mpr c11
       have c11b1 : (x17_1 != (rd t117 x17_1)) = true := bne_iff_ne.mpr c11
       have H' := Z0.mk H
       clear H
       have p121 : 0 ≤ (x17_1 : Int) := of_decide_eq_true (by first | (with_reducible assumption) | assumption)
       have q121 : x17_1 < (t117.length : Int) := of_decide_eq_true (by first | (with_reducible assumption) | assumption)
       obtain ⟨ad121, e121, hx121_0⟩ := Kd.at_int (Kd.R_reads' HO_15.out).2.2 x17_1 p121 q121
       cases e121
       replace p121 := eq_true p121
       replace q121 := eq_true q121
       go_wp2
       go_roundg k1
       case measure => have := HK1.out; omega
       case rel => exact ⟨(x4_1), (wrap64 (x17_1 + 1)), (by first | rfl | (simp; done) | (simp [*]; done)), H', ⟨by have := HK1.out; omega⟩, ⟨by (with_reducible repeat (first | apply Kd.R_alloc | apply Kd.R_drewN | apply Kd.R_drew)); exact HO_4.out⟩, ⟨by (with_reducible repeat (first | apply Kd.R_alloc | apply Kd.R_drewN | apply Kd.R_drew)); exact HO_15.out⟩, ⟨by (with_reducible repeat (first | refine kN ?_ _ | refine kD ?_ | refine kA ?_ _)); exact BK116.out⟩, ⟨by repeat (first | (with_reducible first | exact HB.out | apply below_alloc | apply bN | apply bD | refine bS ?_ GE116.out) | exact HB.out)⟩⟩
     ·rw [if_neg c10] at H
      exact absurd H (by simp)
    ·rw [if_neg c9] at H
     exact absurd H (by simp)
   ·rw [if_neg c8] at H
    have c8b0 : decide (x17_1 < (t117.length : Int)) = false := decide_eq_false c8
    clear c8
    simp only [Option.some.injEq, Prod.mk.injEq] at H
    obtain ⟨rfl, rfl⟩ := H
    go_wp2
    go_ret2
    exact ⟨_, by first | rfl | (simp [errW_none, errW_some] <;> rfl) | (simp [*, errW_none, errW_some] <;> rfl), by (with_reducible repeat (first | apply Kd.R_alloc | apply Kd.R_drewN | apply Kd.R_drew)); exact Kd.R_mono HO_4.out (fun _ hk => trivial), by repeat (first | (with_reducible first | exact HB.out | apply below_alloc | apply bN | apply bD | refine bS ?_ GE116.out) | exact HB.out)⟩
end
section
def iOf.l0 : Nat → List Int → Int → List Int → List Int → Int → Int → Option (List Int × Int)
 | 0, _, _, _, _, _, _ => none
 | k + 1, x4, x5, x7, x23, x24, x25 => if x25 < x24 then (if 0 ≤ x25 then (if x25 < (x23.length : Int) then ((sIndex.f k x7 (rd x23 x25)).bind fun t136 => (if x4.length < 17592186044416 then (iOf.l0 k (x4 ++ [t136]) x5 x7 x23 x24 (wrap64 (x25 + 1))) else (none))) else (none)) else (none)) else (some (x4, x5))
def iOf.f (k : Nat) (a0_0 : Int) (l0_1 : List (S37)) (l1 : List Int) : Option (List Int × Int) := (istands.f a0_0 l0_1 l1).bind fun bt127 => ((iRefs.f k a0_0 l0_1 l1).bind fun bt131 => (iOf.l0 k ([] : List Int) bt127.2 bt131.1 bt127.1 (bt127.1.length : Int) 0))
set_option maxHeartbeats 8000000 in
set_option maxRecDepth 100000 in
theorem iOf.calls (k : Nat) (a0_0 : Int) (A0_1 : Option Addr) (c0_1 : Nat) (l0_1 : List (S37)) (A1 : Option Addr) (c1 : Nat) (l1 : List Int) (r1 : List Int) (r2 : Int) (w : World) (hr0_1 : Kd.C k37 w A0_1 l0_1.length l0_1) (hc0_1 : l0_1.length ≤ c0_1) (hr1 : Kd.C (Kd.int .i64) w A1 l1.length l1) (hc1 : l1.length ≤ c1) (h : iOf.f k a0_0 l0_1 l1 = some (r1, r2)) :
  Calls Try.prog 30 #[.agg #[.int .i64 a0_0, .slice A0_1 l0_1.length c0_1], .slice A1 l1.length c1] w fun e w' => ∃ v0_ : Value, e = .returned (.tuple #[v0_, .int .i64 r2]) ∧ Kd.R (Kd.int .i64) 3 w' w.heap.size (fun _ => True) v0_ r1 ∧ Below w.heap.size w w' := by
 have hu24 := Try.underlying24
 have HR0_1 := Z0.mk hr0_1
 have HC0_1 := Z0.mk hc0_1
 clear hr0_1 hc0_1
 have HR1 := Z0.mk hr1
 have HC1 := Z0.mk hc1
 clear hr1 hc1
 have HB := Z0.mk (Below.refl w.heap.size w)
 have H : ((istands.f a0_0 l0_1 l1).bind fun bt127 => ((iRefs.f k a0_0 l0_1 l1).bind fun bt131 => (iOf.l0 k ([] : List Int) bt127.2 bt131.1 bt127.1 (bt127.1.length : Int) 0))) = some (r1, r2) := h
 clear h
 replace H := Option.bind_eq_some_iff.mp H
 obtain ⟨⟨t127, t130⟩, A30, H⟩ := H
 replace H : ((iRefs.f k a0_0 l0_1 l1).bind fun bt131 => (iOf.l0 k ([] : List Int) t130 bt131.1 t127 (t127.length : Int) 0)) = some (r1, r2) := H
 have A3 := Z0.mk A30
 clear A30
 replace H := Option.bind_eq_some_iff.mp H
 obtain ⟨⟨t131, t134⟩, A40, H⟩ := H
 replace H : (iOf.l0 k ([] : List Int) t130 t131 t127 (t127.length : Int) 0) = some (r1, r2) := H
 have A4 := Z0.mk A40
 clear A40
 have H' := Z0.mk H
 clear H
 go_enter Try.func30, Try.ntmps30
 go_wp2_with (first | ((with_reducible refine gate_dst (N := 2) rfl ?_); refine bE ?hg (N := 2) ?hd (cs := #[.int .i64 a0_0, .slice A0_1 l0_1.length c0_1]) (t := 24) ?hr ?_; (case hd => rfl); (case hg => rfl); (case hr => first | (go_simp; done) | (go_simp; rfl)); intro gb126 hg w5 hbox hb; have n0_ := Z0.mk (bT (by repeat (first | (with_reducible first | exact HB.out | apply below_alloc | apply bN | apply bD) | exact HB.out)) hb); have n1_ := Z0.mk (hbox); have n2_ := Z0.mk ((by rw [hg]; exact (bZ (by repeat (first | (with_reducible first | exact HB.out | apply below_alloc | apply bN | apply bD) | exact HB.out))) : w.heap.size ≤ gb126)); have n3_ := Z0.mk ((by rw [hg]; exact (bZ (by repeat (first | (with_reducible first | exact HB.out | apply below_alloc | apply bN | apply bD) | exact HB.out))) : w.heap.size ≤ gb126)); clear HB; have HB := n0_; have BK126 := n1_; have GW126 := n2_; have GE126 := n3_; clear n0_ n1_ n2_ n3_; clear hb hbox hg; have hcz6_0 : w5.cell? ⟨gb126, 0, none⟩ = some (.int .i64 a0_0) := (kC BK126.out 0).trans rfl; have hcz6_1 : w5.cell? ⟨gb126, 1, none⟩ = some (.slice A0_1 l0_1.length c0_1) := (kC BK126.out 1).trans rfl; have hfz6_0 := kF BK126.out 0; have hfz6_1 := kF BK126.out 1) | ((with_reducible refine gC (f := 81) rfl ?_); refine gL (some 14) rfl rfl Try.func81 (by kernel_rfl) rfl #[.agg #[.int .i64 a0_0, .slice A0_1 l0_1.length c0_1], .slice A1 l1.length c1] rfl (by (try simp only [List.map_toArray, List.map_cons, List.map_nil]); first | done | rfl | (simp only [List.length_drop, List.length_take]; rfl)) ?_; (with_reducible refine (istands.calls a0_0 _ _ l0_1 _ _ l1 t127 t130 _ ?side1 ?side2 ?side3 ?side4 A3.out).mono ?_); (case side1 => repeat (first | exact (Kd.C_below HR0_1.out HB.out) | (with_reducible refine Kd.C_alloc ?_ _) | (with_reducible refine Kd.C_drewN ?_ _) | (with_reducible refine Kd.C_drew ?_))); (case side2 => exact HC0_1.out); (case side3 => repeat (first | exact (Kd.C_below HR1.out HB.out) | (with_reducible refine Kd.C_alloc ?_ _) | (with_reducible refine Kd.C_drewN ?_ _) | (with_reducible refine Kd.C_drew ?_))); (case side4 => exact HC1.out); rintro e w7 ⟨v128, rfl, ho0, hb⟩; refine ⟨_, rfl, ?_⟩; have n0_ := Z0.mk (Kd.R_lower ho0 (bZ (by repeat (first | (with_reducible first | exact HB.out | apply below_alloc | apply bN | apply bD | refine bS ?_ GE126.out) | exact HB.out)))); have n1_ := Z0.mk (kB (g := gb126) (o := .cells #[.int .i64 a0_0, .slice A0_1 l0_1.length c0_1] 24 (0, 0)) (by (with_reducible repeat (first | refine kN ?_ _ | refine kD ?_ | refine kA ?_ _)); exact BK126.out) hb); have n2_ := Z0.mk (bT (by repeat (first | (with_reducible first | exact HB.out | apply below_alloc | apply bN | apply bD | refine bS ?_ GE126.out) | exact HB.out)) hb); clear BK126; clear HB; have HO129 := n0_; have BK126 := n1_; have HB := n2_; clear n0_ n1_ n2_; (try clear hb); (try clear hb2); (try clear hk); (try clear hi); (try clear ho0); have hcz8_0 : w7.cell? ⟨gb126, 0, none⟩ = some (.int .i64 a0_0) := (kC BK126.out 0).trans rfl; have hcz8_1 : w7.cell? ⟨gb126, 1, none⟩ = some (.slice A0_1 l0_1.length c0_1) := (kC BK126.out 1).trans rfl; have hfz8_0 := kF BK126.out 0; have hfz8_1 := kF BK126.out 1) | ((with_reducible refine gC (f := 41) rfl ?_); refine gL (some 20) rfl rfl Try.func41 (by kernel_rfl) rfl #[.agg #[.int .i64 a0_0, .slice A0_1 l0_1.length c0_1], .slice A1 l1.length c1] rfl (by (try simp only [List.map_toArray, List.map_cons, List.map_nil]); first | done | rfl | (simp only [List.length_drop, List.length_take]; rfl)) ?_; (with_reducible refine (iRefs.calls k a0_0 _ _ l0_1 _ _ l1 t131 t134 _ ?side1 ?side2 ?side3 ?side4 A4.out).mono ?_); (case side1 => repeat (first | exact (Kd.C_below HR0_1.out HB.out) | (with_reducible refine Kd.C_alloc ?_ _) | (with_reducible refine Kd.C_drewN ?_ _) | (with_reducible refine Kd.C_drew ?_))); (case side2 => exact HC0_1.out); (case side3 => repeat (first | exact (Kd.C_below HR1.out HB.out) | (with_reducible refine Kd.C_alloc ?_ _) | (with_reducible refine Kd.C_drewN ?_ _) | (with_reducible refine Kd.C_drew ?_))); (case side4 => exact HC1.out); rintro e w9 ⟨v132, rfl, ho0, hb⟩; refine ⟨_, rfl, ?_⟩; have n0_ := Z0.mk (Kd.R_elder' (by (with_reducible repeat (first | apply Kd.R_alloc | apply Kd.R_drewN | apply Kd.R_drew)); exact HO129.out) (Kd.R_base ho0) hb); have n1_ := Z0.mk (Kd.R_lower (Kd.R_new' ho0 (Kd.R_lt (by (with_reducible repeat (first | apply Kd.R_alloc | apply Kd.R_drewN | apply Kd.R_drew)); exact HO129.out))) (bZ (by repeat (first | (with_reducible first | exact HB.out | apply below_alloc | apply bN | apply bD | refine bS ?_ GE126.out) | exact HB.out)))); have n2_ := Z0.mk (kB (g := gb126) (o := .cells #[.int .i64 a0_0, .slice A0_1 l0_1.length c0_1] 24 (0, 0)) (by (with_reducible repeat (first | refine kN ?_ _ | refine kD ?_ | refine kA ?_ _)); exact BK126.out) hb); have n3_ := Z0.mk (bT (by repeat (first | (with_reducible first | exact HB.out | apply below_alloc | apply bN | apply bD | refine bS ?_ GE126.out) | exact HB.out)) hb); clear HO129; clear BK126; clear HB; have HO129 := n0_; have HO133 := n1_; have BK126 := n2_; have HB := n3_; clear n0_ n1_ n2_ n3_; (try clear hb); (try clear hb2); (try clear hk); (try clear hi); (try clear ho0); obtain ⟨Ao10, co10, eo10⟩ := Kd.R_slice HO129.out; subst eo10))
 go_loopg [4, 25] k (fun kq v4 v25 w' => ∃ (x4_1 : List Int) (x25_1 : Int), v25 = .int .i64 x25_1 ∧ Z0 (iOf.l0 kq x4_1 t130 t131 t127 (t127.length : Int) x25_1 = some (r1, r2)) ∧ Z0 (kq ≤ k) ∧ Z0 (Kd.R (Kd.int .i64) 3 w' w.heap.size (fun k_ => some k_ ≠ (v132 : Value).ownBlock ∧ some k_ ≠ ((.slice Ao10 t127.length co10) : Value).ownBlock) v4 x4_1) ∧ Z0 (Kd.R (Kd.int .i64) 3 w' w.heap.size (fun k_ => some k_ ≠ (v4 : Value).ownBlock ∧ some k_ ≠ ((.slice Ao10 t127.length co10) : Value).ownBlock) v132 t131) ∧ Z0 (Kd.R (Kd.int .i64) 3 w' w.heap.size (fun k_ => some k_ ≠ (v4 : Value).ownBlock ∧ some k_ ≠ (v132 : Value).ownBlock) (.slice Ao10 t127.length co10) t127) ∧ Z0 (w'.heap[gb126]? = some (.cells #[.int .i64 a0_0, (.slice A0_1 l0_1.length c0_1)] 24 (0, 0))) ∧ Z0 (Below w.heap.size w w'))
 case atStart => exact ⟨(([] : List Int)), (0), (by first | rfl | (simp; done) | (simp [*]; done)), H', ⟨Nat.le_refl _⟩, ⟨by first | exact Kd.R_nil _ _ _ _ _ | exact Kd.N_nil _ _ _ _ _ | exact Kd.V_nil _ _ _ _ _ | exact Kd.Q_nil _ _ _ _ _ | exact Kd.S_nil _ _ _ _ _⟩, ⟨by (with_reducible repeat (first | apply Kd.R_alloc | apply Kd.R_drewN | apply Kd.R_drew)); exact Kd.R_mono HO133.out (fun _ hk => ⟨(by simp [Value.ownBlock]), hk.2⟩)⟩, ⟨by (with_reducible repeat (first | apply Kd.R_alloc | apply Kd.R_drewN | apply Kd.R_drew)); exact Kd.R_mono HO129.out (fun _ hk => ⟨(by simp [Value.ownBlock]), hk.2⟩)⟩, ⟨by (with_reducible repeat (first | refine kN ?_ _ | refine kD ?_ | refine kA ?_ _)); exact BK126.out⟩, ⟨by repeat (first | (with_reducible first | exact HB.out | apply below_alloc | apply bN | apply bD | refine bS ?_ GE126.out) | exact HB.out)⟩⟩
 case round =>
  clear H'; (try clear c1); (try clear p2); (try clear c3); (try clear c4); (try clear c8); (try clear hcz6_0); (try clear hcz6_1); (try clear hcz8_0); (try clear hcz8_1); (try clear hfz6_0); (try clear hfz6_1); (try clear hfz8_0); (try clear hfz8_1)
  obtain ⟨x4_1, x25_1, rfl, HA, HK1, HO_4, HO_7, HO_23, BK126, HB⟩ := hrel
  cases gk with
  | zero => exact absurd HA.out (by simp [iOf.l0])
  | succ k1 =>
   have H := HA.out
   clear HA
   simp only [iOf.l0] at H
   by_cases c11 : x25_1 < (t127.length : Int)
   ·rw [if_pos c11] at H
    have c11b0 : decide (x25_1 < (t127.length : Int)) = true := decide_eq_true c11
    clear c11
    by_cases c12 : 0 ≤ x25_1
    ·rw [if_pos c12] at H
     have c12b0 : decide (0 ≤ x25_1) = true := decide_eq_true c12
     clear c12
     by_cases c13 : x25_1 < (t127.length : Int)
     ·rw [if_pos c13] at H
      have c13b0 : decide (x25_1 < (t127.length : Int)) = true := decide_eq_true c13
      clear c13
      replace H := Option.bind_eq_some_iff.mp H
      obtain ⟨t136, A140, H⟩ := H
      replace H : (if x4_1.length < 17592186044416 then (iOf.l0 k1 (x4_1 ++ [t136]) t130 t131 t127 (t127.length : Int) (wrap64 (x25_1 + 1))) else (none)) = some (r1, r2) := H
      have A14 := Z0.mk A140
      clear A140
      by_cases c15 : x4_1.length < 17592186044416
      ·rw [if_pos c15] at H
       have LMc15 := Z0.mk c15
       clear c15
       obtain ⟨y137, hy137⟩ : ∃ y_ : List Int, y_ = (x4_1 ++ [t136]) := ⟨_, rfl⟩
       replace H : (iOf.l0 k1 y137 t130 t131 t127 (t127.length : Int) (wrap64 (x25_1 + 1))) = some (r1, r2) := by first | (rw [hy137]; with_reducible exact H) | (have H2_ := (Option.bind_some _ _).symm.trans H; rw [hy137]; with_reducible exact H2_) | (have H2_ := (Option.bind_some _ _).symm.trans H; with_reducible exact H2_) | with_reducible exact H | (rw [hy137]; exact H) | exact H
       have Ny137 := Z0.mk hy137
       clear hy137
       have H' := Z0.mk H
       clear H
       have p135 : 0 ≤ (x25_1 : Int) := of_decide_eq_true (by first | (with_reducible assumption) | assumption)
       have q135 : x25_1 < (t127.length : Int) := of_decide_eq_true (by first | (with_reducible assumption) | assumption)
       obtain ⟨ad135, e135, hx135_0⟩ := Kd.at_int (Kd.R_reads' HO_23.out).2.2 x25_1 p135 q135
       cases e135
       replace p135 := eq_true p135
       replace q135 := eq_true q135
       obtain ⟨Ao16, co16, eo16⟩ := Kd.R_slice HO_7.out
       subst eo16
       go_wp2_with (first | ((with_reducible refine gC (f := 82) rfl ?_); refine gL (some 32) rfl rfl Try.func82 (by kernel_rfl) rfl #[.slice Ao16 t131.length co16, .int .i64 (rd t127 x25_1)] rfl (by (try simp only [List.map_toArray, List.map_cons, List.map_nil]); first | done | rfl | (simp only [List.length_drop, List.length_take]; rfl)) ?_; (with_reducible refine (sIndex.calls k1 _ _ t131 (rd t127 x25_1) t136 _ ?side1 ?side2 A14.out).mono ?_); (case side1 => repeat (first | exact (Kd.R_reads' HO_7.out).2.2 | (with_reducible refine Kd.C_alloc ?_ _) | (with_reducible refine Kd.C_drewN ?_ _) | (with_reducible refine Kd.C_drew ?_))); (case side2 => exact (Kd.R_reads' HO_7.out).2.1); rintro e w' ⟨rfl, ⟨nd, rfl⟩⟩; refine ⟨_, rfl, ?_⟩) | ((with_reducible refine gate_builtin (b := .append) (xs := #[.tmp 29, .tmp 33]) rfl ?_); at_builtin; refine Kd.R_append (Kd.int .i64) (w0 := w) w.heap.size rfl (.tmp 29) (.tmp 33) 25 3 (.int .i64 0) 8 rfl Try.underlying25 info3 rfl (by decide) (by omega) u4 x4_1 t136 [.int .i64 t136] (fun k_ => some k_ ≠ (.slice Ao16 t131.length co16 : Value).ownBlock ∧ some k_ ≠ (.slice (some ad135) t127.length co10 : Value).ownBlock) (fun _ => False) rfl rfl ?aP (fun _ hk => hk.elim) ?aF ?aO ?aB ?aS ?aL ?_; (case aP => exact rfl); (case aB => exact (by repeat (first | (with_reducible first | exact HB.out | apply below_alloc | apply bN | apply bD | refine bS ?_ GE126.out) | exact HB.out))); (case aF => exact (fun k_ hk => ⟨Kd.fresh' (Kd.R_lt (by (with_reducible repeat (first | apply Kd.R_alloc | apply Kd.R_drewN | apply Kd.R_drew)); exact HO_7.out)) k_ hk, Kd.fresh' (Kd.R_lt (by (with_reducible repeat (first | apply Kd.R_alloc | apply Kd.R_drewN | apply Kd.R_drew)); exact HO_23.out)) k_ hk⟩)); (case aO => exact (by (with_reducible repeat (first | apply Kd.R_alloc | apply Kd.R_drewN | apply Kd.R_drew)); exact HO_4.out)); (case aS => exact (bZ (by repeat (first | (with_reducible first | exact HB.out | apply below_alloc | apply bN | apply bD | refine bS ?_ GE126.out) | exact HB.out)))); (case aL => have := LMc15.out; omega); intro v138 w17 ho hb hg hat; rw [← Ny137.out] at ho; have n0_ := Z0.mk (Kd.R_after (ok := (fun k_ => some k_ ≠ (.slice (some ad135) t127.length co10 : Value).ownBlock)) (by (with_reducible repeat (first | apply Kd.R_alloc | apply Kd.R_drewN | apply Kd.R_drew)); exact Kd.R_mono HO_7.out (fun _ hk => ⟨hk.2, hk.1⟩)) hg hat); have n1_ := Z0.mk (Kd.R_after (ok := (fun k_ => some k_ ≠ (.slice Ao16 t131.length co16 : Value).ownBlock)) (by (with_reducible repeat (first | apply Kd.R_alloc | apply Kd.R_drewN | apply Kd.R_drew)); exact Kd.R_mono HO_23.out (fun _ hk => ⟨hk.2, hk.1⟩)) hg hat); have n2_ := Z0.mk (blk_grown (g := gb126) (o := .cells #[.int .i64 a0_0, .slice A0_1 l0_1.length c0_1] 24 (0, 0)) (by (with_reducible repeat (first | refine kN ?_ _ | refine kD ?_ | refine kA ?_ _)); exact BK126.out) hg (Kd.R_ne HO_4.out BK126.out (by decide))); have n3_ := Z0.mk (hb); have n4_ := Z0.mk (ho); clear HO_7; clear HO_23; clear BK126; clear HB; clear HO_4; have HO_7 := n0_; have HO_23 := n1_; have BK126 := n2_; have HB := n3_; have HO139 := n4_; clear n0_ n1_ n2_ n3_ n4_; clear ho hb hg hat))
       go_roundg k1
       case measure => have := HK1.out; omega
       case rel => exact ⟨(y137), (wrap64 (x25_1 + 1)), (by first | rfl | (simp; done) | (simp [*]; done)), H', ⟨by have := HK1.out; omega⟩, ⟨by (with_reducible repeat (first | apply Kd.R_alloc | apply Kd.R_drewN | apply Kd.R_drew)); exact HO139.out⟩, ⟨by (with_reducible repeat (first | apply Kd.R_alloc | apply Kd.R_drewN | apply Kd.R_drew)); exact Kd.R_mono HO_7.out (fun _ hk => ⟨hk.2, hk.1⟩)⟩, ⟨by (with_reducible repeat (first | apply Kd.R_alloc | apply Kd.R_drewN | apply Kd.R_drew)); exact Kd.R_mono HO_23.out (fun _ hk => ⟨hk.2, hk.1⟩)⟩, ⟨by (with_reducible repeat (first | refine kN ?_ _ | refine kD ?_ | refine kA ?_ _)); exact BK126.out⟩, ⟨by repeat (first | (with_reducible first | exact HB.out | apply below_alloc | apply bN | apply bD | refine bS ?_ GE126.out) | exact HB.out)⟩⟩
      ·rw [if_neg c15] at H
       exact absurd H (by simp)
     ·rw [if_neg c13] at H
      exact absurd H (by simp)
    ·rw [if_neg c12] at H
     exact absurd H (by simp)
   ·rw [if_neg c11] at H
    have c11b0 : decide (x25_1 < (t127.length : Int)) = false := decide_eq_false c11
    clear c11
    simp only [Option.some.injEq, Prod.mk.injEq] at H
    obtain ⟨rfl, rfl⟩ := H
    go_wp2
    go_ret2
    exact ⟨_, by first | rfl | (simp [errW_none, errW_some] <;> rfl) | (simp [*, errW_none, errW_some] <;> rfl), by (with_reducible repeat (first | apply Kd.R_alloc | apply Kd.R_drewN | apply Kd.R_drew)); exact Kd.R_mono HO_4.out (fun _ hk => trivial), by repeat (first | (with_reducible first | exact HB.out | apply below_alloc | apply bN | apply bD | refine bS ?_ GE126.out) | exact HB.out)⟩
end
section
def iCount.f (k : Nat) (a0_0 : Int) (l0_1 : List (S37)) (l1 : List Int) : Option (Int × Int) := (iRefs.f k a0_0 l0_1 l1).bind fun bt317 => (some ((bt317.1.length : Int), bt317.2))
end
def ql15five.f  : Option (Int × (List (S37))) := some (5, (([(⟨0, 3, 1, 0⟩ : S37), (⟨3, 1, 1, 0⟩ : S37), (⟨2, 4, 1, 0⟩ : S37)] : List (S37))))
set_option maxHeartbeats 8000000 in
set_option maxRecDepth 100000 in
theorem ql15five.calls  (r1 : Int) (r2 : List (S37)) (w : World) (h : ql15five.f  = some (r1, r2)) :
  Calls Try.prog 50 #[] w fun e w' => ∃ v1_ : Value, e = .returned (.agg #[.int .i64 r1, v1_]) ∧ Kd.R k37 37 w' w.heap.size (fun _ => True) v1_ r2 ∧ Below w.heap.size w w' := by
 have hu24 := Try.underlying24
 have hu37 := Try.underlying37
 have HB := Z0.mk (Below.refl w.heap.size w)
 have H : (some (5, (([(⟨0, 3, 1, 0⟩ : S37), (⟨3, 1, 1, 0⟩ : S37), (⟨2, 4, 1, 0⟩ : S37)] : List (S37))))) = some (r1, r2) := h
 clear h
 obtain ⟨y143, hy143⟩ : ∃ y_ : List (S37), y_ = (([(⟨0, 3, 1, 0⟩ : S37), (⟨3, 1, 1, 0⟩ : S37), (⟨2, 4, 1, 0⟩ : S37)] : List (S37))) := ⟨_, rfl⟩
 replace H : (some (5, y143)) = some (r1, r2) := by first | (rw [hy143]; with_reducible exact H) | (have H2_ := (Option.bind_some _ _).symm.trans H; rw [hy143]; with_reducible exact H2_) | (have H2_ := (Option.bind_some _ _).symm.trans H; with_reducible exact H2_) | with_reducible exact H | (rw [hy143]; exact H) | exact H
 have Ny143 := Z0.mk hy143
 clear hy143
 simp only [Option.some.injEq, Prod.mk.injEq] at H
 obtain ⟨rfl, rfl⟩ := H
 go_enter Try.func50, Try.ntmps50
 go_wp2_with (first | ((with_reducible refine gate_dst (N := 0) rfl ?_); refine bE ?hg (N := 0) ?hd (cs := #[.int .i64 0, .slice none 0 0]) (t := 24) ?hr ?_; (case hd => rfl); (case hg => rfl); (case hr => first | (go_simp; done) | (go_simp; rfl)); intro gb142 hg w1 hbox hb; have n0_ := Z0.mk (bT (by repeat (first | (with_reducible first | exact HB.out | apply below_alloc | apply bN | apply bD) | exact HB.out)) hb); have n1_ := Z0.mk (hbox); have n2_ := Z0.mk ((by rw [hg]; exact (bZ (by repeat (first | (with_reducible first | exact HB.out | apply below_alloc | apply bN | apply bD) | exact HB.out))) : w.heap.size ≤ gb142)); have n3_ := Z0.mk ((by rw [hg]; exact (bZ (by repeat (first | (with_reducible first | exact HB.out | apply below_alloc | apply bN | apply bD) | exact HB.out))) : w.heap.size ≤ gb142)); clear HB; have HB := n0_; have BK142 := n1_; have GW142 := n2_; have GE142 := n3_; clear n0_ n1_ n2_ n3_; clear hb hbox hg) | ((with_reducible refine gate_dst (N := 4) rfl ?_); refine Kd.R_lit k37 _ 37 ?hg (N := 4) ?hd (xs := ([(⟨0, 3, 1, 0⟩ : S37), (⟨3, 1, 1, 0⟩ : S37), (⟨2, 4, 1, 0⟩ : S37)] : List (S37))) (inner := [.int .i64 0, .int .i64 3, .int .i64 1, .int .i64 0, .int .i64 3, .int .i64 1, .int .i64 1, .int .i64 0, .int .i64 2, .int .i64 4, .int .i64 1, .int .i64 0]) (ok := fun _ => True) (okp := fun _ => True) ?hr ?hp (fun _ hk => hk) trivial (Below.refl _ _) (Nat.le_refl _) (by simp) ?_; (case hd => rfl); (case hg => rfl); (case hr => first | (go_simp; done) | (go_simp; rfl)); (case hp => exact (Reps.c4 (show Kd.M k37 _ _ _ (⟨0, 3, 1, 0⟩ : S37) [.int .i64 0, .int .i64 3, .int .i64 1, .int .i64 0] from (k37_mkM _ _ _ (⟨0, 3, 1, 0⟩ : S37) )) (Reps.c4 (show Kd.M k37 _ _ _ (⟨3, 1, 1, 0⟩ : S37) [.int .i64 3, .int .i64 1, .int .i64 1, .int .i64 0] from (k37_mkM _ _ _ (⟨3, 1, 1, 0⟩ : S37) )) (Reps.c4 (show Kd.M k37 _ _ _ (⟨2, 4, 1, 0⟩ : S37) [.int .i64 2, .int .i64 4, .int .i64 1, .int .i64 0] from (k37_mkM _ _ _ (⟨2, 4, 1, 0⟩ : S37) )) (Reps.none _ _))))); intro v144 w2 ho3 hb hg_ hnew_; clear hg_ hnew_; (first | rw [← Ny143.out] at ho3 | (simp only [Int.reduceToNat] at ho3; rw [← Ny143.out] at ho3)); have n0_ := Z0.mk (Kd.R_lower ho3 (bZ (by repeat (first | (with_reducible first | exact HB.out | apply below_alloc | apply bN | apply bD | refine bS ?_ GE142.out) | exact HB.out)))); have n1_ := Z0.mk (kB (g := gb142) (o := .cells #[.int .i64 0, .slice none 0 0] 24 (0, 0)) (by (with_reducible repeat (first | refine kN ?_ _ | refine kD ?_ | refine kA ?_ _)); exact BK142.out) hb); have n2_ := Z0.mk (bT (by repeat (first | (with_reducible first | exact HB.out | apply below_alloc | apply bN | apply bD | refine bS ?_ GE142.out) | exact HB.out)) hb); clear BK142; clear HB; have HO145 := n0_; have BK142 := n1_; have HB := n2_; clear n0_ n1_ n2_; clear hb ho3; obtain ⟨Ao4, co4, eo4⟩ := Kd.R_slice HO145.out; subst eo4; have hcz5_0 : w2.cell? ⟨gb142, 0, none⟩ = some (.int .i64 0) := (kC BK142.out 0).trans rfl; have hcz5_1 : w2.cell? ⟨gb142, 1, none⟩ = some (.slice none 0 0) := (kC BK142.out 1).trans rfl; have hfz5_0 := kF BK142.out 0; have hfz5_1 := kF BK142.out 1))
 refine bodyPost_ret (results_cell_row rfl _ _ gb142 24 #[.int .i64 5, .slice Ao4 y143.length co4] (0, 0) _ rfl (by (with_reducible repeat (first | refine kN ?_ _ | refine kD ?_ | refine kA ?_ _)); refine kP (cs := #[.int .i64 5, .slice none 0 0]) ?_ 1 _ rfl; (with_reducible repeat (first | refine kN ?_ _ | refine kD ?_ | refine kA ?_ _)); refine kP (cs := #[.int .i64 0, .slice none 0 0]) ?_ 0 _ rfl; (with_reducible repeat (first | refine kN ?_ _ | refine kD ?_ | refine kA ?_ _)); exact BK142.out) Try.underlying24 rfl (by kernel_rfl)) rfl ?_
 exact ⟨_, by first | rfl | (simp [errW_none, errW_some] <;> rfl) | (simp [*, errW_none, errW_some] <;> rfl), by (with_reducible repeat (first | apply Kd.R_alloc | apply Kd.R_drewN | apply Kd.R_drew)); exact Kd.R_mono (Kd.R_far (p := ⟨gb142, 1, none⟩) (Kd.R_far (p := ⟨gb142, 0, none⟩) (Kd.R_types HO145.out BK142.out (by decide)) (fun _ hk => hk.2) (.int .i64 5)) (fun _ hk => hk.2) (.slice Ao4 y143.length co4)) (fun _ hk => trivial), by repeat (first | (with_reducible first | exact HB.out | apply below_alloc | apply bN | apply bD | refine bS ?_ GE142.out) | exact HB.out)⟩
section
theorem C_lit (w : World) (xs : List Int) (t : TypeId) (h : xs.length ≤ 9223372036854775807) : Kd.C (Kd.int .i64) (w.alloc (.cells (xs.map (Value.int .i64)).toArray t)) (some ⟨w.heap.size, 0, none⟩) xs.length xs := by
  refine Kd.C_of_reads (d := (0 : Int)) ⟨rfl, h, fun _ => ⟨_, rfl, fun j hj => ?_⟩⟩
  have e := kC (heap_alloc_new w (.cells (xs.map (Value.int .i64)).toArray t)) j
  have e2 : (xs.map (Value.int .i64)).toArray[j]? = some (Value.int .i64 (xs.getD j 0)) := by
    rw [List.getElem?_toArray, List.getElem?_map, List.getElem?_eq_getElem hj, List.getD_eq_getElem?_getD, List.getElem?_eq_getElem hj]; rfl
  rw [e2] at e
  have ea : ((⟨w.heap.size, 0, none⟩ : Addr).add j) = ⟨w.heap.size, j, none⟩ := by simp [Addr.add]; omega
  rw [ea]
  exact e
end
section
end
def five : List S37 := [(⟨0, 3, 1, 0⟩ : S37), (⟨3, 1, 1, 0⟩ : S37), (⟨2, 4, 1, 0⟩ : S37)]
theorem five_f : ql15five.f = some (5, five) := rfl
theorem five_of : iOf.f 20 5 five [] = some ([0, 0, 1, 0, 1], 0) := by kernel_rfl
theorem five_refs : iRefs.f 20 5 five [] = some ([0, 2], 0) := by kernel_rfl
theorem five_of1 : iOf.f 20 5 five [1] = some ([0, 1, 2, 0, 2], 0) := by kernel_rfl
theorem five_refs1 : iRefs.f 20 5 five [1] = some ([0, 1, 2], 0) := by kernel_rfl
theorem ints1 : qr14Ints.f 20 [0, 0, 1, 0, 1] [0, 0, 1, 0, 1] = some true := by kernel_rfl
theorem ints2 : qr14Ints.f 20 [0, 2] [0, 2] = some true := by kernel_rfl
theorem ints3 : qr14Ints.f 20 [0, 1, 2, 0, 2] [0, 1, 2, 0, 2] = some true := by kernel_rfl
theorem ints4 : qr14Ints.f 20 [0, 1, 2] [0, 1, 2] = some true := by kernel_rfl
def ql15awake.f : Option (Bool) := some true
set_option maxRecDepth 100000 in
set_option maxHeartbeats 4000000 in
theorem ql15awake.calls  (r : Bool) (w : World) (h : ql15awake.f  = some r) :
  Calls Try.prog 29 #[] w fun e w' => e = .returned (.bool r) ∧ Below w.heap.size w w' := by
 have hr : true = r := Option.some.inj h
 subst hr
 clear h
 go_enter Try.func29, Try.ntmps29
 go_wp2_with fail
 -- Of
 go_at_call 50
 refine (ql15five.calls _ _ w five_f).mono ?_
 rintro e w1 ⟨v1, rfl, h1, b1⟩
 obtain ⟨A1, c1, rfl⟩ := Kd.R_slice h1
 obtain ⟨_, hc1, hC1⟩ := Kd.R_reads' h1
 clear h1
 have B1 := Lib.hid b1
 clear b1
 go_wp2_with fail
 go_at_call 30
 refine (iOf.calls 20 5 A1 c1 five none 0 [] _ _ w1 hC1 hc1 (Kd.C_nil _ _) (Nat.le_refl _) five_of).mono ?_
 rintro e w2 ⟨v2, rfl, h2, b2⟩
 obtain ⟨A2, c2, rfl⟩ := Kd.R_slice h2
 obtain ⟨_, hc2, hC2⟩ := Kd.R_reads' h2
 have X2 := Lib.hid hC2
 have B2 := Lib.hid (B1.out.trans (b2.mono B1.out.size))
 clear h2 b2 B1 hC1 hC2
 go_wp2_with fail
 -- Refs
 go_at_call 50
 refine (ql15five.calls _ _ w2 five_f).mono ?_
 rintro e w3 ⟨v3, rfl, h3, b3⟩
 obtain ⟨A3, c3, rfl⟩ := Kd.R_slice h3
 obtain ⟨_, hc3, hC3⟩ := Kd.R_reads' h3
 have X3 := Lib.hid (Kd.C_below X2.out b3)
 have B3 := Lib.hid (B2.out.trans (b3.mono B2.out.size))
 clear h3 b3 B2 X2
 go_wp2_with fail
 go_at_call 41
 refine (iRefs.calls 20 5 A3 c3 five none 0 [] _ _ w3 hC3 hc3 (Kd.C_nil _ _) (Nat.le_refl _) five_refs).mono ?_
 rintro e w4 ⟨v4, rfl, h4, b4⟩
 obtain ⟨A4, c4, rfl⟩ := Kd.R_slice h4
 obtain ⟨_, hc4, hC4⟩ := Kd.R_reads' h4
 have X4 := Lib.hid (Kd.C_below X3.out b4)
 have Y4 := Lib.hid hC4
 have B4 := Lib.hid (B3.out.trans (b4.mono B3.out.size))
 clear h4 b4 B3 X3 hC3 hC4
 go_wp2_with fail
 -- Of, line 1 out
 go_at_call 50
 refine (ql15five.calls _ _ w4 five_f).mono ?_
 rintro e w5 ⟨v5, rfl, h5, b5⟩
 obtain ⟨A5, c5, rfl⟩ := Kd.R_slice h5
 obtain ⟨_, hc5, hC5⟩ := Kd.R_reads' h5
 have X5 := Lib.hid (Kd.C_below X4.out b5)
 have Y5 := Lib.hid (Kd.C_below Y4.out b5)
 have B5 := Lib.hid (B4.out.trans (b5.mono B4.out.size))
 clear h5 b5 B4 X4 Y4
 go_wp2_with fail
 have C5 := C_lit w5 [1] 3 (by decide)
 go_at_call 30
 refine (iOf.calls 20 5 A5 c5 five (some ⟨w5.heap.size, 0, none⟩) 1 [1] _ _ _ (Kd.C_alloc hC5 _) hc5 C5 (Nat.le_refl _) five_of1).mono ?_
 rintro e w6 ⟨v6, rfl, h6, b6⟩
 obtain ⟨A6, c6, rfl⟩ := Kd.R_slice h6
 obtain ⟨_, hc6, hC6⟩ := Kd.R_reads' h6
 have b6' := (below_alloc (Below.refl w5.heap.size w5) _).trans (b6.mono (by simp))
 have X6 := Lib.hid (Kd.C_below X5.out b6')
 have Y6 := Lib.hid (Kd.C_below Y5.out b6')
 have Z6 := Lib.hid hC6
 have B6 := Lib.hid (B5.out.trans (b6'.mono B5.out.size))
 clear h6 b6 b6' B5 X5 Y5 hC5 hC6 C5
 go_wp2_with fail
 -- Refs, line 1 out
 go_at_call 50
 refine (ql15five.calls _ _ w6 five_f).mono ?_
 rintro e w7 ⟨v7, rfl, h7, b7⟩
 obtain ⟨A7, c7, rfl⟩ := Kd.R_slice h7
 obtain ⟨_, hc7, hC7⟩ := Kd.R_reads' h7
 have X7 := Lib.hid (Kd.C_below X6.out b7)
 have Y7 := Lib.hid (Kd.C_below Y6.out b7)
 have Z7 := Lib.hid (Kd.C_below Z6.out b7)
 have B7 := Lib.hid (B6.out.trans (b7.mono B6.out.size))
 clear h7 b7 B6 X6 Y6 Z6
 go_wp2_with fail
 have C7 := C_lit w7 [1] 3 (by decide)
 go_at_call 41
 refine (iRefs.calls 20 5 A7 c7 five (some ⟨w7.heap.size, 0, none⟩) 1 [1] _ _ _ (Kd.C_alloc hC7 _) hc7 C7 (Nat.le_refl _) five_refs1).mono ?_
 rintro e w8 ⟨v8, rfl, h8, b8⟩
 obtain ⟨A8, c8, rfl⟩ := Kd.R_slice h8
 obtain ⟨_, hc8, hC8⟩ := Kd.R_reads' h8
 have b8' := (below_alloc (Below.refl w7.heap.size w7) _).trans (b8.mono (by simp))
 have X8 := Lib.hid (Kd.C_below X7.out b8')
 have Y8 := Lib.hid (Kd.C_below Y7.out b8')
 have Z8 := Lib.hid (Kd.C_below Z7.out b8')
 have U8 := Lib.hid hC8
 have B8 := Lib.hid (B7.out.trans (b8'.mono B7.out.size))
 clear h8 b8 b8' B7 X7 Y7 Z7 hC7 hC8 C7
 go_wp2_with fail
 -- the comparisons
 go_at_call 36
 refine (qr14Ints.calls 20 A2 c2 [0, 0, 1, 0, 1] (some ⟨w8.heap.size, 0, none⟩) 5 [0, 0, 1, 0, 1] true _ (Kd.C_alloc X8.out _) hc2 (C_lit w8 [0, 0, 1, 0, 1] 3 (by decide)) (Nat.le_refl _) ints1).mono ?_
 rintro e w' ⟨rfl, ⟨m, rfl⟩⟩
 have b9 : Below w8.heap.size w8 ((w8.alloc (.cells (([0, 0, 1, 0, 1] : List Int).map (Value.int .i64)).toArray 3)).drewN m) := bN (below_alloc (Below.refl _ _) _) m
 generalize (w8.alloc (.cells (([0, 0, 1, 0, 1] : List Int).map (Value.int .i64)).toArray 3)).drewN m = w9 at b9 ⊢
 have Y9 := Lib.hid (Kd.C_below Y8.out b9)
 have Z9 := Lib.hid (Kd.C_below Z8.out b9)
 have U9 := Lib.hid (Kd.C_below U8.out b9)
 have B9 := Lib.hid (B8.out.trans (b9.mono B8.out.size))
 clear b9 B8
 go_wp2_with fail
 go_at_call 36
 refine (qr14Ints.calls 20 A4 c4 [0, 2] (some ⟨w9.heap.size, 0, none⟩) 2 [0, 2] true _ (Kd.C_alloc Y9.out _) hc4 (C_lit w9 [0, 2] 3 (by decide)) (Nat.le_refl _) ints2).mono ?_
 rintro e w' ⟨rfl, ⟨m, rfl⟩⟩
 have b10 : Below w9.heap.size w9 ((w9.alloc (.cells (([0, 2] : List Int).map (Value.int .i64)).toArray 3)).drewN m) := bN (below_alloc (Below.refl _ _) _) m
 generalize (w9.alloc (.cells (([0, 2] : List Int).map (Value.int .i64)).toArray 3)).drewN m = w10 at b10 ⊢
 have Z10 := Lib.hid (Kd.C_below Z9.out b10)
 have U10 := Lib.hid (Kd.C_below U9.out b10)
 have B10 := Lib.hid (B9.out.trans (b10.mono B9.out.size))
 clear b10 B9
 go_wp2_with fail
 go_at_call 36
 refine (qr14Ints.calls 20 A6 c6 [0, 1, 2, 0, 2] (some ⟨w10.heap.size, 0, none⟩) 5 [0, 1, 2, 0, 2] true _ (Kd.C_alloc Z10.out _) hc6 (C_lit w10 [0, 1, 2, 0, 2] 3 (by decide)) (Nat.le_refl _) ints3).mono ?_
 rintro e w' ⟨rfl, ⟨m, rfl⟩⟩
 have b11 : Below w10.heap.size w10 ((w10.alloc (.cells (([0, 1, 2, 0, 2] : List Int).map (Value.int .i64)).toArray 3)).drewN m) := bN (below_alloc (Below.refl _ _) _) m
 generalize (w10.alloc (.cells (([0, 1, 2, 0, 2] : List Int).map (Value.int .i64)).toArray 3)).drewN m = w11 at b11 ⊢
 have U11 := Lib.hid (Kd.C_below U10.out b11)
 have B11 := Lib.hid (B10.out.trans (b11.mono B10.out.size))
 clear b11 B10
 go_wp2_with fail
 go_at_call 36
 refine (qr14Ints.calls 20 A8 c8 [0, 1, 2] (some ⟨w11.heap.size, 0, none⟩) 3 [0, 1, 2] true _ (Kd.C_alloc U11.out _) hc8 (C_lit w11 [0, 1, 2] 3 (by decide)) (Nat.le_refl _) ints4).mono ?_
 rintro e w' ⟨rfl, ⟨m, rfl⟩⟩
 have b12 : Below w11.heap.size w11 ((w11.alloc (.cells (([0, 1, 2] : List Int).map (Value.int .i64)).toArray 3)).drewN m) := bN (below_alloc (Below.refl _ _) _) m
 generalize (w11.alloc (.cells (([0, 1, 2] : List Int).map (Value.int .i64)).toArray 3)).drewN m = w12 at b12 ⊢
 have B12 := Lib.hid (B11.out.trans (b12.mono B11.out.size))
 clear b12 B11
 go_wp2_with fail
 go_ret
 exact ⟨rfl, B12.out⟩
section
attribute [local go_sem] Oper.semAt_some
def swapL (l : S37) : S37 := ⟨l.f1, l.f0, l.f2, l.f3⟩
def nReverse.f (a0_0 : Int) (l0_1 : List (S37)) (a1 : Int) : Option (Int × (List (S37)) × Int) :=
  if chk a0_0 l0_1 = 0 then (if a1 < 0 then some (0, [], 1) else if (l0_1.length : Int) ≤ a1 then some (0, [], 1) else some (a0_0, l0_1.set a1.toNat (swapL (rd_T37 l0_1 a1)), 0)) else some (0, [], chk a0_0 l0_1)
theorem k37_two {W : World} {base g n cap : Nat} {ok : Nat → Prop} {L : List S37} (h : Kd.R k37 37 W base ok (.slice (some ⟨g, 0, none⟩) n cap) L) (i : Int) (h0 : 0 ≤ i) (h1 : i < n) (a b : Int) :
    Kd.R k37 37 ((W.setCell ⟨g, i.toNat * 4, none⟩ (.int .i64 a)).setCell ⟨g, i.toNat * 4 + 1, none⟩ (.int .i64 b)) base ok (.slice (some ⟨g, 0, none⟩) n cap) (L.set i.toNat ⟨a, b, (rd_T37 L i).f2, (rd_T37 L i).f3⟩) := by
  have hn : n = L.length := (Kd.R_reads' h).1
  obtain ⟨c, hcl, hM, hcc, _⟩ := Kd.R_elem h z37 i h0 h1
  have hx := k37_openM hM
  have hg : L.getD i.toNat z37 = rd_T37 L i := rfl
  rw [hg] at hx
  subst hx
  have r1 := (Kd.R_seg h i h0 h1 (j := 0) (seg := [.int .i64 a]) hcl hcc (by simp [k37]; decide) (x' := ⟨a, (rd_T37 L i).f1, (rd_T37 L i).f2, (rd_T37 L i).f3⟩) (okp := fun k => ok k ∧ k ≠ g) (k37_mkM _ _ _ ⟨a, (rd_T37 L i).f1, (rd_T37 L i).f2, (rd_T37 L i).f3⟩) (fun _ hk => hk)).1
  obtain ⟨c2, hcl2, hM2, hcc2, _⟩ := Kd.R_elem r1 z37 i h0 h1
  have hx2 := k37_openM hM2
  have hg2 : (L.set i.toNat ⟨a, (rd_T37 L i).f1, (rd_T37 L i).f2, (rd_T37 L i).f3⟩).getD i.toNat z37 = (⟨a, (rd_T37 L i).f1, (rd_T37 L i).f2, (rd_T37 L i).f3⟩ : S37) := by
    have : i.toNat < L.length := by omega
    simp [List.getD_eq_getElem?_getD, this]
  rw [hg2] at hx2
  subst hx2
  have r2 := (Kd.R_seg r1 i h0 h1 (j := 1) (seg := [.int .i64 b]) hcl2 hcc2 (by simp [k37]; decide) (x' := ⟨a, b, (rd_T37 L i).f2, (rd_T37 L i).f3⟩) (okp := fun k => ok k ∧ k ≠ g) (k37_mkM _ _ _ ⟨a, b, (rd_T37 L i).f2, (rd_T37 L i).f3⟩) (fun _ hk => hk)).1
  rw [List.set_set] at r2
  exact r2
set_option maxHeartbeats 2000000 in
set_option maxRecDepth 100000 in
theorem cloneL_calls (A : Option Addr) (c : Nat) (l : List S37) (w : World) (hr : Kd.C k37 w A l.length l) (hlen : l.length ≤ 1000000) :
    Calls Try.prog 85 #[.slice A l.length c] w fun e w' => ∃ v : Value, e = .returned v ∧ Kd.R k37 37 w' w.heap.size (fun _ => True) v l ∧ Below w.heap.size w w' := by
  have q22 : ∀ (w : World) (a : Option Addr) (n c n' c' : Nat), (binOp .eql 22 (.slice a n c) (.slice none n' c')).run Try.prog w = .ok (.bool a.isNone) w := fun w a n c n' c' => Lib.run_eql_slice_nil w _ _ a n c n' c' Try.underlying22
  cases A with
  | none =>
    have h0 : l = [] := by
      rcases Nat.eq_zero_or_pos l.length with h | h
      · exact List.eq_nil_of_length_eq_zero h
      · obtain ⟨ad, h, _⟩ := hr.2.2 h; cases h
    subst h0
    clear hr
    go_enter Try.func85, Try.ntmps85
    go_wp2
    go_ret
    exact ⟨_, rfl, Kd.R_nil _ _ _ _ _, Below.refl _ _⟩
  | some ad =>
    have HR := Lib.hid hr
    clear hr
    go_enter Try.func85, Try.ntmps85
    go_wp2_with (at_builtin; refine Kd.R_append_rows k37 (Rr := k37.K (w.alloc (.cells #[] 37))) (w0 := w) w.heap.size rfl _ _ 22 37 (.agg #[(.int .i64 0), (.int .i64 0), (.int .i64 0), (.int .i64 0)]) 32 rfl Try.underlying22 info37 rfl (by decide) (by decide) (.slice (some ⟨w.heap.size, 0, none⟩) 0 0) [] l (some ad) l.length c (fun _ => True) (fun _ => False) rfl rfl ?aO ?aR ?aM (fun _ hk => hk.elim) (fun _ _ => trivial) ?aB ?ab ?al ?_; (case aO => exact ⟨fun _ _ => trivial, [], World.ownsRow_made w #[] 0 (Nat.le_refl _) (Nat.zero_le _) rfl, ⟨rfl, fun j p hj => by simp at hj⟩⟩); (case aR => exact Kd.C_below HR.out ((Below.refl _ w).alloc (Nat.le_refl _) _)); (case aM => exact fun x cs hx => by rw [k37_open hx]; exact k37_mkM _ _ _ x); (case aB => exact (Below.refl _ w).alloc (Nat.le_refl _) _); (case ab => simp); (case al => simp; omega); intro v1 w1 h1 hb1 hg1 hat1; rw [List.nil_append] at h1; obtain ⟨A1, c1, rfl⟩ := Kd.R_slice h1; have H1 := Lib.hid h1; have HB1 := Lib.hid hb1; clear h1 hb1 hg1 hat1)
    go_wp2
    go_ret
    exact ⟨_, rfl, H1.out, HB1.out⟩
theorem boxesR {w w4 : World} {c0 c1 : Array Value} {t0 t1 : TypeId} (h : Below ((w.alloc (.cells c0 t0)).alloc (.cells c1 t1)).heap.size ((w.alloc (.cells c0 t0)).alloc (.cells c1 t1)) w4) :
    w4.heap[w.heap.size]? = some (.cells c0 t0 (0, 0)) ∧ w4.heap[w.heap.size + 1]? = some (.cells c1 t1 (0, 0)) ∧ w.heap.size + 2 ≤ w4.heap.size ∧ Below w.heap.size w w4 := by
  have b0 := heap_alloc_new w (.cells c0 t0)
  have z0 : (w.alloc (.cells c0 t0)).heap.size = w.heap.size + 1 := by simp
  generalize hA : w.alloc (.cells c0 t0) = wA at *
  have hbA : Below w.heap.size w wA := by rw [← hA]; exact (Below.refl _ _).alloc (Nat.le_refl _) _
  have b1 := heap_alloc_new wA (.cells c1 t1)
  have b01 := kA b0 (.cells c1 t1)
  have hbB : Below w.heap.size w (wA.alloc (.cells c1 t1)) := hbA.alloc (by omega) _
  have z1 : (wA.alloc (.cells c1 t1)).heap.size = w.heap.size + 1 + 1 := by simp [z0]
  rw [z0] at b1
  generalize wA.alloc (.cells c1 t1) = wB at *
  exact ⟨(h.block _ (by omega)).trans b01, (h.block _ (by omega)).trans b1, by have := h.size; omega, hbB.trans (h.mono (by omega))⟩
set_option maxRecDepth 100000 in
set_option maxHeartbeats 4000000 in
theorem nReverse.calls (a0_0 : Int) (A0_1 : Option Addr) (c0_1 : Nat) (l0_1 : List (S37)) (a1 : Int) (r1 : Int) (r2 : List (S37)) (r3 : Int) (w : World) (hr0_1 : Kd.C k37 w A0_1 l0_1.length l0_1) (hc0_1 : l0_1.length ≤ c0_1) (h : nReverse.f a0_0 l0_1 a1 = some (r1, r2, r3)) :
    Calls Try.prog 34 #[.agg #[.int .i64 a0_0, .slice A0_1 l0_1.length c0_1], .int .i64 a1] w fun e w' => ∃ v1_ : Value, e = .returned (.tuple #[.agg #[.int .i64 r1, v1_], .int .i64 r3]) ∧ Kd.R k37 37 w' w.heap.size (fun _ => True) v1_ r2 ∧ Below w.heap.size w w' := by
  have hu24 := Try.underlying24
  have hu37 := Try.underlying37
  have HR0 := Lib.hid hr0_1
  clear hr0_1
  rw [nReverse.f] at h
  by_cases hv : chk a0_0 l0_1 = 0
  · rw [if_pos hv] at h
    have HF : RowKit.Hid (nCheck.f a0_0 l0_1 = some 0) := Lib.hid (by rw [nCheck.f, hv])
    have HV := Lib.hid hv
    clear hv
    by_cases hneg : a1 < 0
    · rw [if_pos hneg] at h
      simp only [Option.some.injEq, Prod.mk.injEq] at h
      obtain ⟨rfl, rfl, rfl⟩ := h
      have q1 : decide (a1 < 0) = true := decide_eq_true hneg
      clear hneg
      go_enter Try.func34, Try.ntmps34
      go_wp2_with (go_at_call 35; refine (nCheck.calls a0_0 A0_1 c0_1 l0_1 0 _ ?side1 hc0_1 HF.out).mono ?_; (case side1 => exact Kd.C_below HR0.out (((Below.refl _ w).alloc (Nat.le_refl _) _).alloc (by simp) _)); rintro e w4 ⟨rfl, hb4⟩; obtain ⟨k0, k1, hsz, hbw⟩ := boxesR hb4; have K0 := Lib.hid k0; have K1 := Lib.hid k1; have HBW := Lib.hid hbw; have HSZ := Lib.hid hsz; clear hb4 k0 k1 hbw hsz; have c00 : w4.cell? ⟨w.heap.size, 0, none⟩ = some (.int .i64 a0_0) := (kC K0.out 0).trans rfl; have c01 : w4.cell? ⟨w.heap.size, 1, none⟩ = some (.slice A0_1 l0_1.length c0_1) := (kC K0.out 1).trans rfl; have c10 : w4.cell? ⟨w.heap.size + 1, 0, none⟩ = some (.int .i64 0) := (kC K1.out 0).trans rfl; have c11 : w4.cell? ⟨w.heap.size + 1, 1, none⟩ = some (.slice none 0 0) := (kC K1.out 1).trans rfl; have f10 := kF K1.out 0; have f11 := kF K1.out 1)
      rw [setCell_id (i := 0) (v := .int .i64 0) K1.out rfl, setCell_id (i := 1) (v := .slice none 0 0) K1.out rfl]
      exact bodyPost_ret (v := .tuple #[.agg #[.int .i64 0, .slice none 0 0], .int .i64 1]) (by simp [results, Try.f34, go_sem, c10, c11]) rfl ⟨_, rfl, Kd.R_nil _ _ _ _ _, HBW.out⟩
    · rw [if_neg hneg] at h
      have q1 : decide (a1 < 0) = false := decide_eq_false hneg
      by_cases hbig : (l0_1.length : Int) ≤ a1
      · rw [if_pos hbig] at h
        simp only [Option.some.injEq, Prod.mk.injEq] at h
        obtain ⟨rfl, rfl, rfl⟩ := h
        have q2 : decide ((l0_1.length : Int) ≤ a1) = true := decide_eq_true hbig
        clear hneg hbig
        go_enter Try.func34, Try.ntmps34
        go_wp2_with (go_at_call 35; refine (nCheck.calls a0_0 A0_1 c0_1 l0_1 0 _ ?side1 hc0_1 HF.out).mono ?_; (case side1 => exact Kd.C_below HR0.out (((Below.refl _ w).alloc (Nat.le_refl _) _).alloc (by simp) _)); rintro e w4 ⟨rfl, hb4⟩; obtain ⟨k0, k1, hsz, hbw⟩ := boxesR hb4; have K0 := Lib.hid k0; have K1 := Lib.hid k1; have HBW := Lib.hid hbw; have HSZ := Lib.hid hsz; clear hb4 k0 k1 hbw hsz; have c00 : w4.cell? ⟨w.heap.size, 0, none⟩ = some (.int .i64 a0_0) := (kC K0.out 0).trans rfl; have c01 : w4.cell? ⟨w.heap.size, 1, none⟩ = some (.slice A0_1 l0_1.length c0_1) := (kC K0.out 1).trans rfl; have c10 : w4.cell? ⟨w.heap.size + 1, 0, none⟩ = some (.int .i64 0) := (kC K1.out 0).trans rfl; have c11 : w4.cell? ⟨w.heap.size + 1, 1, none⟩ = some (.slice none 0 0) := (kC K1.out 1).trans rfl; have f10 := kF K1.out 0; have f11 := kF K1.out 1)
        rw [setCell_id (i := 0) (v := .int .i64 0) K1.out rfl, setCell_id (i := 1) (v := .slice none 0 0) K1.out rfl]
        exact bodyPost_ret (v := .tuple #[.agg #[.int .i64 0, .slice none 0 0], .int .i64 1]) (by simp [results, Try.f34, go_sem, c10, c11]) rfl ⟨_, rfl, Kd.R_nil _ _ _ _ _, HBW.out⟩
      · rw [if_neg hbig] at h
        simp only [Option.some.injEq, Prod.mk.injEq] at h
        obtain ⟨rfl, rfl, rfl⟩ := h
        have q2 : decide ((l0_1.length : Int) ≤ a1) = false := decide_eq_false hbig
        have HN := Lib.hid hneg
        have HG := Lib.hid hbig
        clear hneg hbig
        go_enter Try.func34, Try.ntmps34
        go_wp2_with (first | (go_at_call 35; refine (nCheck.calls a0_0 A0_1 c0_1 l0_1 0 _ ?side1 hc0_1 HF.out).mono ?_; (case side1 => exact Kd.C_below HR0.out (((Below.refl _ w).alloc (Nat.le_refl _) _).alloc (by simp) _)); rintro e w4 ⟨rfl, hb4⟩; obtain ⟨k0, k1, hsz, hbw⟩ := boxesR hb4; have K0 := Lib.hid k0; have K1 := Lib.hid k1; have HBW := Lib.hid hbw; have HSZ := Lib.hid hsz; clear hb4 k0 k1 hbw hsz; have c00 : w4.cell? ⟨w.heap.size, 0, none⟩ = some (.int .i64 a0_0) := (kC K0.out 0).trans rfl; have c01 : w4.cell? ⟨w.heap.size, 1, none⟩ = some (.slice A0_1 l0_1.length c0_1) := (kC K0.out 1).trans rfl; have c10 : w4.cell? ⟨w.heap.size + 1, 0, none⟩ = some (.int .i64 0) := (kC K1.out 0).trans rfl; have c11 : w4.cell? ⟨w.heap.size + 1, 1, none⟩ = some (.slice none 0 0) := (kC K1.out 1).trans rfl; have f10 := kF K1.out 0; have f11 := kF K1.out 1; have l0 : w.heap.size < w4.heap.size := (by have := HSZ.out; omega); have l1 : w.heap.size + 1 < w4.heap.size := (by have := HSZ.out; omega)) | fail)
        go_region_with (go_at_call 85; refine (cloneL_calls A0_1 c0_1 l0_1 _ ?sideC ?sideL).mono ?_; (case sideC => first | exact Kd.C_below HR0.out HBW.out.drew | exact Kd.C_below HR0.out (HBW.out.alloc HBW.out.size _).drew); (case sideL => have := (chk_ok HV.out).2.2.1; omega); rintro e w5 ⟨v5, rfl, r5, b5⟩; obtain ⟨g5, c5, rfl, hg5b, hg5l, _⟩ := Kd.R_form r5 (by have := HN.out; have := HG.out; omega); have hs5 := HSZ.out; have k05 : w5.heap[w.heap.size]? = some (.cells #[.int .i64 a0_0, .slice A0_1 l0_1.length c0_1] 24 (0, 0)) := (by first | exact (b5.block _ (by simp; omega)).trans K0.out | exact (b5.block _ (by simp; omega)).trans (kA K0.out _)); have k15 : w5.heap[w.heap.size + 1]? = some (.cells #[.int .i64 0, .slice none 0 0] 24 (0, 0)) := (by first | exact (b5.block _ (by simp; omega)).trans K1.out | exact (b5.block _ (by simp; omega)).trans (kA K1.out _)); have K05 := Lib.hid k05; have K15 := Lib.hid k15; have R5 : RowKit.Hid (Kd.R k37 37 w5 w4.heap.size (fun _ => True) (.slice (some ⟨g5, 0, none⟩) l0_1.length c5) l0_1) := Lib.hid (Kd.R_lower r5 (by simp)); have HB5 : RowKit.Hid (Below w.heap.size w w5) := (by first | exact Lib.hid (HBW.out.drew.trans (b5.mono (by simp; omega))) | exact Lib.hid ((HBW.out.alloc HBW.out.size _).drew.trans (b5.mono (by simp; omega)))); have z05 : w5.cell? ⟨w.heap.size, 0, none⟩ = some (.int .i64 a0_0) := (kC K05.out 0).trans rfl; have z15 : w5.cell? ⟨w.heap.size + 1, 0, none⟩ = some (.int .i64 0) := (kC K15.out 0).trans rfl; have z16 : w5.cell? ⟨w.heap.size + 1, 1, none⟩ = some (.slice none 0 0) := (kC K15.out 1).trans rfl; have y15 := kF K15.out 0; have y16 := kF K15.out 1; (first | (have k25 : w5.heap[w4.heap.size]? = some (.cells #[.int .i64 0, .slice none 0 0] 24 (0, 0)) := (b5.block _ (by simp; done)).trans (heap_alloc_new w4 _); have K25 := Lib.hid k25; have z25 : w5.cell? ⟨w4.heap.size, 0, none⟩ = some (.int .i64 0) := (kC K25.out 0).trans rfl; have z26 : w5.cell? ⟨w4.heap.size, 1, none⟩ = some (.slice none 0 0) := (kC K25.out 1).trans rfl; have y25 := kF K25.out 0; have y26 := kF K25.out 1; clear k25) | skip); have l05 : w.heap.size < w5.heap.size := (by have := b5.size; simp at this; omega); have l15 : w.heap.size + 1 < w5.heap.size := (by have := b5.size; simp at this; omega); (first | (have l25 : w4.heap.size < w5.heap.size := (by have := b5.size; simp at this; omega)) | skip); clear r5 b5 hs5 k05 k15)
        all_goals (first
          | (generalize hw6 : w5.alloc (Obj.cells #[.int .i64 a0_0, .slice (some ⟨g5, 0, none⟩) l0_1.length c5] 24) = w6
             obtain ⟨g, hg⟩ : ∃ g, g = w5.heap.size := ⟨_, rfl⟩
             rw [← hg]
             have k6 : w6.heap[g]? = some (.cells #[.int .i64 a0_0, .slice (some ⟨g5, 0, none⟩) l0_1.length c5] 24 (0, 0)) := by rw [← hw6, hg]; exact heap_alloc_new w5 _
             have k16 : w6.heap[w.heap.size + 1]? = some (.cells #[.int .i64 0, .slice none 0 0] 24 (0, 0)) := by rw [← hw6]; exact kA K15.out _
             have r6 : Kd.R k37 37 w6 w4.heap.size (fun _ => True) (.slice (some ⟨g5, 0, none⟩) l0_1.length c5) l0_1 := by rw [← hw6]; exact Kd.R_alloc R5.out _
             have b6 : Below w.heap.size w w6 := by rw [← hw6]; exact HB5.out.alloc HB5.out.size _)
          | (generalize hw6 : (w5.setCell ⟨w4.heap.size, 0, none⟩ (.int .i64 a0_0)).setCell ⟨w4.heap.size, 1, none⟩ (.slice (some ⟨g5, 0, none⟩) l0_1.length c5) = w6
             obtain ⟨g, hg⟩ : ∃ g, g = w4.heap.size := ⟨_, rfl⟩
             rw [← hg]
             have k6 : w6.heap[g]? = some (.cells #[.int .i64 a0_0, .slice (some ⟨g5, 0, none⟩) l0_1.length c5] 24 (0, 0)) := by rw [← hw6, hg]; exact blk_set (blk_set K25.out 0 _) 1 _
             have k16 : w6.heap[w.heap.size + 1]? = some (.cells #[.int .i64 0, .slice none 0 0] 24 (0, 0)) := by rw [← hw6]; exact kR (kR K15.out (by simp; omega) _) (by simp; omega) _
             have r6 : Kd.R k37 37 w6 w4.heap.size (fun _ => True) (.slice (some ⟨g5, 0, none⟩) l0_1.length c5) l0_1 := by rw [← hw6]; exact Kd.R_set (Kd.R_set R5.out K25.out (by decide) 0 _) (blk_set K25.out 0 _) (by decide) 1 _
             have b6 : Below w.heap.size w w6 := by rw [← hw6]; exact (HB5.out.setCell (p := ⟨w4.heap.size, 0, none⟩) (by have := HSZ.out; simp; omega) _).setCell (p := ⟨w4.heap.size, 1, none⟩) (by have := HSZ.out; simp; omega) _))
        all_goals (
          have hlb : 0 ≤ a1 := by have := HN.out; omega
          have hub : a1 < (l0_1.length : Int) := by have := HG.out; omega
          obtain ⟨cs, hcl, hM, hcc, hfr⟩ := Kd.R_elem r6 z37 a1 hlb hub
          have hx := k37_openM hM
          rw [show l0_1.getD a1.toNat z37 = rd_T37 l0_1 a1 from rfl] at hx
          subst hx
          have x0 : w6.cell? ⟨g5, a1.toNat * 4, none⟩ = some (.int .i64 (rd_T37 l0_1 a1).f0) := hcc 0 _ rfl
          have x1 : w6.cell? ⟨g5, a1.toNat * 4 + 1, none⟩ = some (.int .i64 (rd_T37 l0_1 a1).f1) := hcc 1 _ rfl
          have x2 : w6.frozen? ⟨g5, a1.toNat * 4, none⟩ = false := hfr 0
          have x3 : w6.frozen? ⟨g5, a1.toNat * 4 + 1, none⟩ = false := hfr 1
          have q3 : decide (0 ≤ a1) = true := decide_eq_true hlb
          have q4 : decide (a1 < (l0_1.length : Int)) = true := decide_eq_true hub
          have q5 : (0 ≤ a1) = True := eq_true hlb
          have q6 : (a1 < (l0_1.length : Int)) = True := eq_true hub
          have X := Lib.hid hw6
          have K6 := Lib.hid k6
          have K16 := Lib.hid k16
          have R6 := Lib.hid r6
          have B6 := Lib.hid b6
          have c60 : w6.cell? ⟨g, 0, none⟩ = some (.int .i64 a0_0) := (kC K6.out 0).trans rfl
          have c61 : w6.cell? ⟨g, 1, none⟩ = some (.slice (some ⟨g5, 0, none⟩) l0_1.length c5) := (kC K6.out 1).trans rfl
          have c70 : w6.cell? ⟨w.heap.size + 1, 0, none⟩ = some (.int .i64 0) := (kC K16.out 0).trans rfl
          have c71 : w6.cell? ⟨w.heap.size + 1, 1, none⟩ = some (.slice none 0 0) := (kC K16.out 1).trans rfl
          have f70 := kF K16.out 0
          have f71 := kF K16.out 1
          clear hw6 k6 k16 r6 b6 hlb hub hcc hM hcl hfr hg
          clear z05 z15 z16 y15 y16 c00 c01 c10 c11 f10 f11 l0 l1 l05 l15
          go_wp2
          go_region
          clear c60 c61 c70 c71 f70 f71 x0 x1 x2 x3
          generalize hw7 : ((w6.setCell ⟨g5, a1.toNat * 4, none⟩ (.int .i64 (rd_T37 l0_1 a1).f1)).setCell ⟨g5, a1.toNat * 4 + 1, none⟩ (.int .i64 (rd_T37 l0_1 a1).f0)).drew = w7
          obtain ⟨cells5, h5⟩ := Kd.R_typed R6.out g5 (by simp [Value.ownBlock])
          have n1 : g ≠ g5 := blk_ne K6.out h5 (by decide)
          have n2 : w.heap.size + 1 ≠ g5 := blk_ne K16.out h5 (by decide)
          have k7 : w7.heap[g]? = some (.cells #[.int .i64 a0_0, .slice (some ⟨g5, 0, none⟩) l0_1.length c5] 24 (0, 0)) := by rw [← hw7]; exact kD (kR (kR K6.out n1 _) n1 _)
          have k17 : w7.heap[w.heap.size + 1]? = some (.cells #[.int .i64 0, .slice none 0 0] 24 (0, 0)) := by rw [← hw7]; exact kD (kR (kR K16.out n2 _) n2 _)
          have r7 : Kd.R k37 37 w7 w4.heap.size (fun _ => True) (.slice (some ⟨g5, 0, none⟩) l0_1.length c5) (l0_1.set a1.toNat (swapL (rd_T37 l0_1 a1))) := by rw [← hw7]; exact Kd.R_drew (k37_two R6.out a1 HN.out HG.out _ _)
          have b7 : Below w.heap.size w w7 := by
            have hb := Kd.R_base R6.out g5 (by simp [Value.ownBlock])
            have := HSZ.out
            rw [← hw7]; exact ((B6.out.setCell (p := ⟨g5, a1.toNat * 4, none⟩) (by simp; omega) _).setCell (p := ⟨g5, a1.toNat * 4 + 1, none⟩) (by simp; omega) _).drew
          have K7 := Lib.hid k7
          have K17 := Lib.hid k17
          have R7 := Lib.hid r7
          have B7 := Lib.hid b7
          have c60 : w7.cell? ⟨g, 0, none⟩ = some (.int .i64 a0_0) := (kC K7.out 0).trans rfl
          have c61 : w7.cell? ⟨g, 1, none⟩ = some (.slice (some ⟨g5, 0, none⟩) l0_1.length c5) := (kC K7.out 1).trans rfl
          have c70 : w7.cell? ⟨w.heap.size + 1, 0, none⟩ = some (.int .i64 0) := (kC K17.out 0).trans rfl
          have c71 : w7.cell? ⟨w.heap.size + 1, 1, none⟩ = some (.slice none 0 0) := (kC K17.out 1).trans rfl
          have f70 := kF K17.out 0
          have f71 := kF K17.out 1
          clear hw7 k7 k17 r7 b7 h5 n1 n2
          go_wp2
          have K8 := blk_set (blk_set K17.out 0 (.int .i64 a0_0)) 1 (.slice (some ⟨g5, 0, none⟩) l0_1.length c5)
          have c80 := (kC K8 0).trans rfl
          have c81 := (kC K8 1).trans rfl
          exact bodyPost_ret (v := .tuple #[.agg #[.int .i64 a0_0, .slice (some ⟨g5, 0, none⟩) l0_1.length c5], .int .i64 0]) (by simp [results, Try.f34, go_sem, c80, c81]) rfl ⟨_, rfl, Kd.R_lower (Kd.R_set (Kd.R_set R7.out K17.out (by decide) 0 _) (blk_set K17.out 0 _) (by decide) 1 _) (by have := HSZ.out; omega), (B7.out.setCell (p := ⟨w.heap.size + 1, 0, none⟩) (by simp) _).setCell (p := ⟨w.heap.size + 1, 1, none⟩) (by simp) _⟩)
  · rw [if_neg hv] at h
    simp only [Option.some.injEq, Prod.mk.injEq] at h
    obtain ⟨rfl, rfl, rfl⟩ := h
    have HF : RowKit.Hid (nCheck.f a0_0 l0_1 = some (chk a0_0 l0_1)) := Lib.hid rfl
    obtain ⟨e0, he⟩ : ∃ e0, e0 = chk a0_0 l0_1 := ⟨_, rfl⟩
    rw [← he] at HF hv ⊢
    have q0 : decide (e0 = 0) = false := decide_eq_false hv
    clear he
    go_enter Try.func34, Try.ntmps34
    go_wp2_with (go_at_call 35; refine (nCheck.calls a0_0 A0_1 c0_1 l0_1 e0 _ ?side1 hc0_1 HF.out).mono ?_; (case side1 => exact Kd.C_below HR0.out (((Below.refl _ w).alloc (Nat.le_refl _) _).alloc (by simp) _)); rintro e w4 ⟨rfl, hb4⟩; obtain ⟨k0, k1, hsz, hbw⟩ := boxesR hb4; have K0 := Lib.hid k0; have K1 := Lib.hid k1; have HBW := Lib.hid hbw; have HSZ := Lib.hid hsz; clear hb4 k0 k1 hbw hsz; have c00 : w4.cell? ⟨w.heap.size, 0, none⟩ = some (.int .i64 a0_0) := (kC K0.out 0).trans rfl; have c01 : w4.cell? ⟨w.heap.size, 1, none⟩ = some (.slice A0_1 l0_1.length c0_1) := (kC K0.out 1).trans rfl; have c10 : w4.cell? ⟨w.heap.size + 1, 0, none⟩ = some (.int .i64 0) := (kC K1.out 0).trans rfl; have c11 : w4.cell? ⟨w.heap.size + 1, 1, none⟩ = some (.slice none 0 0) := (kC K1.out 1).trans rfl; have f10 := kF K1.out 0; have f11 := kF K1.out 1)
    rw [setCell_id (i := 0) (v := .int .i64 0) K1.out rfl, setCell_id (i := 1) (v := .slice none 0 0) K1.out rfl]
    exact bodyPost_ret (v := .tuple #[.agg #[.int .i64 0, .slice none 0 0], .int .i64 e0]) (by simp [results, Try.f34, go_sem, c10, c11]) rfl ⟨_, rfl, Kd.R_nil _ _ _ _ _, HBW.out⟩
end
def RowOk (S : Nat → Prop) (w : World) (v : Value) : Prop := ∃ (A : Option Addr) (n c : Nat), v = .slice A n c ∧ n ≤ 9223372036854775807 ∧ ∀ j, j < n → ∃ (g : Nat) (z : Int), A = some ⟨g, 0, none⟩ ∧ S g ∧ w.cell? ⟨g, j, none⟩ = some (.int .i64 z) ∧ w.frozen? ⟨g, j, none⟩ = false
theorem RowOk.set {S : Nat → Prop} {w : World} {v : Value} (h : RowOk S w v) (g j : Nat) (x : Int) : RowOk S (w.setCell ⟨g, j, none⟩ (.int .i64 x)) v := by
  obtain ⟨A, n, c, rfl, hn, hc⟩ := h
  refine ⟨A, n, c, rfl, hn, fun i hi => ?_⟩
  obtain ⟨g', z, hA, hS, h1, h2⟩ := hc i hi
  by_cases he : (⟨g, j, none⟩ : Addr) = ⟨g', i, none⟩
  · refine ⟨g', x, hA, hS, ?_, by rw [World.frozen?_setCell]; exact h2⟩
    rw [he]; exact World.cell?_setCell_same _ _ _ h1
  · refine ⟨g', z, hA, hS, ?_, by rw [World.frozen?_setCell]; exact h2⟩
    rw [World.cell?_setCell_other _ _ _ _ he]; exact h1
theorem RowOk.mono {S S' : Nat → Prop} {w : World} {v : Value} (h : RowOk S w v) (hs : ∀ k, S k → S' k) : RowOk S' w v := by
  obtain ⟨A, n, c, rfl, hn, hc⟩ := h
  refine ⟨A, n, c, rfl, hn, fun i hi => ?_⟩
  obtain ⟨g', z, hA, hS, h1, h2⟩ := hc i hi
  exact ⟨g', z, hA, hs _ hS, h1, h2⟩
theorem RowOk.below {S : Nat → Prop} {w w' : World} {v : Value} (h : RowOk S w v) (hb : Below w.heap.size w w') : RowOk S w' v := by
  obtain ⟨A, n, c, rfl, hn, hc⟩ := h
  refine ⟨A, n, c, rfl, hn, fun i hi => ?_⟩
  obtain ⟨g', z, hA, hS, h1, h2⟩ := hc i hi
  have hlt := wlt0 w _ h1
  exact ⟨g', z, hA, hS, by rw [hb.cell hlt]; exact h1, by rw [hb.frozen hlt]; exact h2⟩
theorem RowOk.of_R {w : World} {base : Nat} {ok : Nat → Prop} {v : Value} {xs : List Int} (h : Kd.R (Kd.int .i64) 3 w base ok v xs) : RowOk (fun k => some k = v.ownBlock) w v := by
  by_cases hp : 0 < xs.length
  · obtain ⟨g, cap, rfl, hb, hg, cells, hc⟩ := Kd.R_form h hp
    have hC := (Kd.R_reads' h).2.2
    refine ⟨some ⟨g, 0, none⟩, xs.length, cap, rfl, ?_, fun j hj => ?_⟩
    · have := Kd.C_max hC; omega
    · obtain ⟨h1, h2⟩ := Kd.R_celln 0 h (j : Int) (by omega) (by omega)
      rw [Int.toNat_natCast] at h1 h2
      exact ⟨g, _, rfl, rfl, h1, h2⟩
  · obtain ⟨A, c, rfl⟩ := Kd.R_slice h
    exact ⟨A, xs.length, c, rfl, by omega, fun j hj => absurd hj (by omega)⟩
def SpoilKept (S : Nat → Prop) (w w' : World) : Prop := Kept w w' S ∧ Below 0 w w'
theorem SpoilKept.refl (S : Nat → Prop) (w : World) : SpoilKept S w w := ⟨Kept.refl _ _, Below.refl _ _⟩
theorem SpoilKept.set {S : Nat → Prop} {w w' : World} (h : SpoilKept S w w') {g : Nat} (hg : S g) (j : Nat) (u : Value) : SpoilKept S w (w'.setCell ⟨g, j, none⟩ u) := ⟨h.1.setCell (.inl hg) u, h.2.setCell (Nat.zero_le _) u⟩
theorem SpoilKept.below {S : Nat → Prop} {w0 w w' : World} {B : Nat} (h : SpoilKept S w w') (hb : Below B w0 w) (hB : B ≤ w.heap.size) (hs : ∀ k, S k → B ≤ k) : Below B w0 w' := by
  refine hb.trans ⟨h.2.os, h.2.tape, h.2.output, h.2.size, fun k hk => ?_⟩
  exact h.1.2 k (Nat.lt_of_lt_of_le hk hB) (fun hS => by have := hs k hS; omega)
structure RowsOk (S : Nat → Prop) (w : World) (A : Option Addr) (vs : List Value) : Prop where
  no : 0 < vs.length → ∃ G : Nat, A = some ⟨G, 0, none⟩ ∧ ¬ S G
  at_ : ∀ G i, (h : i < vs.length) → A = some ⟨G, 0, none⟩ → w.cell? ⟨G, i, none⟩ = some vs[i]
  ok : ∀ v ∈ vs, RowOk S w v
theorem RowsOk.set {S : Nat → Prop} {w : World} {A : Option Addr} {vs : List Value} (h : RowsOk S w A vs) {g : Nat} (hg : S g) (j : Nat) (x : Int) : RowsOk S (w.setCell ⟨g, j, none⟩ (.int .i64 x)) A vs := by
  refine ⟨h.no, fun G i hi hA => ?_, fun v hv => (h.ok v hv).set g j x⟩
  rw [World.cell?_setCell_other]
  · exact h.at_ G i hi hA
  · intro e
    have e2 : g = G := congrArg Addr.block e
    obtain ⟨G', hA', hn⟩ := h.no (by omega)
    rw [hA] at hA'
    have e3 : G = G' := by injection hA' with e; injection e
    exact hn (e3 ▸ e2 ▸ hg)
theorem RowsOk.below {S : Nat → Prop} {w w' : World} {A : Option Addr} {vs : List Value} (h : RowsOk S w A vs) (hb : Below w.heap.size w w') : RowsOk S w' A vs := by
  refine ⟨h.no, fun G i hi hA => ?_, fun v hv => (h.ok v hv).below hb⟩
  have h1 := h.at_ G i hi hA
  rw [hb.cell (wlt0 w _ h1)]; exact h1
theorem RowOk.kept {S S1 : Nat → Prop} {w w' : World} {v : Value} (h : RowOk S w v) (hk : SpoilKept S1 w w') (hs : ∀ k, S k → ¬ S1 k) : RowOk S w' v := by
  obtain ⟨A, n, c, rfl, hn, hc⟩ := h
  refine ⟨A, n, c, rfl, hn, fun i hi => ?_⟩
  obtain ⟨g', z, hA, hS, h1, h2⟩ := hc i hi
  have hlt := wlt0 w _ h1
  have hb := hk.1.2 g' hlt (hs _ hS)
  exact ⟨g', z, hA, hS, by rw [World.cell?_of_block (w := w) hb]; exact h1, by rw [World.frozen?_of_block (w := w) hb]; exact h2⟩
theorem RowsOk.kept {S S1 : Nat → Prop} {w w' : World} {A : Option Addr} {vs : List Value} (h : RowsOk S w A vs) (hk : SpoilKept S1 w w') (hs : ∀ k, S k → ¬ S1 k) (hA1 : ∀ G, A = some ⟨G, 0, none⟩ → ¬ S1 G) : RowsOk S w' A vs := by
  refine ⟨h.no, fun G i hi hA => ?_, fun v hv => (h.ok v hv).kept hk hs⟩
  have h1 := h.at_ G i hi hA
  have hb := hk.1.2 G (wlt0 w _ h1) (hA1 G hA)
  rw [World.cell?_of_block (w := w) hb]; exact h1
section
variable {P : Program} {ops : Array Oper} {rest : List Oper} {o : Oper} {a : Act} {Q : Exit → Act → World → Prop}
theorem rows_event {W : World} (hgd : o.guard = none) {N : Tmp} (_hd : o.dst = some N) {n : Nat} {inner : List Value} {e : TypeId}
    (hrun : (execOp a.eval o).run P W = .ok (.value (.slice (some ⟨W.heap.size, 0, none⟩) n n)) (W.alloc (.cells inner.toArray e (0, 0))))
    (h : ∀ g, g = W.heap.size → ∀ w1, w1.heap[g]? = some (.cells inner.toArray e (0, 0)) → Below W.heap.size W w1 → wpList P ops Q rest (a.put o.dst (.slice (some ⟨g, 0, none⟩) n n)) w1) : wpList P ops Q (o :: rest) a W :=
  Kd.event_run hgd hrun (h _ rfl _ (blk_new W _) (below_alloc (Below.refl _ _) _))
end
section
theorem C_rowsG (W : World) (g : Nat) (vs : List Value) (xs : List (List Int)) (e : TypeId) (hb : W.heap[g]? = some (.cells vs.toArray e (0, 0))) (hn : xs.length ≤ 9223372036854775807) (hl : vs.length = xs.length)
    (h : ∀ (j : Nat) (v : Value) (x : List Int), vs[j]? = some v → xs[j]? = some x → ∃ A c, v = .slice A x.length c ∧ x.length ≤ c ∧ Kd.C (Kd.int .i64) W A x.length x) :
    Kd.C (Kd.slice 3 (Kd.int .i64)) W (some ⟨g, 0, none⟩) xs.length xs := by
  refine ⟨rfl, hn, fun _ => ⟨_, rfl, fun j p hj => ?_⟩⟩
  have hjl := (List.getElem?_eq_some_iff.1 hj).1
  have hv := List.getElem?_eq_getElem (show j < vs.length by omega)
  obtain ⟨A, c, he, hc, hC⟩ := h j _ p hv hj
  refine ⟨[vs[j]'(by omega)], rfl, ⟨A, c, by rw [he], hc, hC⟩, fun i u hu => ?_⟩
  have hi : i = 0 := by
    have := (List.getElem?_eq_some_iff.1 hu).1
    simp at this; exact this
  subst hi
  simp at hu
  subst hu
  rw [add_plain, show j * (Kd.slice 3 (Kd.int .i64)).sz + 0 = j from by show j * 1 + 0 = j; omega, kC hb j]
  simp [hv]
theorem C_rows1 {W : World} {g : Nat} {e : TypeId} {A1 : Option Addr} {c1 : Nat} {x1 : List Int} (hb : W.heap[g]? = some (.cells #[.slice A1 x1.length c1] e (0, 0))) (h1 : Kd.C (Kd.int .i64) W A1 x1.length x1) (k1 : x1.length ≤ c1) :
    Kd.C (Kd.slice 3 (Kd.int .i64)) W (some ⟨g, 0, none⟩) 1 [x1] := by
  refine C_rowsG W g [.slice A1 x1.length c1] [x1] e hb (by simp) rfl fun j v x hv hx => ?_
  match j with
  | 0 => simp at hv hx; subst hv hx; exact ⟨_, _, rfl, k1, h1⟩
  | j + 1 => simp at hv
theorem RowsOk.of_R {w : World} {base : Nat} {ok : Nat → Prop} {v : Value} {xs : List (List Int)} (h : Kd.R (Kd.slice 3 (Kd.int .i64)) 25 w base ok v xs) :
    ∃ A c vs, v = .slice A vs.length c ∧ vs.length ≤ 9223372036854775807 ∧ (∀ k, v.ownBlock = some k → base ≤ k ∧ k < w.heap.size) ∧ RowsOk (fun k => (base ≤ k ∧ k < w.heap.size) ∧ some k ≠ v.ownBlock) w A vs := by
  have hown : ∀ k, v.ownBlock = some k → base ≤ k ∧ k < w.heap.size := fun k hk => ⟨Kd.R_base h k hk, Kd.R_lt h k hk⟩
  obtain ⟨_, inner, ho, hr⟩ := Kd.R_bound h
  have hil : inner.length = xs.length := by rw [hr.1]; show xs.length * 1 = _; omega
  have hoks : ∀ u ∈ inner, RowOk (fun k => (base ≤ k ∧ k < w.heap.size) ∧ some k ≠ v.ownBlock) w u := by
    intro u hu
    obtain ⟨j, hj, rfl⟩ := List.getElem_of_mem hu
    obtain ⟨u', he, hR⟩ := hr.2 j (xs[j]'(by omega)) (List.getElem?_eq_getElem (by omega))
    have he2 : inner[j] = u' := by
      have h0 : ((inner.drop (j * (Kd.slice 3 (Kd.int .i64)).sz)).take (Kd.slice 3 (Kd.int .i64)).sz)[0]? = some u' := by rw [he]; rfl
      rw [show (Kd.slice 3 (Kd.int .i64)).sz = 1 from rfl, Nat.mul_one, List.getElem?_take, if_pos (by omega), List.getElem?_drop, Nat.add_zero, List.getElem?_eq_getElem hj] at h0
      exact Option.some.inj h0
    rw [he2]
    have hRo := hR.1
    refine (RowOk.of_R hR).mono fun k hk => ?_
    have h1 := hRo k hk.symm
    exact ⟨⟨h1.1.2.1, h1.1.2.2.1⟩, h1.2⟩
  rcases ho.2 with ⟨rfl, hn⟩ | ⟨g, cap, cur, rfl, hg, hh, hnc, hm, hcs, ht⟩
  · have : inner = [] := List.length_eq_zero_iff.1 (by omega)
    subst this
    exact ⟨none, 0, [], rfl, by simp, hown, ⟨fun h => absurd h (by simp), fun _ i hi => absurd hi (by simp), fun u hu => by cases hu⟩⟩
  · refine ⟨some ⟨g, 0, none⟩, cap, inner, by rw [hil], by unfold maxLen at hm; omega, hown, ⟨fun _ => ⟨g, rfl, fun h => h.2 rfl⟩, fun G i hi hA => ?_, hoks⟩⟩
    have e3 : g = G := by injection hA with e; injection e
    subst e3
    have := ho.cells (g := g) (by simp [Value.ownBlock]) i inner[i] (List.getElem?_eq_getElem hi)
    rwa [add_plain] at this
theorem RowOk.lt {S : Nat → Prop} {w : World} {v : Value} (h : RowOk S w v) : RowOk (fun k => S k ∧ k < w.heap.size) w v := by
  obtain ⟨A, n, c, rfl, hn, hc⟩ := h
  refine ⟨A, n, c, rfl, hn, fun j hj => ?_⟩
  obtain ⟨g, z, hA, hS, h1, h2⟩ := hc j hj
  exact ⟨g, z, hA, ⟨hS, wlt0 w _ h1⟩, h1, h2⟩
def CRows (base : Nat) (w : World) (v : Value) : Prop := ∃ A c vs, v = .slice A vs.length c ∧ vs.length ≤ 9223372036854775807 ∧ (∀ k, v.ownBlock = some k → base ≤ k ∧ k < w.heap.size) ∧ RowsOk (fun k => (base ≤ k ∧ k < w.heap.size) ∧ some k ≠ v.ownBlock) w A vs
theorem SpoilKept.mono {S S' : Nat → Prop} {w w' : World} (h : SpoilKept S w w') (hs : ∀ k, S k → S' k) : SpoilKept S' w w' := ⟨h.1.mono hs, h.2⟩
end
end Go.Proofs.Ytdpgdelimffjpaa.P
