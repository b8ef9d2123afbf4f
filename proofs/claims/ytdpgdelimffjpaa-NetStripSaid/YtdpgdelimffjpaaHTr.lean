import Derived.Test.YtdpgdelimffjpaaFBase
import Derived.RangeFuncNested
import Derived.RangeFuncCalls
import Derived.OrdersIn
import Derived.OwnWalkIn
import Derived.TacticsIn
import Derived.Test.YtdpgdelimffjpaaFA
import Derived.RangeFuncBound
import Derived.RangeFuncLeaves
import Derived.Shelf.Abstract
import Derived.Shelf.RegionOpen
import Derived.WalkKit
import Derived.TacticsInMore
import Derived.LoopNIn
import Derived.LoopIn
import Derived.Lib.Hide
namespace Go.Proofs.Ytdpgdelimffjpaa.P
open Go.RowKit Go.Proofs.YtdpgdelimffjpaaW.PrintWords Go.Proofs.YtdpgdelimffjpaaW.PrintLast Go.Proofs.YtdpgdelimffjpaaW.PrintMore
attribute [local go_sem] max2_int min2_int max_two min_two max_three min_three max_four min_four
set_option linter.unusedVariables false
set_option linter.unusedSimpArgs false
section
section
variable {P : Program} {ops : Array Oper} {Q : Exit → Act → World → Prop} {md : Region.Mode}
/-- An operation that is no defer statement: its plain walk is one inside a round of the wide fence. -/
theorem oper_in_round {l n : Nat} {o : Oper} (ho : ∀ c, o.op ≠ .defer c) {a : Act} {w : World} {K : Act → World → Prop} (h : o.wp P a w K Q) : o.wpIn (Fence.wide.inRound l) n P a w K Q := by
  refine ⟨fun _ _ => trivial, ?_⟩
  rw [Oper.semAt_eq _ _ _ ho]
  unfold Oper.wp at h
  generalize (execOp a.eval o).run P w = r at *
  have hd : (Fence.wide.inRound l).depth.isSome = true → 1 ≤ n := fun hh => by cases hh
  cases r with
  | ok x w' =>
    cases x <;> simp only [Oper.upon, Oper.uponIn] at h ⊢ <;> first
      | exact h
      | exact ⟨hd, CallsIn.inRound l (callsIn_wide.2 h)⟩
      | exact ⟨hd, fun c cs _ => let ⟨v, w', hr, hs⟩ := h c cs; ⟨v, w', hr, stepsIn_wide.2 hs⟩⟩
  | halt x w' => cases x <;> simp only [Oper.upon, Oper.uponIn] at h ⊢ <;> exact h
theorem wpOp_in_round {l n : Nat} (hno : ∀ o ∈ ops, ∀ c, o.op ≠ .defer c) (hQ : ¬ LetsOut Q) {i : Nat} {K : Act → World → Prop} {a : Act} {w : World} (h : wpOp P ops Q i K a w) : wpOpIn (Fence.wide.inRound l) n P ops Q i K a w := by
  unfold wpOp at h
  unfold wpOpIn
  split
  · rename_i ho; rw [ho] at h; exact h
  · rename_i o ho
    rw [ho] at h
    simp only [] at h
    split
    · rename_i hw
      rw [if_pos hw] at h
      rcases h with h | ⟨_, h⟩
      · exact oper_in_round (hno o (Array.mem_of_getElem? ho)) h
      · exact absurd h hQ
    · rename_i hw
      rw [if_neg hw] at h
      exact ⟨fun _ _ => trivial, h⟩
theorem wpAny_in_round {l n : Nat} (hno : ∀ o ∈ ops, ∀ c, o.op ≠ .defer c) (hQ : ¬ LetsOut Q) : ∀ (fuel : Nat) (listed : Array Bool) (a : Act) (w : World), wpAny P md ops Q fuel listed a w → wpAnyIn (Fence.wide.inRound l) n P md ops Q fuel listed a w
  | 0, _, _, _, h => h
  | fuel + 1, _, _, _, h => ⟨h.1, fun i hi => wpOpIn_mono (fun a w => wpAny_in_round hno hQ fuel _ a w) (wpOp_in_round hno hQ (h.2 i hi))⟩
/-- A region that draws its order, in a round of the wide fence, by the printed words. -/
theorem start_in_ {S : World → Prop} {ds : List Nat} {r n id m : Nat} {a : Act} {w : World} (l : Array Bool) (hno : ∀ o ∈ ops, ∀ c, o.op ≠ .defer c) (hQ : ¬ LetsOut Q) (hm : P.follows .mixedOrders = true) (hn : ops.size = n) (hl : Array.replicate n false = l) (hS : S w.drew)
    (h : S w.drew → wpAnyLast P .any ops Q S ds n l a w.drew) : (Code.region id ops true).wpIn (Fence.wide.inRound r) m P Q a w := by
  subst hn
  subst hl
  exact wpIn_region_any hm (wpAny_in_round hno hQ _ _ _ _ (wpAny_of_last _ _ _ _ (h hS)))
end
section
variable {P : Program} {ops : Array Oper} {o : Oper} {a : Act} {Q : Exit → Act → World → Prop} {Kc : Act → World → Prop} {α : Type}
/-- 'append(s, p)' in a region that draws, the one element lying wherever it lies. -/
theorem step_append_src (d : Kd α) {W : World} (base : Nat) (hw : Region.wanted o (yielded ops a.tmps) = true) (s x : Operand) (t e : TypeId) (z : Value) (bytes : Nat)
    (ho : o.op = .call { callee := .builtin .append, args := #[s, x], argTypes := #[t, t] })
    (ht : P.underlying t = some (.slice e)) (hinfo : (P.info? e).map (fun i => (i.zero, i.size, i.bytes)) = some (some z, d.sz, bytes)) (hz : z.cells.size = d.sz) (hs0 : 0 < d.sz) (hb0 : 0 < bytes)
    (v : Value) (xs : List α) (p : α) (cs : List Value) (ok okp : Nat → Prop) (ad : Addr) (c : Nat) (hs : a.eval s = v) (hx : a.eval x = .slice (some ad) 1 c) (hp : d.M W base okp p cs) (hokp : ∀ k, okp k → ok k ∧ some k ≠ v.ownBlock) (hfresh : ∀ k, W.heap.size ≤ k → ok k)
    (hcs : ∀ j u, cs[j]? = some u → W.cell? (ad.add j) = some u)
    (HO : d.R e W base ok v xs) (hbase : base ≤ W.heap.size) (hl : (xs.length + 1) * bytes ≤ 140737488355328)
    (h : ∀ v1 w1, d.R e w1 base ok v1 (xs ++ [p]) → W.grownBy w1 v.ownBlock → (v1.ownBlock = v.ownBlock ∨ v1.ownBlock = some W.heap.size) → Kc (a.put o.dst v1) w1) :
    if Region.wanted o (yielded ops a.tmps) = true then Oper.wp P o a W Kc Q else Kc (a.put o.dst undef) W := by
  obtain ⟨h0, inner, hown, hr⟩ := HO
  obtain ⟨i0, hi, hzz⟩ := Option.map_eq_some_iff.1 hinfo
  simp only [Prod.mk.injEq] at hzz
  obtain ⟨hz0, hz1, hz2⟩ := hzz
  have hlen : xs.length + 1 ≤ 140737488355328 := Nat.le_trans (Nat.le_mul_of_pos_right _ hb0) hl
  rw [if_pos hw]
  obtain ⟨v1, w1, hrun, hown1, hg, _, hat⟩ := run_append_own_at (P := P) W base t o.type e i0 z d.sz bytes ht hi hz0 hz1 hz2 hz hs0 v xs.length inner hown ad 1 c cs (by rw [d.K_len (d.K_of_M hp)]; simp) hcs (d.K_one (d.K_of_M hp)) (by simp only [maxLen]; omega) hl hbase
  unfold Oper.wp execOp
  simp only [ho, resolve, invoke, builtin, Sem.run_bind, Sem.run_pure, Result.andThen_ok, List.map_toArray, List.map_cons, List.map_nil, hs, hx, hrun]
  refine h v1 w1 (Kd.R_appended h0 hr hp hokp hfresh hown1 hg ?_) hg hat
  rcases hat with hat | hat
  · exact .inl hat
  · exact .inr ⟨_, hat, Nat.le_refl _⟩
end
theorem setCell_id {W : World} {g i : Nat} {t : TypeId} {cs : Array Value} {v : Value} (h : W.heap[g]? = some (.cells cs t (0, 0))) (hc : cs[i]? = some v) : W.setCell ⟨g, i, none⟩ v = W := by
  have e : (W.setCell ⟨g, i, none⟩ v).heap = W.heap := by
    apply Array.ext_getElem?
    intro j
    by_cases hj : j = g
    · subst hj
      have := blk_set h i v
      rw [this, h]
      have : cs.setIfInBounds i v = cs := by
        apply Array.ext_getElem?
        intro k
        rw [Array.getElem?_setIfInBounds]
        by_cases hk : i = k
        · subst hk
          rw [if_pos rfl]
          obtain ⟨hlt, _⟩ := Array.getElem?_eq_some_iff.1 hc
          rw [if_pos hlt, hc]
        · rw [if_neg hk]
      rw [this]
    · exact Below.heap_setCell W _ v j hj
  cases W
  simp only [World.setCell] at e ⊢
  rw [e]
theorem R_grown_walk {α : Type} {d : Kd α} {e base : Nat} {ok : Nat → Prop} {W W' : World} {v : Value} {xs : List α} {row : Option Nat} (hE : d.E = []) (h : d.R e W base ok v xs) (hg : W.grownBy W' row) (hr : ∀ r, row = some r → ∃ o : Obj, W.heap[r]? = some o ∧ o.isCells = false) : d.R e W' base ok v xs := by
  cases row with
  | none => exact Kd.R_grown h hg (by simp)
  | some r =>
    refine Kd.R_grown1 h hE hg ?_
    intro he
    obtain ⟨o, ho, hc⟩ := hr r rfl
    obtain ⟨cells, hcc⟩ := Kd.R_typed h r he.symm
    rw [hcc] at ho; cases ho; cases hc
end
section
attribute [local go_sem] Oper.semAt_some
def insF (fnd : Nat → Bool) (L : List S37) (k : Nat) : List (Nat × S37) := ((List.range k).filter (fun j => !fnd j)).map (fun j => (j, rd_T37 L (j : Int)))
theorem insF_succ_in {fnd : Nat → Bool} {L : List S37} {k : Nat} (h : fnd k = false) : insF fnd L (k + 1) = insF fnd L k ++ [(k, rd_T37 L (k : Int))] := by
  simp [insF, List.range_succ, List.filter_append, h]
theorem insF_succ_out {fnd : Nat → Bool} {L : List S37} {k : Nat} (h : fnd k = true) : insF fnd L (k + 1) = insF fnd L k := by
  simp [insF, List.range_succ, List.filter_append, h]
theorem insF_length {fnd : Nat → Bool} {L : List S37} (k : Nat) : (insF fnd L k).length ≤ k := by
  simp only [insF, List.length_map]
  exact Nat.le_trans (List.length_filter_le _ _) (by simp)
def encL (x : Nat × S37) : Array Value := #[.int .i64 (x.1 : Int), .agg #[.int .i64 x.2.f0, .int .i64 x.2.f1, .int .i64 x.2.f2, .int .i64 x.2.f3]]
def KpS (S : Nat → Prop) (W W' : World) : Prop := ∀ i, S i → W'.heap[i]? = W.heap[i]?
theorem KpS_lt {S : Nat → Prop} {w0 W : World} (h : ∀ i, S i → i < w0.heap.size) (hk : KpS S w0 W) : ∀ i, S i → i < W.heap.size := fun i hi => by
  have e := hk i hi
  rw [Array.getElem?_eq_getElem (h i hi)] at e
  exact (Array.getElem?_eq_some_iff.1 e).1
set_option maxRecDepth 100000 in
set_option maxHeartbeats 4000000 in
theorem in_iter (S : Nat → Prop) (w0 : World) (bn bo : Nat) (a0 : Int) (A0 : Option Addr) (c0 : Nat) (L : List S37) (A1 : Option Addr) (c1 : Nat) (out : List Int) (fnd : Nat → Bool)
    (hlen : L.length ≤ 100) (hlen2 : L.length ≤ c0)
    (hf : ∀ k, k < L.length → ∃ kk r, slices_BinarySearch_int_int.f kk out (k : Int) = some (r, fnd k))
    (hSn : S bn) (hSo : S bo) (hco : out.length ≤ c1)
    (hbn : ∀ W, KpS S w0 W → W.heap[bn]? = some (.cells #[.int .i64 a0, .slice A0 L.length c0] 24 (0, 0)))
    (hbo : ∀ W, KpS S w0 W → W.heap[bo]? = some (.cells #[.slice A1 out.length c1] 25 (0, 0)))
    (hL : ∀ W, KpS S w0 W → Kd.C k37 W A0 L.length L) (hout : ∀ W, KpS S w0 W → Kd.C (Kd.int .i64) W A1 out.length out)
    (l : Nat) (J Jx : List (Nat × S37) → World → Prop) (W : World) (hKW : KpS S w0 W)
    (hSlt : ∀ i, S i → i < w0.heap.size)
    (hJ : AbidesFrom W.heap.size J)
    (hY : ∀ pre x W1, J pre W1 → pre.length < L.length → YieldAt Fence.wide 1 Try.prog l (encL x) W1 fun e W' =>
      (e = .returned (.bool true) ∧ J (pre ++ [x]) W' ∧ KpS S W1 W') ∨ (e = .returned (.bool false) ∧ Jx (pre ++ [x]) W'))
    (h0 : J [] W) :
    CallsIn Fence.wide 2 Try.prog 106 (#[.func (.yield l) #[] #[]] ++ #[.pointer (some ⟨bn, 0, none⟩), .pointer (some ⟨bo, 0, none⟩)]) W fun e W' => (∃ v, e = .returned v) ∧
      ((∃ xs, xs = insF fnd L L.length ∧ J xs W') ∨ (∃ pre, True ∧ Jx pre W')) := by
  refine callsIn_of_wp Try.func106 rfl trivial ?_ rfl
  simp only [Try.ntmps106, List.size_toArray, List.length_cons, List.length_nil, Nat.reduceAdd, Nat.reduceSub, Array.replicate_succ, Array.replicate_zero, List.push_toArray, List.append_toArray, List.nil_append, List.cons_append]
  have hu24 := Try.underlying24
  have hu37 := Try.underlying37
  have x0 : W.cell? ⟨bn, 1, none⟩ = some (.slice A0 L.length c0) := (blk_cell (hbn W hKW) 1).trans rfl
  have HN := Lib.hid hbn
  have HO := Lib.hid hbo
  have HL := Lib.hid hL
  have HOUT := Lib.hid hout
  have HF := Lib.hid hf
  have HJ := Lib.hid hJ
  have HY := Lib.hid hY
  have HKW := Lib.hid hKW
  have HLT := Lib.hid hSlt
  clear hbn hbo hL hout hf hJ hY hKW hSlt
  have H0 := Lib.hid h0
  clear h0
  gi_wp2
  gi_loopw [11] (fun i wr => ∃ k : Nat, k ≤ L.length ∧ i = .int .i64 k ∧ Hid (J (insF fnd L k) wr ∧ KpS S w0 wr)) (fun i _ => L.length - (intOf i).toNat)
  case atStart => exact ⟨0, Nat.zero_le _, rfl, H0.out, HKW.out⟩
  case round =>
    obtain ⟨k, hk, rfl, HR⟩ := hrel
    by_cases hlt : k < L.length
    · have hlt2 : (k : Int) < (L.length : Int) := by omega
      obtain ⟨ad, rfl, e0, e1, e2, e3⟩ := at_T37 (HL.out wr HR.out.2) (k : Int) (by omega) hlt2
      rw [Int.toNat_natCast] at e0 e1 e2 e3
      have y0 : wr.cell? ⟨bo, 0, none⟩ = some (.slice A1 out.length c1) := (blk_cell (HO.out wr HR.out.2) 0).trans rfl
      obtain ⟨x, hx⟩ : ∃ x, x = rd_T37 L (k : Int) := ⟨_, rfl⟩
      rw [← hx] at e0 e1 e2 e3
      have HX := Lib.hid hx
      clear hx
      have hbo : bo < wr.heap.size := World.block_lt_of_cell? wr _ y0
      obtain ⟨kk, r, hsr⟩ := HF.out k hlt
      have HSR := Lib.hid hsr
      clear hsr
      have hz := Lib.hid (fun o => (HOUT.out wr HR.out.2).imp_ ((Below.refl _ _).alloc (Nat.le_refl _) o) (fun _ _ hp => (Kd.int .i64).K_below ((Below.refl _ _).alloc (Nat.le_refl _) o) hp) : ∀ o, Kd.C (Kd.int .i64) (wr.alloc o) A1 out.length out)
      generalize hfk : fnd k = fk at HSR
      have HFK := Lib.hid hfk
      clear hfk
      have hJB : ∀ o nd, J (insF fnd L k) ((wr.alloc o).drewN nd) := fun o nd => HJ.out _ wr _ none HR.out.1 (grown_of_below (pw_below_drewN (below_alloc (Below.refl _ _) o) nd) none) (fun r h => by cases h)
      have HJB := Lib.hid hJB
      clear hJB
      have hKP : ∀ o nd, KpS S w0 ((wr.alloc o).drewN nd) := fun o nd i hi => ((below_alloc (Below.refl _ _) o).block i (KpS_lt HLT.out HR.out.2 i hi)).trans (HR.out.2 i hi)
      have HKP := Lib.hid hKP
      clear hKP
      cases fk with
      | true =>
        gi_wp2_with (refine ⟨trivial, ?_⟩; gi_at_call 107; refine (callsIn_wide.2 (slices_BinarySearch_int_int.calls kk _ _ out _ r _ _ (hz.out _) hco HSR.out)).mono ?_; rintro e w5 ⟨rfl, ⟨⟨nd, rfl⟩⟩⟩)
        refine ⟨fun _ h => (by cases h), ?_⟩
        gi_wp2
        go_roundw
        case rel => exact ⟨k + 1, by omega, by go_num, by rw [insF_succ_out HFK.out]; exact HJB.out _ nd, HKP.out _ nd⟩
        case measure => simp [intOf]; omega
      | false =>
        gi_wp2_with (refine ⟨trivial, ?_⟩; gi_at_call 107; refine (callsIn_wide.2 (slices_BinarySearch_int_int.calls kk _ _ out _ r _ _ (hz.out _) hco HSR.out)).mono ?_; rintro e w5 ⟨rfl, ⟨⟨nd, rfl⟩⟩⟩; obtain ⟨fn, tmps, assign, body, hy, hRo⟩ := HY.out (insF fnd L k) (k, x) _ (HJB.out (.cells #[.int .i64 x.f0, .int .i64 x.f1, .int .i64 x.f2, .int .i64 x.f3] 37) nd) (Nat.lt_of_le_of_lt (insF_length k) hlt); dsimp only [encL] at hy; have HRO := Lib.hid hRo; clear hRo)
        refine HRO.out.mono ?_
        rintro e W3 (⟨rfl, hJ3, hk3⟩ | ⟨rfl, hJx3⟩)
        · have HJ3 := Lib.hid hJ3
          have HK3 := Lib.hid hk3
          clear hJ3 hk3
          gi_wp2
          go_roundw
          case rel => exact ⟨k + 1, by omega, by go_num, by rw [insF_succ_in HFK.out, ← HX.out]; exact HJ3.out, fun i hi => (HK3.out i hi).trans (HKP.out _ nd i hi)⟩
          case measure => simp [intOf]; omega
        · have HJ3 := Lib.hid hJx3
          clear hJx3
          gi_wp2
          refine bodyPost_ret (results_none rfl _ _ _) rfl ?_
          exact ⟨⟨_, rfl⟩, .inr ⟨_, trivial, HJ3.out⟩⟩
    · obtain rfl : k = L.length := by omega
      gi_wp2
      go_end0
      exact ⟨⟨_, rfl⟩, .inl ⟨_, rfl, HR.out.1⟩⟩

theorem in_calls (a0 : Int) (A0 : Option Addr) (n0 c0 : Nat) (A1 : Option Addr) (n1 c1 : Nat) (w : World) :
    Calls Try.prog 84 #[.agg #[.int .i64 a0, .slice A0 n0 c0], .slice A1 n1 c1] w fun e w' => e = .returned (.func (.func 106) #[] #[.pointer (some ⟨w.heap.size, 0, none⟩), .pointer (some ⟨w.heap.size + 1, 0, none⟩)]) ∧
      Below w.heap.size w w' ∧ w'.heap.size = w.heap.size + 2 ∧ w'.heap[w.heap.size]? = some (.cells #[.int .i64 a0, .slice A0 n0 c0] 24 (0, 0)) ∧ w'.heap[w.heap.size + 1]? = some (.cells #[.slice A1 n1 c1] 25 (0, 0)) := by
  have hu24 := Try.underlying24
  go_enter Try.func84, Try.ntmps84
  go_wp2
  go_ret
  generalize hA : w.alloc (.cells #[.int .i64 a0, .slice A0 n0 c0] 24) = wA
  have hsA : wA.heap.size = w.heap.size + 1 := by rw [← hA]; simp
  have bA : wA.heap[w.heap.size]? = some (.cells #[.int .i64 a0, .slice A0 n0 c0] 24 (0, 0)) := by rw [← hA]; exact heap_alloc_new w _
  have hbA : Below w.heap.size w wA := by rw [← hA]; exact (Below.refl _ _).alloc (Nat.le_refl _) _
  refine ⟨rfl, hbA.alloc (by omega) _, by simp [hsA], blk_alloc bA _, ?_⟩
  rw [← hsA]; exact heap_alloc_new wA _
end
section
/-- What a round of a loop over an iterator may turn: two boxes H1, H2, and rows of its own from B on. -/
structure Tr (H B H1 H2 : Nat) (W W' : World) : Prop where
  kf : KeepsFrom B W W'
  kp : KpS (fun i => i < B ∧ i ≠ H1 ∧ i ≠ H2) W W'
  bl : Below H W W'
section
variable {H B H1 H2 : Nat} {X Y Z : World}
theorem Tr.refl (X : World) : Tr H B H1 H2 X X := ⟨KeepsFrom.refl _ _, fun _ _ => rfl, Below.refl _ _⟩
theorem Tr.trans (h : Tr H B H1 H2 X Y) (k : Tr H B H1 H2 Y Z) : Tr H B H1 H2 X Z := ⟨h.kf.trans k.kf, fun i hi => (k.kp i hi).trans (h.kp i hi), h.bl.trans k.bl⟩
theorem Tr.alloc (h : Tr H B H1 H2 X Y) (o : Obj) (hs : B ≤ Y.heap.size) (hH : H ≤ B) : Tr H B H1 H2 X (Y.alloc o) :=
  h.trans ⟨(KeepsOthers.alloc _ _).from _, fun i hi => (below_alloc (Below.refl _ _) o).block i (by omega), (Below.refl _ _).alloc (by omega) _⟩
theorem Tr.drew (h : Tr H B H1 H2 X Y) : Tr H B H1 H2 X Y.drew := h.trans ⟨(KeepsOthers.drew _).from _, fun _ _ => rfl, (Below.refl _ _).drew⟩
theorem Tr.grown {α : Type} {d : Kd α} {e : Nat} {ok : Nat → Prop} {v : Value} {xs : List α} (h : Tr H B H1 H2 X Y) (hr : d.R e Y B ok v xs) (hg : Y.grownBy Z v.ownBlock) (hs : B ≤ Y.heap.size) (hH : H ≤ B) : Tr H B H1 H2 X Z := by
  refine h.trans ⟨(KeepsOthers.of_grownBy hg (fun j o e' ho => ?_)).from _, fun i hi => hg.block i (by omega) (fun e' => ?_), (Below.refl _ _).grown hg (by omega) (fun k e' => ?_)⟩
  · obtain ⟨cells, hc⟩ := Kd.R_typed hr j e'
    rw [hc] at ho; cases ho; rfl
  · have := Kd.R_base hr i e'.symm; omega
  · have := Kd.R_base hr k e'; omega
theorem Tr.set (h : Tr H B H1 H2 X Y) (g i : Nat) (hg : g = H1 ∨ g = H2) (hH1 : H ≤ H1) (hH2 : H ≤ H2) (v : Value) : Tr H B H1 H2 X (Y.setCell ⟨g, i, none⟩ v) :=
  h.trans ⟨(KeepsOthers.setCell _ _ _).from _, fun j hj => Below.heap_setCell _ _ _ j (by have h1 := hj.2.1; have h2 := hj.2.2; show j ≠ g; omega), (Below.refl _ _).setCell (p := ⟨g, i, none⟩) (by simp; omega) _⟩
end
end
end Go.Proofs.Ytdpgdelimffjpaa.P
