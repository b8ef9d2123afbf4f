-- Written by wip/drive.py (a prover's driver over the kit's print.py); hand-proved contracts stand among the printed ones. Lean checks it.
import Derived.Test.YtdpgdelimffjpaaFBase
import Derived.Test.YtdpgdelimffjpaaHTree
import Derived.Lib.Hide
import Derived.Defers
import Derived.Deep.LoopGhost
namespace Go.Proofs.Ytdpgdelimffjpaa.P
open Go.RowKit Go.Proofs.YtdpgdelimffjpaaW.PrintWords Go.Proofs.YtdpgdelimffjpaaW.PrintLast Go.Proofs.YtdpgdelimffjpaaW.PrintMore
attribute [local go_sem] max2_int min2_int max_two min_two max_three min_three max_four min_four   -- for this text's walks alone
set_option linter.unusedVariables false
set_option linter.unusedSimpArgs false

/-! ### tree_walk: function 103: by hand -/
-- import Derived.Test.YtdpgdelimffjpaaHTree
-- import Derived.Lib.Hide
-- import Derived.Defers
-- import Derived.Deep.LoopGhost
def tree_walk.f (k : Nat) (a0_0 : Int) (l0_1 : List (S37)) (l1 : List Int) (a2 : Int) (a3 : Int) (l4 : List Int) : Option (Bool × List Int) :=
  if ∀ t ∈ l1, 0 ≤ t ∧ t < (l0_1.length : Int) ∧ t < (l4.length : Int) ∧ (rd_T37 l0_1 t).f0 ≠ (rd_T37 l0_1 t).f1 then onF l0_1 l1 a3 k l4 a2 (-1) else none
theorem goF_mono {on on' : List Int → Int → Int → Option (Bool × List Int)} (h : ∀ w a l r, on w a l = some r → on' w a l = some r) (L : List S37) (at_ last : Int) : ∀ (ks : List Int) (way : List Int) (r : Bool × List Int), goF on L at_ last ks way = some r → goF on' L at_ last ks way = some r := by
  have hs : ∀ w k n s r, stepF on w k n s = some r → stepF on' w k n s = some r := by
    intro w k n s r hr
    unfold stepF at *
    obtain ⟨q, hq, hr⟩ := Option.bind_eq_some_iff.1 hr
    rw [h _ _ _ _ hq]; exact hr
  intro ks
  induction ks with
  | nil => intro way r hr; exact hr
  | cons k ks ih =>
    intro way r hr
    rw [goF] at hr ⊢
    by_cases h1 : k = last
    · rw [if_pos h1] at hr ⊢; exact ih _ _ hr
    · rw [if_neg h1] at hr ⊢
      by_cases h2 : (rd_T37 L k).f0 = at_
      · rw [if_pos h2] at hr ⊢
        obtain ⟨q, hq, hr⟩ := Option.bind_eq_some_iff.1 hr
        rw [hs _ _ _ _ _ hq, Option.bind_some]
        by_cases h3 : q.1 = true
        · rw [if_pos h3] at hr ⊢; exact hr
        · rw [if_neg h3] at hr ⊢
          by_cases h4 : (rd_T37 L k).f1 = at_
          · rw [if_pos h4] at hr ⊢
            obtain ⟨q2, hq2, hr⟩ := Option.bind_eq_some_iff.1 hr
            rw [hs _ _ _ _ _ hq2, Option.bind_some]
            by_cases h5 : q2.1 = true
            · rw [if_pos h5] at hr ⊢; exact hr
            · rw [if_neg h5] at hr ⊢; exact ih _ _ hr
          · rw [if_neg h4] at hr ⊢; exact ih _ _ hr
      · rw [if_neg h2] at hr ⊢
        by_cases h4 : (rd_T37 L k).f1 = at_
        · rw [if_pos h4] at hr ⊢
          obtain ⟨q2, hq2, hr⟩ := Option.bind_eq_some_iff.1 hr
          rw [hs _ _ _ _ _ hq2, Option.bind_some]
          by_cases h5 : q2.1 = true
          · rw [if_pos h5] at hr ⊢; exact hr
          · rw [if_neg h5] at hr ⊢; exact ih _ _ hr
        · rw [if_neg h4] at hr ⊢; exact ih _ _ hr
theorem onF_mono (L : List S37) (T : List Int) (tgt : Int) : ∀ k w a l r, onF L T tgt k w a l = some r → onF L T tgt (k + 1) w a l = some r := by
  intro k
  induction k with
  | zero => intro w a l r h; simp [onF] at h
  | succ k ih =>
    intro w a l r h
    rw [onF] at h ⊢
    by_cases hx : a = tgt
    · rw [if_pos hx] at h ⊢; exact h
    · rw [if_neg hx] at h ⊢; exact goF_mono (fun w a l r h => ih w a l r h) L a l T w r h
theorem goF_len {on : List Int → Int → Int → Option (Bool × List Int)} (h : ∀ w a l r, on w a l = some r → r.2.length = w.length) (L : List S37) (at_ last : Int) : ∀ (ks : List Int) (way : List Int) (r : Bool × List Int), goF on L at_ last ks way = some r → r.2.length = way.length := by
  have hs : ∀ w k n s r, stepF on w k n s = some r → r.2.length = w.length := by
    intro w k n s r hr
    unfold stepF at hr
    obtain ⟨q, hq, hr⟩ := Option.bind_eq_some_iff.1 hr
    have h1 := h _ _ _ _ hq
    rw [List.length_set] at h1
    obtain rfl := Option.some.inj hr
    show (if q.1 = true then q.2 else q.2.set k.toNat 0).length = w.length
    split
    · exact h1
    · rw [List.length_set]; exact h1
  intro ks
  induction ks with
  | nil => intro way r hr; obtain rfl := Option.some.inj hr; rfl
  | cons k ks ih =>
    intro way r hr
    rw [goF] at hr
    by_cases h1 : k = last
    · rw [if_pos h1] at hr; exact ih _ _ hr
    · rw [if_neg h1] at hr
      by_cases h2 : (rd_T37 L k).f0 = at_
      · rw [if_pos h2] at hr
        obtain ⟨q, hq, hr⟩ := Option.bind_eq_some_iff.1 hr
        have e1 := hs _ _ _ _ _ hq
        by_cases h3 : q.1 = true
        · rw [if_pos h3] at hr; obtain rfl := Option.some.inj hr; exact e1
        · rw [if_neg h3] at hr
          by_cases h4 : (rd_T37 L k).f1 = at_
          · rw [if_pos h4] at hr
            obtain ⟨q2, hq2, hr⟩ := Option.bind_eq_some_iff.1 hr
            have e2 := hs _ _ _ _ _ hq2
            by_cases h5 : q2.1 = true
            · rw [if_pos h5] at hr; obtain rfl := Option.some.inj hr; exact e2.trans e1
            · rw [if_neg h5] at hr; exact (ih _ _ hr).trans (e2.trans e1)
          · rw [if_neg h4] at hr; exact (ih _ _ hr).trans e1
      · rw [if_neg h2] at hr
        by_cases h4 : (rd_T37 L k).f1 = at_
        · rw [if_pos h4] at hr
          obtain ⟨q2, hq2, hr⟩ := Option.bind_eq_some_iff.1 hr
          have e2 := hs _ _ _ _ _ hq2
          by_cases h5 : q2.1 = true
          · rw [if_pos h5] at hr; obtain rfl := Option.some.inj hr; exact e2
          · rw [if_neg h5] at hr; exact (ih _ _ hr).trans e2
        · rw [if_neg h4] at hr; exact ih _ _ hr
theorem onF_len (L : List S37) (T : List Int) (tgt : Int) : ∀ k w a l r, onF L T tgt k w a l = some r → r.2.length = w.length := by
  intro k
  induction k with
  | zero => intro w a l r h; simp [onF] at h
  | succ k ih =>
    intro w a l r h
    rw [onF] at h
    by_cases hx : a = tgt
    · rw [if_pos hx] at h; obtain rfl := Option.some.inj h; rfl
    · rw [if_neg hx] at h; exact goF_len (fun w a l r h => ih w a l r h) L a l T w r h
theorem tree_walk.mono : ∀ a0 a1 a2 a3 a4 a5 k, LeO (tree_walk.f k a0 a1 a2 a3 a4 a5) (tree_walk.f (k + 1) a0 a1 a2 a3 a4 a5) := by
  intro a0 a1 a2 a3 a4 a5 k r h
  unfold tree_walk.f at h ⊢
  split at h
  · rename_i hc; rw [if_pos hc]; exact onF_mono _ _ _ _ _ _ _ _ h
  · cases h
/-- The deferred wiping. -/
theorem wipe_calls (pf pw pk g n c : Nat) (k : Int) (found : Bool) (u : FrameMode) (w : World) (cf : w.cell? ⟨pf, 0, none⟩ = some (.bool found)) (cw : w.cell? ⟨pw, 0, none⟩ = some (.slice (some ⟨g, 0, none⟩) n c)) (ck : w.cell? ⟨pk, 0, none⟩ = some (.int .i64 k)) (cz : ∃ x, w.cell? ⟨g, k.toNat, none⟩ = some (.int .i64 x)) (fz : w.frozen? ⟨g, k.toNat, none⟩ = false) (h0 : 0 ≤ k) (h1 : k < n) :
    CallsD Try.prog 119 #[.pointer (some ⟨pf, 0, none⟩), .pointer (some ⟨pw, 0, none⟩), .pointer (some ⟨pk, 0, none⟩)] u w fun e u' w' => u' = u ∧ (e = .returned (.tuple #[]) ∧ w' = if found = true then w else w.setCell ⟨g, k.toNat, none⟩ (.int .i64 0)) := by
  obtain ⟨x, cz⟩ := cz
  have q1 : (0 ≤ k) = True := eq_true h0
  have q2 : (k < (n : Int)) = True := eq_true h1
  have q3 : decide (0 ≤ k) = true := decide_eq_true h0
  have q4 : decide (k < (n : Int)) = true := decide_eq_true h1
  cases found with
  | true =>
    go_enter_d Try.func119, Try.ntmps119
    go_wp2
    go_end0
    exact ⟨rfl, rfl⟩
  | false =>
    go_enter_d Try.func119, Try.ntmps119
    go_wp2
    go_end0
    exact ⟨rfl, rfl⟩
/-- What the search's closures stand on. -/
structure Cx where
  b : Int
  An : Option Addr
  cn : Nat
  L : List S37
  At : Option Addr
  cT : Nat
  T : List Int
  tgt : Int
  H : Nat
  B : Nat
  P : Nat → Prop
  u : Value
  w0 : World
  w : World
structure Cx.Ok (C : Cx) : Prop where
  hH : C.H = C.w.heap.size
  hB : C.B = C.w0.heap.size
  hP : ∀ k, C.P k → k < C.H
  hL : ∀ W, Kept C.w W C.P → Kd.C k37 W C.An C.L.length C.L
  hT : ∀ W, Kept C.w W C.P → Kd.C (Kd.int .i64) W C.At C.T.length C.T
structure Cx.St (C : Cx) (way : List Int) (X : World) : Prop where
  k0 : X.heap[C.H]? = some (.cells #[.int .i64 C.b, .slice C.An C.L.length C.cn] 24 (0, 0))
  k1 : X.heap[C.H + 1]? = some (.cells #[.slice C.At C.T.length C.cT] 25 (0, 0))
  k2 : X.heap[C.H + 2]? = some (.cells #[.int .i64 C.tgt] 3 (0, 0))
  k3 : X.heap[C.H + 3]? = some (.cells #[C.u] 25 (0, 0))
  k4 : X.heap[C.H + 4]? = some (.cells #[.func (.func 120) #[] #[.pointer (some ⟨C.H + 2, 0, none⟩), .pointer (some ⟨C.H + 1, 0, none⟩), .pointer (some ⟨C.H, 0, none⟩), .pointer (some ⟨C.H + 5, 0, none⟩)]] 115 (0, 0))
  k5 : X.heap[C.H + 5]? = some (.cells #[.func (.func 118) #[] #[.pointer (some ⟨C.H + 3, 0, none⟩), .pointer (some ⟨C.H + 4, 0, none⟩)]] 116 (0, 0))
  r : Kd.R (Kd.int .i64) 3 X C.B C.P C.u way
  kp : Kept C.w X C.P
  bl : Below C.B C.w0 X
theorem Cx.St.kept {C : Cx} (hC : C.Ok) {way way' : List Int} {X Y : World} (h : C.St way X) (hk : Kept X Y C.P) (hr : Kd.R (Kd.int .i64) 3 Y C.B C.P C.u way') (hb : Below C.B C.w0 Y) : C.St way' Y :=
  have n : ∀ i, ¬ C.P (C.H + i) := fun i hp => by have := hC.hP _ hp; omega
  ⟨blk_kept h.k0 hk (n 0), blk_kept h.k1 hk (n 1), blk_kept h.k2 hk (n 2), blk_kept h.k3 hk (n 3), blk_kept h.k4 hk (n 4), blk_kept h.k5 hk (n 5), hr, h.kp.then_ hk (fun _ h => Or.inl h), hb⟩
theorem Cx.St.size {C : Cx} {way : List Int} {X : World} (h : C.St way X) : C.H + 6 ≤ X.heap.size := blk_lt h.k5
theorem Cx.St.bsize {C : Cx} (hC : C.Ok) {way : List Int} {X : World} (h : C.St way X) : C.B ≤ X.heap.size := by have := h.bl.size; rw [← hC.hB] at this; exact this
theorem Cx.St.alloc {C : Cx} (hC : C.Ok) {way : List Int} {X : World} (h : C.St way X) (o : Obj) : C.St way (X.alloc o) :=
  h.kept hC ((Kept.refl _ _).alloc o) (Kd.R_alloc h.r o) (h.bl.alloc (h.bsize hC) o)
theorem Cx.St.drewN {C : Cx} (hC : C.Ok) {way : List Int} {X : World} (h : C.St way X) (n : Nat) : C.St way (X.drewN n) :=
  h.kept hC ((Kept.refl _ _).drewN n) (Kd.R_drewN h.r n) (pw_below_drewN h.bl n)
theorem Cx.St.form {C : Cx} {way : List Int} {X : World} (h : C.St way X) (hp : 0 < way.length) : ∃ g c, C.u = .slice (some ⟨g, 0, none⟩) way.length c ∧ C.P g ∧ C.B ≤ g := by
  obtain ⟨g, c, e, hb, _, _⟩ := Kd.R_form h.r hp
  exact ⟨g, c, e, h.r.1 g (by rw [e]; simp [Value.ownBlock]), hb⟩
theorem Cx.St.put {C : Cx} (hC : C.Ok) {way : List Int} {X : World} (h : C.St way X) {g c : Nat} (hu : C.u = .slice (some ⟨g, 0, none⟩) way.length c) (k : Int) (v : Int) : C.St (way.set k.toNat v) (X.setCell ⟨g, k.toNat, none⟩ (.int .i64 v)) ∧ Kept X (X.setCell ⟨g, k.toNat, none⟩ (.int .i64 v)) C.P := by
  have hr := h.r
  rw [hu] at hr
  have hg : C.P g := hr.1 g (by simp [Value.ownBlock])
  have hgB : C.B ≤ g := Kd.R_base hr g (by simp [Value.ownBlock])
  have hk : Kept X (X.setCell ⟨g, k.toNat, none⟩ (.int .i64 v)) C.P := (Kept.refl _ _).setCell (Or.inl hg) _
  refine ⟨h.kept hC hk ?_ (h.bl.setCell (p := ⟨g, k.toNat, none⟩) hgB _), hk⟩
  rw [hu]
  exact (Kd.R_put hr k v).1
/-- What a search leaves. -/
def Cx.Post (C : Cx) (X : World) (r : Bool × List Int) (e : Ending) (Y : World) : Prop := e = .returned (.bool r.1) ∧ Kd.R (Kd.int .i64) 3 Y C.B C.P C.u r.2 ∧ Kept X Y C.P ∧ Below C.B C.w0 Y
theorem blk_two (Z : World) (o1 o2 : Obj) (s : Nat) (hs : Z.heap.size = s) : ((Z.alloc o1).alloc o2).heap[s]? = some o1 ∧ ((Z.alloc o1).alloc o2).heap[s + 1]? = some o2 := by
  subst hs
  refine ⟨blk_alloc (blk_new Z o1) o2, ?_⟩
  have := blk_new (Z.alloc o1) o2
  simpa using this
set_option maxRecDepth 100000 in
set_option maxHeartbeats 4000000 in
/-- One try. -/
theorem try_calls (C : Cx) (hC : C.Ok) (way : List Int) (k at_ nx sg : Int) (r : Bool × List Int) (X : World) (hst : C.St way X) (h0 : 0 ≤ k) (h1 : k < (way.length : Int)) (hlen : r.2.length = way.length) (r' : Bool × List Int) (hr' : r' = (r.1, if r.1 = true then r.2 else r.2.set k.toNat 0))
    (hon : ∀ Y, C.St (way.set k.toNat sg) Y → Calls Try.prog 120 #[.int .i64 nx, .int .i64 k, .pointer (some ⟨C.H + 2, 0, none⟩), .pointer (some ⟨C.H + 1, 0, none⟩), .pointer (some ⟨C.H, 0, none⟩), .pointer (some ⟨C.H + 5, 0, none⟩)] Y (C.Post Y r)) :
    Calls Try.prog 118 #[.int .i64 k, .int .i64 at_, .int .i64 nx, .int .i64 sg, .pointer (some ⟨C.H + 3, 0, none⟩), .pointer (some ⟨C.H + 4, 0, none⟩)] X (C.Post X r') := by
  obtain ⟨g, c, hu, hPg, hBg⟩ := hst.form (by omega)
  have hgH := hC.hP g hPg
  have hsz := hst.size
  have c3 : X.cell? ⟨C.H + 3, 0, none⟩ = some (.slice (some ⟨g, 0, none⟩) way.length c) := (blk_cell hst.k3 0).trans (by rw [hu]; rfl)
  have c4 : X.cell? ⟨C.H + 4, 0, none⟩ = some (.func (.func 120) #[] #[.pointer (some ⟨C.H + 2, 0, none⟩), .pointer (some ⟨C.H + 1, 0, none⟩), .pointer (some ⟨C.H, 0, none⟩), .pointer (some ⟨C.H + 5, 0, none⟩)]) := (blk_cell hst.k4 0).trans rfl
  have hr := hst.r
  rw [hu] at hr
  obtain ⟨cz, fz⟩ := Kd.R_celln (0 : Int) hr k h0 (by omega)
  have hP4 := (hst.put hC hu k sg)
  have hmf : ∀ (fn : Fn) (first cap : Array Value) (w : World), (Instr.makeFunc fn first cap).run Try.prog w = .ok (.func fn first cap) w := fun _ _ _ _ => rfl
  have n4 : (g = C.H + 4) = False := eq_false (by omega)
  have n4' : (C.H + 4 = g) = False := eq_false (by omega)
  have l3 : C.H + 3 < X.heap.size := by omega
  have l4 : C.H + 4 < X.heap.size := by omega
  have lg : g < X.heap.size := by omega
  have q1 : (0 ≤ k) = True := eq_true h0
  have q2 : (k < (way.length : Int)) = True := eq_true h1
  have q3 : decide (0 ≤ k) = true := decide_eq_true h0
  have q4 : decide (k < (way.length : Int)) = true := decide_eq_true h1
  have HST := Lib.hid hst
  have HP4 := Lib.hid hP4
  have HON := Lib.hid hon
  have HL := Lib.hid hlen
  have HPG := Lib.hid hPg
  have HR' := Lib.hid hr'
  have HU := Lib.hid hu
  clear hst hP4 hon hr hlen hPg hr' hu
  go_enter_defers Try.func118, Try.ntmps118
  go_wp2_with (go_at_call 120; refine (HON.out _ ?st).mono ?_; (case st => exact (HP4.out.1.alloc hC _).alloc hC _); rintro e Y ⟨rfl, r2, kp2, bl2⟩; have R2 := Lib.hid r2; have KP2 := Lib.hid kp2; have BL2 := Lib.hid bl2; have kf2 := blk_two (X.setCell ⟨g, k.toNat, none⟩ (.int .i64 sg)) (.cells #[.int .i64 k] 3) (.cells #[.bool false] 4) X.heap.size (by simp [World.setCell]); have kf := blk_kept kf2.2 kp2 (fun hp => by have := hC.hP _ hp; omega); have kk := blk_kept kf2.1 kp2 (fun hp => by have := hC.hP _ hp; omega); clear kf2; have KK := Lib.hid kk; clear kk; have KF := Lib.hid kf; clear r2 kp2 bl2 kf; have cf : Y.cell? ⟨X.heap.size + 1, 0, none⟩ = some (.bool false) := (blk_cell KF.out 0).trans rfl; have ff := blk_frozen KF.out 0)
  have n3 : C.H + 3 ≠ X.heap.size + 1 := by omega
  have n0 : X.heap.size ≠ X.heap.size + 1 := by omega
  have hk2 := KP2.out
  have st2 : C.St r.2 Y := ((HP4.out.1.alloc hC (.cells #[.int .i64 k] 3)).alloc hC (.cells #[.bool false] 4)).kept hC KP2.out R2.out BL2.out
  have KS := blk_set KF.out 0 (.bool r.1)
  have K3 : (Y.setCell ⟨X.heap.size + 1, 0, none⟩ (.bool r.1)).heap[C.H + 3]? = some (.cells #[C.u] 25 (0, 0)) := blk_far st2.k3 n3 _
  have K6 : (Y.setCell ⟨X.heap.size + 1, 0, none⟩ (.bool r.1)).heap[X.heap.size]? = some (.cells #[.int .i64 k] 3 (0, 0)) := blk_far KK.out n0 _
  have RS := Kd.R_set R2.out KF.out (by decide) 0 (.bool r.1)
  rw [HU.out] at RS
  obtain ⟨cz2, fz2⟩ := Kd.R_celln (0 : Int) RS k h0 (by omega)
  have hkept : Kept X Y C.P := by
    refine Kept.then_ (HP4.out.2) (S2 := C.P) (Kept.then_ ?_ KP2.out (fun _ h => Or.inl h)) (fun _ h => Or.inl h)
    exact ((Kept.refl _ _).alloc _).alloc _
  have hkeptS : Kept X (Y.setCell ⟨X.heap.size + 1, 0, none⟩ (.bool r.1)) C.P := hkept.setCell (Or.inr (by simp)) _
  have hbel : Below C.B C.w0 (Y.setCell ⟨X.heap.size + 1, 0, none⟩ (.bool r.1)) := BL2.out.setCell (p := ⟨X.heap.size + 1, 0, none⟩) (by have := HST.out.bsize hC; show C.B ≤ X.heap.size + 1; omega) _
  refine leaves_cons (f := 119) (args := #[.pointer (some ⟨X.heap.size + 1, 0, none⟩), .pointer (some ⟨C.H + 3, 0, none⟩), .pointer (some ⟨X.heap.size, 0, none⟩)]) (by simp) (by simp [go_sem]) ?_
  refine (wipe_calls (X.heap.size + 1) (C.H + 3) X.heap.size g way.length c k r.1 .returning _ ((blk_cell KS 0).trans rfl) ((blk_cell K3 0).trans (by rw [HU.out]; rfl)) ((blk_cell K6 0).trans rfl) ⟨_, cz2⟩ fz2 h0 h1).mono ?_
  rintro e u' Y3 ⟨rfl, rfl, rfl⟩
  have hcell : ∀ rb : Bool, rb = r.1 → (if rb = true then (Y.setCell ⟨X.heap.size + 1, 0, none⟩ (.bool rb)) else (Y.setCell ⟨X.heap.size + 1, 0, none⟩ (.bool rb)).setCell ⟨g, k.toNat, none⟩ (.int .i64 0)).cell? ⟨X.heap.size + 1, 0, none⟩ = some (.bool rb) := by
    rintro rb rfl
    have hgn : X.heap.size + 1 ≠ g := by omega
    split
    · exact (blk_cell KS 0).trans rfl
    · exact (blk_cell (blk_far KS (p := ⟨g, k.toNat, none⟩) hgn _) 0).trans rfl
  have hc1 := hcell r.1 rfl
  have hfin : C.Post X r' (.returned (.bool r.1)) (if r.1 = true then (Y.setCell ⟨X.heap.size + 1, 0, none⟩ (.bool r.1)) else (Y.setCell ⟨X.heap.size + 1, 0, none⟩ (.bool r.1)).setCell ⟨g, k.toNat, none⟩ (.int .i64 0)) := by
    rw [HR'.out]
    unfold Cx.Post
    by_cases hb : r.1 = true
    · rw [if_pos hb, if_pos hb]
      exact ⟨rfl, by rw [HU.out]; exact RS, hkeptS, hbel⟩
    · rw [if_neg hb, if_neg hb]
      refine ⟨rfl, ?_, hkeptS.setCell (Or.inl HPG.out) _, hbel.setCell (p := ⟨g, k.toNat, none⟩) hBg _⟩
      rw [HU.out]
      have := (Kd.R_putn RS k 0)
      exact this
  refine ⟨.bool r.1, ?_, hfin⟩
  simp [results, Try.f118, go_sem, hc1]
set_option maxRecDepth 100000 in
set_option maxHeartbeats 8000000 in
/-- The search. -/
theorem on_calls (C : Cx) (hC : C.Ok) (hok : ∀ t ∈ C.T, 0 ≤ t ∧ t < (C.L.length : Int) ∧ (rd_T37 C.L t).f0 ≠ (rd_T37 C.L t).f1) : ∀ (fuel : Nat) (way : List Int) (at_ last : Int) (r : Bool × List Int) (X : World), (∀ t ∈ C.T, t < (way.length : Int)) → onF C.L C.T C.tgt fuel way at_ last = some r → C.St way X →
    Calls Try.prog 120 #[.int .i64 at_, .int .i64 last, .pointer (some ⟨C.H + 2, 0, none⟩), .pointer (some ⟨C.H + 1, 0, none⟩), .pointer (some ⟨C.H, 0, none⟩), .pointer (some ⟨C.H + 5, 0, none⟩)] X (C.Post X r) := by
  intro fuel
  induction fuel with
  | zero => intro way at_ last r X _ h _; simp [onF] at h
  | succ fuel ih =>
    intro way at_ last r X hw h hst
    rw [onF] at h
    have hsz := hst.size
    have hTl : C.T.length ≤ 9223372036854775807 := (hC.hT X hst.kp).2.1
    have c2 : X.cell? ⟨C.H + 2, 0, none⟩ = some (.int .i64 C.tgt) := (blk_cell hst.k2 0).trans rfl
    have c1 : X.cell? ⟨C.H + 1, 0, none⟩ = some (.slice C.At C.T.length C.cT) := (blk_cell hst.k1 0).trans rfl
    by_cases ht : at_ = C.tgt
    · rw [if_pos ht] at h
      obtain rfl := Option.some.inj h
      have q1 : (at_ == C.tgt) = true := by rw [beq_iff_eq]; exact ht
      have HST := Lib.hid hst
      clear h hst ih hw ht
      go_enter Try.func120, Try.ntmps120
      go_wp2_with fail
      go_ret
      exact ⟨rfl, HST.out.r, Kept.refl _ _, HST.out.bl⟩
    · rw [if_neg ht] at h
      have q1 : (at_ == C.tgt) = false := by rw [beq_eq_false_iff_ne]; exact ht
      have HST := Lib.hid hst
      have HH := Lib.hid h
      have IH := Lib.hid ih
      have HW := Lib.hid hw
      have HOK := Lib.hid hok
      clear h hst ih hw ht
      go_enter Try.func120, Try.ntmps120
      go_wp2_with fail
      go_loopg [17] C.T.length (fun kq v17 wr => ∃ i : Nat, i ≤ C.T.length ∧ v17 = .int .i64 (i : Int) ∧ Hid (kq = C.T.length - i ∧ ∃ way', goF (onF C.L C.T C.tgt fuel) C.L at_ last (C.T.drop i) way' = some r ∧ C.St way' wr ∧ Kept X wr C.P ∧ way'.length = way.length))
      case atStart => exact ⟨0, Nat.zero_le _, rfl, by simp, way, HH.out, HST.out, Kept.refl _ _, rfl⟩
      case round =>
        obtain ⟨i, hi, rfl, HI⟩ := hrel
        obtain ⟨way', hgo, hst, hkp, hwl⟩ := HI.out.2
        by_cases hlt : i < C.T.length
        · have q2 : decide ((i : Int) < (C.T.length : Int)) = true := decide_eq_true (by omega)
          obtain ⟨k, hk⟩ : ∃ k, k = C.T[i] := ⟨_, rfl⟩
          have hkm : k ∈ C.T := by rw [hk]; exact List.getElem_mem hlt
          obtain ⟨hk0, hkL, hne⟩ := HOK.out k hkm
          have hkw := HW.out k hkm
          rw [List.drop_eq_getElem_cons hlt, ← hk, goF] at hgo
          have hsz2 := hst.size
          obtain ⟨ad, hAd, hx⟩ := Kd.at_int (hC.hT wr hst.kp) (i : Int) (by omega) (by omega)
          rw [rd_nat _ i hlt, ← hk, Int.toNat_natCast] at hx
          obtain ⟨adN, hAn, e0, e1, e2, e3⟩ := at_T37 (hC.hL wr hst.kp) k hk0 hkL
          have d0 : wr.cell? ⟨C.H, 1, none⟩ = some (.slice C.An C.L.length C.cn) := (blk_cell hst.k0 1).trans rfl
          have d5 : wr.cell? ⟨C.H + 5, 0, none⟩ = some (.func (.func 118) #[] #[.pointer (some ⟨C.H + 3, 0, none⟩), .pointer (some ⟨C.H + 4, 0, none⟩)]) := (blk_cell hst.k5 0).trans rfl
          have l5 : C.H + 5 < wr.heap.size := by omega
          have p1 : (0 ≤ k) = True := eq_true hk0
          have p2 : (k < (C.L.length : Int)) = True := eq_true hkL
          have p3 : decide (0 ≤ k) = true := decide_eq_true hk0
          have p4 : decide (k < (C.L.length : Int)) = true := decide_eq_true hkL
          rw [hAn] at d0
          rw [hAd]
          have HAD := Lib.hid hAd
          clear hAd
          obtain ⟨f0, hf0⟩ : ∃ f0, f0 = (rd_T37 C.L k).f0 := ⟨_, rfl⟩
          obtain ⟨f1, hf1⟩ : ∃ f1, f1 = (rd_T37 C.L k).f1 := ⟨_, rfl⟩
          obtain ⟨f2, hf2⟩ : ∃ f2, f2 = (rd_T37 C.L k).f2 := ⟨_, rfl⟩
          obtain ⟨f3, hf3⟩ : ∃ f3, f3 = (rd_T37 C.L k).f3 := ⟨_, rfl⟩
          rw [← hf0] at e0 hgo hne
          rw [← hf1] at e1 hgo hne
          rw [← hf2] at e2
          rw [← hf3] at e3
          by_cases hkl : k = last
          · rw [if_pos hkl] at hgo
            have t1 : (k == last) = true := by rw [beq_iff_eq]; exact hkl
            have HGO := Lib.hid hgo
            have HST2 := Lib.hid hst
            have HKP := Lib.hid hkp
            have HWL := Lib.hid hwl
            clear hgo hst hkp hwl hkl hf0 hf1 hf2 hf3 hkm hkw hk hne
            go_wp2_with fail
            rw [← HAD.out]
            go_roundg (C.T.length - (i + 1))
            case measure => have := HI.out.1; omega
            case rel => exact ⟨i + 1, by omega, by go_num, rfl, way', HGO.out, HST2.out.alloc hC _, HKP.out.alloc _, HWL.out⟩
          · rw [if_neg hkl] at hgo
            have t1 : (k == last) = false := by rw [beq_eq_false_iff_ne]; exact hkl
            have HST2 := Lib.hid (hst.alloc hC (.cells #[.int .i64 f0, .int .i64 f1, .int .i64 f2, .int .i64 f3] 37))
            have HKP := Lib.hid (hkp.alloc (.cells #[.int .i64 f0, .int .i64 f1, .int .i64 f2, .int .i64 f3] 37))
            have HWL := Lib.hid hwl
            have HK0 := Lib.hid hk0
            have HKW := Lib.hid hkw
            have HNE := Lib.hid hne
            have hnb : ¬ C.P wr.heap.size := fun hp => by have := hC.hP _ hp; omega
            have HNB := Lib.hid hnb
            have K37 := Lib.hid (blk_new wr (.cells #[.int .i64 f0, .int .i64 f1, .int .i64 f2, .int .i64 f3] 37))
            by_cases h0 : f0 = at_
            · rw [if_pos h0] at hgo
              have t2 : (f0 == at_) = true := by rw [beq_iff_eq]; exact h0
              have t3 : (f1 == at_) = false := by rw [beq_eq_false_iff_ne]; intro e; exact hne (h0.trans e.symm)
              have hn1 : ¬ f1 = at_ := fun e => hne (h0.trans e.symm)
              obtain ⟨q, hq, hgo⟩ := Option.bind_eq_some_iff.1 hgo
              unfold stepF at hq
              obtain ⟨q', hq', hq⟩ := Option.bind_eq_some_iff.1 hq
              obtain rfl := Option.some.inj hq
              have HQ := Lib.hid hq'
              have HQL := Lib.hid ((onF_len _ _ _ _ _ _ _ _ hq').trans (by rw [List.length_set]) : q'.2.length = way'.length)
              clear hq hq' hst hkp hwl hkl hf0 hf1 hf2 hf3 hkm hkw hk hne hnb h0
              by_cases hb : q'.1 = true
              · rw [if_pos hb] at hgo
                obtain rfl := Option.some.inj hgo
                have t4 := hb
                clear hgo
                go_wp2_with (go_at_call 118; refine (try_calls C hC way' k at_ f1 1 q' _ HST2.out HK0.out (by have := HWL.out; have := HKW.out; omega) HQL.out (true, q'.2) (by rw [t4, if_pos rfl]) (fun Y hY => IH.out _ _ _ _ _ (by intro t ht; rw [List.length_set]; have := HW.out t ht; have := HWL.out; omega) HQ.out hY)).mono ?_; rintro e Y ⟨rfl, r2, kp2, bl2⟩; have R2 := Lib.hid r2; have KP2 := Lib.hid kp2; have BL2 := Lib.hid bl2; clear r2 kp2 bl2)
                go_ret
                exact ⟨rfl, R2.out, HKP.out.then_ KP2.out (fun _ h => Or.inl h), BL2.out⟩
              · rw [if_neg hb, if_neg hn1] at hgo
                have t4 : q'.1 = false := Bool.eq_false_iff.2 hb
                have HGO : RowKit.Hid (goF (onF C.L C.T C.tgt fuel) C.L at_ last (List.drop (i + 1) C.T) (q'.2.set k.toNat 0) = some r) := Lib.hid (by rw [t4] at hgo; exact hgo)
                clear hgo hb hn1
                go_wp2_with (go_at_call 118; refine (try_calls C hC way' k at_ f1 1 q' _ HST2.out HK0.out (by have := HWL.out; have := HKW.out; omega) HQL.out (false, q'.2.set k.toNat 0) (by rw [t4]; rfl) (fun Y hY => IH.out _ _ _ _ _ (by intro t ht; rw [List.length_set]; have := HW.out t ht; have := HWL.out; omega) HQ.out hY)).mono ?_; rintro e Y ⟨rfl, r2, kp2, bl2⟩; have R2 := Lib.hid r2; have KP2 := Lib.hid kp2; have BL2 := Lib.hid bl2; have K38 := Lib.hid (blk_kept K37.out kp2 HNB.out); have m1 : Y.cell? ⟨wr.heap.size, 1, none⟩ = some (.int .i64 f1) := (blk_cell K38.out 1).trans rfl; clear r2 kp2 bl2)
                rw [← HAD.out]
                go_roundg (C.T.length - (i + 1))
                case measure => have := HI.out.1; omega
                case rel => exact ⟨i + 1, by omega, by go_num, rfl, _, HGO.out, HST2.out.kept hC KP2.out R2.out BL2.out, HKP.out.then_ KP2.out (fun _ h => Or.inl h), by rw [List.length_set]; exact HQL.out.trans HWL.out⟩
            · rw [if_neg h0] at hgo
              have t2 : (f0 == at_) = false := by rw [beq_eq_false_iff_ne]; exact h0
              by_cases h1 : f1 = at_
              · rw [if_pos h1] at hgo
                have t3 : (f1 == at_) = true := by rw [beq_iff_eq]; exact h1
                obtain ⟨q, hq, hgo⟩ := Option.bind_eq_some_iff.1 hgo
                unfold stepF at hq
                obtain ⟨q', hq', hq⟩ := Option.bind_eq_some_iff.1 hq
                obtain rfl := Option.some.inj hq
                have HQ := Lib.hid hq'
                have HQL := Lib.hid ((onF_len _ _ _ _ _ _ _ _ hq').trans (by rw [List.length_set]) : q'.2.length = way'.length)
                clear hq hq' hst hkp hwl hkl hf0 hf1 hf2 hf3 hkm hkw hk hne hnb h0 h1
                by_cases hb : q'.1 = true
                · rw [if_pos hb] at hgo
                  obtain rfl := Option.some.inj hgo
                  have t4 := hb
                  clear hgo
                  go_wp2_with (go_at_call 118; refine (try_calls C hC way' k at_ f0 (-1) q' _ HST2.out HK0.out (by have := HWL.out; have := HKW.out; omega) HQL.out (true, q'.2) (by rw [t4, if_pos rfl]) (fun Y hY => IH.out _ _ _ _ _ (by intro t ht; rw [List.length_set]; have := HW.out t ht; have := HWL.out; omega) HQ.out hY)).mono ?_; rintro e Y ⟨rfl, r2, kp2, bl2⟩; have R2 := Lib.hid r2; have KP2 := Lib.hid kp2; have BL2 := Lib.hid bl2; clear r2 kp2 bl2)
                  go_ret
                  exact ⟨rfl, R2.out, HKP.out.then_ KP2.out (fun _ h => Or.inl h), BL2.out⟩
                · rw [if_neg hb] at hgo
                  have t4 : q'.1 = false := Bool.eq_false_iff.2 hb
                  have HGO : RowKit.Hid (goF (onF C.L C.T C.tgt fuel) C.L at_ last (List.drop (i + 1) C.T) (q'.2.set k.toNat 0) = some r) := Lib.hid (by rw [t4] at hgo; exact hgo)
                  clear hgo hb
                  go_wp2_with (go_at_call 118; refine (try_calls C hC way' k at_ f0 (-1) q' _ HST2.out HK0.out (by have := HWL.out; have := HKW.out; omega) HQL.out (false, q'.2.set k.toNat 0) (by rw [t4]; rfl) (fun Y hY => IH.out _ _ _ _ _ (by intro t ht; rw [List.length_set]; have := HW.out t ht; have := HWL.out; omega) HQ.out hY)).mono ?_; rintro e Y ⟨rfl, r2, kp2, bl2⟩; have R2 := Lib.hid r2; have KP2 := Lib.hid kp2; have BL2 := Lib.hid bl2; clear r2 kp2 bl2)
                  rw [← HAD.out]
                  go_roundg (C.T.length - (i + 1))
                  case measure => have := HI.out.1; omega
                  case rel => exact ⟨i + 1, by omega, by go_num, rfl, _, HGO.out, HST2.out.kept hC KP2.out R2.out BL2.out, HKP.out.then_ KP2.out (fun _ h => Or.inl h), by rw [List.length_set]; exact HQL.out.trans HWL.out⟩
              · rw [if_neg h1] at hgo
                have t3 : (f1 == at_) = false := by rw [beq_eq_false_iff_ne]; exact h1
                have HGO := Lib.hid hgo
                clear hgo hst hkp hwl hkl hf0 hf1 hf2 hf3 hkm hkw hk hne hnb h0 h1
                go_wp2_with fail
                rw [← HAD.out]
                go_roundg (C.T.length - (i + 1))
                case measure => have := HI.out.1; omega
                case rel => exact ⟨i + 1, by omega, by go_num, rfl, way', HGO.out, HST2.out, HKP.out, HWL.out⟩
        · have hiT : i = C.T.length := by omega
          subst hiT
          rw [List.drop_eq_nil_of_le (Nat.le_refl _), goF] at hgo
          obtain rfl := Option.some.inj hgo
          have q2 : decide ((C.T.length : Int) < (C.T.length : Int)) = false := decide_eq_false (by omega)
          have HST2 := Lib.hid hst
          have HKP := Lib.hid hkp
          clear hgo hst hkp hwl
          go_wp2_with fail
          go_ret
          exact ⟨rfl, HST2.out.r, HKP.out, HST2.out.bl⟩
theorem blk_six (w : World) (o0 o1 o2 o3 o4 o5 : Obj) : let W := (((((w.alloc o0).alloc o1).alloc o2).alloc o3).alloc o4).alloc o5
    W.heap[w.heap.size]? = some o0 ∧ W.heap[w.heap.size + 1]? = some o1 ∧ W.heap[w.heap.size + 2]? = some o2 ∧ W.heap[w.heap.size + 3]? = some o3 ∧ W.heap[w.heap.size + 4]? = some o4 ∧ W.heap[w.heap.size + 5]? = some o5 := by
  intro W
  have s1 : (w.alloc o0).heap.size = w.heap.size + 1 := by simp
  have s2 : ((w.alloc o0).alloc o1).heap.size = w.heap.size + 2 := by simp
  have s3 : (((w.alloc o0).alloc o1).alloc o2).heap.size = w.heap.size + 3 := by simp
  have s4 : ((((w.alloc o0).alloc o1).alloc o2).alloc o3).heap.size = w.heap.size + 4 := by simp
  have s5 : (((((w.alloc o0).alloc o1).alloc o2).alloc o3).alloc o4).heap.size = w.heap.size + 5 := by simp
  have b0 := blk_new w o0
  have b1 := blk_new (w.alloc o0) o1
  have b2 := blk_new ((w.alloc o0).alloc o1) o2
  have b3 := blk_new (((w.alloc o0).alloc o1).alloc o2) o3
  have b4 := blk_new ((((w.alloc o0).alloc o1).alloc o2).alloc o3) o4
  have b5 := blk_new (((((w.alloc o0).alloc o1).alloc o2).alloc o3).alloc o4) o5
  rw [s1] at b1
  rw [s2] at b2
  rw [s3] at b3
  rw [s4] at b4
  rw [s5] at b5
  exact ⟨blk_alloc (blk_alloc (blk_alloc (blk_alloc (blk_alloc b0 _) _) _) _) _, blk_alloc (blk_alloc (blk_alloc (blk_alloc b1 _) _) _) _, blk_alloc (blk_alloc (blk_alloc b2 _) _) _, blk_alloc (blk_alloc b3 _) _, blk_alloc b4 _, b5⟩
set_option maxRecDepth 100000 in
set_option maxHeartbeats 8000000 in
theorem tree_walk.calls (k : Nat) (a0_0 : Int) (A0_1 : Option Addr) (c0_1 : Nat) (l0_1 : List (S37)) (A1 : Option Addr) (c1 : Nat) (l1 : List Int) (a2 : Int) (a3 : Int) (P4_ : Nat → Prop) (u9000_ : Value) (l4 : List Int) (r1 : Bool) (r2 : List Int) (w0 w : World) (hB : Below w0.heap.size w0 w) (hr0_1 : ∀ W_, Kept w W_ (fun k_ => P4_ k_) → Kd.C k37 W_ A0_1 l0_1.length l0_1) (hc0_1 : l0_1.length ≤ c0_1) (hr1 : ∀ W_, Kept w W_ (fun k_ => P4_ k_) → Kd.C (Kd.int .i64) W_ A1 l1.length l1) (hc1 : l1.length ≤ c1) (ho4 : Kd.R (Kd.int .i64) 3 w w0.heap.size P4_ u9000_ l4) (h : tree_walk.f k a0_0 l0_1 l1 a2 a3 l4 = some (r1, r2)) :
    Calls Try.prog 103 #[.agg #[.int .i64 a0_0, .slice A0_1 l0_1.length c0_1], .slice A1 l1.length c1, .int .i64 a2, .int .i64 a3, u9000_] w fun e w' => e = .returned (.bool r1) ∧ Kd.R (Kd.int .i64) 3 w' w0.heap.size (fun k_ => (P4_ k_ ∨ w.heap.size ≤ k_)) u9000_ r2 ∧ Below w0.heap.size w0 w' ∧ Kept w w' (fun k_ => P4_ k_) := by
  unfold tree_walk.f at h
  split at h
  · rename_i hg
    have hmf : ∀ (fn : Fn) (first cap : Array Value) (w : World), (Instr.makeFunc fn first cap).run Try.prog w = .ok (.func fn first cap) w := fun _ _ _ _ => rfl
    obtain ⟨A4, c4, rfl⟩ := Kd.R_slice ho4
    obtain ⟨C, hCe⟩ : ∃ C : Cx, C = ⟨a0_0, A0_1, c0_1, l0_1, A1, c1, l1, a3, w.heap.size, w0.heap.size, fun k_ => P4_ k_ ∧ k_ < w.heap.size, .slice A4 l4.length c4, w0, w⟩ := ⟨_, rfl⟩
    have hsub : ∀ {W_ : World}, Kept w W_ (fun k_ => P4_ k_ ∧ k_ < w.heap.size) → Kept w W_ (fun k_ => P4_ k_) := fun hk => hk.mono fun _ h => h.1
    have hC : C.Ok := by rw [hCe]; exact ⟨rfl, rfl, fun k hk => hk.2, fun W hk => hr0_1 W (hsub hk), fun W hk => hr1 W (hsub hk)⟩
    have hr4 : Kd.R (Kd.int .i64) 3 w w0.heap.size (fun k_ => P4_ k_ ∧ k_ < w.heap.size) (.slice A4 l4.length c4) l4 := Kd.R_mono (Kd.R_bound ho4) (fun _ hk => ⟨hk.1, hk.2.2.1⟩)
    have st0 : ∀ o0 o1 o2 o3 o4 o5 : Obj, o0 = .cells #[.int .i64 a0_0, .slice A0_1 l0_1.length c0_1] 24 (0, 0) → o1 = .cells #[.slice A1 l1.length c1] 25 (0, 0) → o2 = .cells #[.int .i64 a3] 3 (0, 0) → o3 = .cells #[.slice A4 l4.length c4] 25 (0, 0) →
        o4 = .cells #[.func (.func 120) #[] #[.pointer (some ⟨w.heap.size + 2, 0, none⟩), .pointer (some ⟨w.heap.size + 1, 0, none⟩), .pointer (some ⟨w.heap.size, 0, none⟩), .pointer (some ⟨w.heap.size + 5, 0, none⟩)]] 115 (0, 0) →
        o5 = .cells #[.func (.func 118) #[] #[.pointer (some ⟨w.heap.size + 3, 0, none⟩), .pointer (some ⟨w.heap.size + 4, 0, none⟩)]] 116 (0, 0) → C.St l4 ((((((w.alloc o0).alloc o1).alloc o2).alloc o3).alloc o4).alloc o5) := by
      rintro o0 o1 o2 o3 o4 o5 rfl rfl rfl rfl rfl rfl
      obtain ⟨b0, b1, b2, b3, b4, b5⟩ := blk_six w (.cells #[.int .i64 a0_0, .slice A0_1 l0_1.length c0_1] 24 (0, 0)) (.cells #[.slice A1 l1.length c1] 25 (0, 0)) (.cells #[.int .i64 a3] 3 (0, 0)) (.cells #[.slice A4 l4.length c4] 25 (0, 0)) (.cells #[.func (.func 120) #[] #[.pointer (some ⟨w.heap.size + 2, 0, none⟩), .pointer (some ⟨w.heap.size + 1, 0, none⟩), .pointer (some ⟨w.heap.size, 0, none⟩), .pointer (some ⟨w.heap.size + 5, 0, none⟩)]] 115 (0, 0)) (.cells #[.func (.func 118) #[] #[.pointer (some ⟨w.heap.size + 3, 0, none⟩), .pointer (some ⟨w.heap.size + 4, 0, none⟩)]] 116 (0, 0))
      have hs := hB.size
      rw [hCe]
      exact ⟨b0, b1, b2, b3, b4, b5, Kd.R_alloc (Kd.R_alloc (Kd.R_alloc (Kd.R_alloc (Kd.R_alloc (Kd.R_alloc hr4 _) _) _) _) _) _, (((((Kept.refl _ _).alloc _).alloc _).alloc _).alloc _).alloc _ |>.alloc _, (((((hB.alloc hs _).alloc (by simp; omega) _).alloc (by simp; omega) _).alloc (by simp; omega) _).alloc (by simp; omega) _).alloc (by simp; omega) _⟩
    have hon : ∀ X, C.St l4 X → Calls Try.prog 120 #[.int .i64 a2, .int .i64 (-1), .pointer (some ⟨w.heap.size + 2, 0, none⟩), .pointer (some ⟨w.heap.size + 1, 0, none⟩), .pointer (some ⟨w.heap.size, 0, none⟩), .pointer (some ⟨w.heap.size + 5, 0, none⟩)] X (C.Post X (r1, r2)) := by
      intro X hX
      have := on_calls C hC (by rw [hCe]; exact fun t ht => ⟨(hg t ht).1, (hg t ht).2.1, (hg t ht).2.2.2⟩) k l4 a2 (-1) (r1, r2) X (by rw [hCe]; exact fun t ht => (hg t ht).2.2.1) (by rw [hCe]; exact h) hX
      rw [hCe] at this ⊢
      exact this
    have hpost : ∀ X e Y, C.Post X (r1, r2) e Y → e = .returned (.bool r1) ∧ Kd.R (Kd.int .i64) 3 Y w0.heap.size (fun k_ => P4_ k_ ∧ k_ < w.heap.size) (.slice A4 l4.length c4) r2 ∧ Kept X Y (fun k_ => P4_ k_ ∧ k_ < w.heap.size) ∧ Below w0.heap.size w0 Y := by
      intro X e Y hP
      rw [hCe] at hP
      exact hP
    have HS := Lib.hid st0
    have HON := Lib.hid hon
    have HP := Lib.hid hpost
    clear hg h ho4 hr0_1 hr1 hB hC hCe hsub hr4 st0 hon hpost
    go_enter Try.func103, Try.ntmps103
    go_wp2_with (go_at_call 120; go_loud (refine (HON.out _ ?st).mono ?_; (case st => exact HS.out _ _ _ _ _ _ rfl rfl rfl rfl rfl rfl); intro e Y hp; obtain ⟨rfl, hr, hk, hb⟩ := HP.out _ _ _ hp; have R2 := Lib.hid hr; have K2 := Lib.hid hk; have B2 := Lib.hid hb; clear hp hr hk hb))
    go_ret
    refine ⟨rfl, Kd.R_mono R2.out (fun _ hk => Or.inl hk.1), B2.out, Kept.then_ ((((((Kept.refl w _).alloc _).alloc _).alloc _).alloc _).alloc _ |>.alloc _) K2.out (fun _ hk => Or.inl hk.1)⟩
  · cases h

end Go.Proofs.Ytdpgdelimffjpaa.P
