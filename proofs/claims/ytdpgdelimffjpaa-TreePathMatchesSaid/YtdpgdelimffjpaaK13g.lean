/- Texts of this claim, merged: the words that print.sh and the prover's driver wrote, and hand-proved contracts and lemmas, less what this claim does not name. Lean checks them. -/
import Derived.Test.YtdpgdelimffjpaaK13a
import Derived.Test.YtdpgdelimffjpaaK13b
import Derived.Test.YtdpgdelimffjpaaK13c
import Derived.Test.YtdpgdelimffjpaaK13d
import Derived.Test.YtdpgdelimffjpaaK13e
import Derived.Test.YtdpgdelimffjpaaK13f
namespace Go.Proofs.Ytdpgdelimffjpaa.P
open Go.RowKit Go.Proofs.YtdpgdelimffjpaaW.PrintWords Go.Proofs.YtdpgdelimffjpaaW.PrintLast Go.Proofs.YtdpgdelimffjpaaW.PrintMore
attribute [local go_sem] max2_int min2_int max_two min_two max_three min_three max_four min_four
set_option linter.unusedVariables false
set_option linter.unusedSimpArgs false
section
theorem islOf_lenC (f : Nat → Nat) (N n : Nat) : (islOf f N n).length = n := by simp [islOf]
theorem rd_islOfC (f : Nat → Nat) (N n x : Nat) (hx : x < n) : rd (islOf f N n) (x : Int) = isl f N x := by
  rw [rd_nat _ x (by rw [islOf_lenC]; exact hx)]; simp [islOf]
theorem joinedR_in {N : Nat} {L : List S37} {out : List Int} (h : outsV (N : Int) L out = 0) {x y : Nat} (hx : x < N) (hy : y < N) : Ev (fun k => qr15Joined.f k (N : Int) L out (x : Int) (y : Int)) (decide (conn (edges L out) x y), 0) := by
  have hof := ofR_ok h
  rw [Int.toNat_natCast] at hof
  have hl := islOf_lenC (lab (edges L out)) N N
  refine Ev.bind hof (Ev.eq (G := fun _ => some (decide (conn (edges L out) x y), 0)) (fun k => ?_) (Ev.some_ _))
  rw [if_pos rfl, if_neg (by omega), if_neg (by omega), if_neg (by omega), if_neg (by omega), if_pos (by omega), if_pos (by simp only []; omega), if_pos (by omega), if_pos (by simp only []; omega)]
  rw [rd_islOfC _ _ _ _ hx, rd_islOfC _ _ _ _ hy]
  have e : (isl (lab (edges L out)) N x == isl (lab (edges L out)) N y) = decide (conn (edges L out) x y) := by
    rw [Bool.eq_iff_iff, beq_iff_eq, decide_eq_true_eq, isl_eq (lab_lb _) hx hy]; exact Iff.rfl
  rw [e]
/-- Joined and Connected are alike. -/
theorem joined_alike (b : Int) (L : List S37) (out : List Int) (x y : Int) (ho : out.length ≤ 1000000) : ∃ r e, island_Connected.f b L out x y = some (r, e) ∧ Ev (fun k => qr15Joined.f k b L out x y) (r, e) := by
  by_cases h : outsV b L out = 0
  · have hb := outs_bus h
    obtain ⟨N, rfl⟩ := Int.eq_ofNat_of_zero_le (show 0 ≤ b by omega)
    have hl : (labsOf (lab (edges L out)) N).length = N := labsOf_len _ _
    have hst := stands_ok h
    rw [Int.toNat_natCast] at hst
    by_cases hx : x < 0 ∨ x ≥ (N : Int) ∨ y < 0 ∨ y ≥ (N : Int)
    · refine ⟨false, 1, ?_, Ev.bind (ofR_ok h) (Ev.eq (G := fun _ => some (false, 1)) (fun k => ?_) (Ev.some_ _))⟩
      · rw [island_Connected.f, hst, Option.bind_some, if_pos rfl]
        simp only [hl]
        by_cases c1 : x < 0
        · rw [if_pos c1]
        rw [if_neg c1]
        by_cases c2 : x ≥ (N : Int)
        · rw [if_pos c2]
        rw [if_neg c2]
        by_cases c3 : y < 0
        · rw [if_pos c3]
        rw [if_neg c3, if_pos (by omega)]
      · rw [if_pos rfl]
        by_cases c1 : x < 0
        · rw [if_pos c1]
        rw [if_neg c1]
        by_cases c2 : x ≥ (N : Int)
        · rw [if_pos c2]
        rw [if_neg c2]
        by_cases c3 : y < 0
        · rw [if_pos c3]
        rw [if_neg c3, if_pos (by omega)]
    · obtain ⟨x, rfl⟩ := Int.eq_ofNat_of_zero_le (show 0 ≤ x by omega)
      obtain ⟨y, rfl⟩ := Int.eq_ofNat_of_zero_le (show 0 ≤ y by omega)
      have hx' : x < N := by omega
      have hy' : y < N := by omega
      refine ⟨decide (conn (edges L out) x y), 0, ?_, joinedR_in h hx' hy'⟩
      rw [island_Connected.f, hst, Option.bind_some, if_pos rfl, if_neg (by omega), if_neg (by simp only [hl]; omega), if_neg (by omega), if_neg (by simp only [hl]; omega), if_pos (by omega), if_pos (by simp only [hl]; omega), if_pos (by omega), if_pos (by simp only [hl]; omega)]
      rw [rd_labsOf _ _ _ hx', rd_labsOf _ _ _ hy']
      have e : (((lab (edges L out) x : Nat) : Int) == ((lab (edges L out) y : Nat) : Int)) = decide (conn (edges L out) x y) := by
        rw [Bool.eq_iff_iff, beq_iff_eq, decide_eq_true_eq]; unfold conn; omega
      rw [e]
  · refine ⟨false, outsV b L out, ?_, Ev.bind (ofR_bad ho h) (Ev.eq (G := fun _ => some (false, outsV b L out)) (fun k => if_neg h) (Ev.some_ _))⟩
    rw [island_Connected.f, stands_bad h, Option.bind_some, if_neg h]
end
theorem contains_ev (l : List Int) (x : Int) (hl : l.length ≤ 1000) : Ev (fun k => slices_Contains_int_int.f k l x) (decide (x ∈ l)) := by
  refine Ev.bind (index_f l x hl) (Ev.eq (G := fun _ => some (decide (x ∈ l))) (fun k => ?_) (Ev.some_ _))
  congr 1
  rw [decide_eq_decide]
  unfold idx
  by_cases h : x ∈ l
  · rw [if_pos h]; simp only [h, iff_true]; omega
  · rw [if_neg h]; simp only [h, iff_false]; omega
/-- The numbers below n that are not in l. -/
def coL (l : List Int) (n : Nat) : List Int := ((List.range n).filter (fun (k : Nat) => !l.contains (k : Int))).map (fun (k : Nat) => (k : Int))
theorem coL_succ (l : List Int) (n : Nat) : coL l (n + 1) = if (n : Int) ∈ l then coL l n else coL l n ++ [(n : Int)] := by
  unfold coL
  rw [List.range_succ, List.filter_append, List.map_append]
  by_cases h : (n : Int) ∈ l
  · rw [if_pos h]; simp [h]
  · rw [if_neg h]; simp [h]
theorem coL_len (l : List Int) (n : Nat) : (coL l n).length ≤ n := by
  unfold coL
  rw [List.length_map]
  have := List.length_filter_le (fun (k : Nat) => !l.contains (k : Int)) (List.range n)
  rwa [List.length_range] at this
theorem out_ev (b : Int) (L : List S37) (l : List Int) (hl : l.length ≤ 1000) (hL : L.length ≤ 1000) : Ev (fun k => tree_out.f k b L l) (inL L l) := by
  have key : ∀ m i, i + m = L.length → Ev (fun k => tree_out.l0 k l (coL l i) (L.length : Int) (i : Int)) (inL L l) := by
    intro m
    induction m with
    | zero =>
      intro i hi
      have : i = L.length := by omega
      subst this
      refine Ev.succ (G := fun _ => some (inL L l)) (fun k => ?_) (Ev.some_ _)
      rw [tree_out.l0, if_neg (by omega)]; rfl
    | succ m ih =>
      intro i hi
      have hlen := coL_len l i
      have h := ih (i + 1) (by omega)
      rw [coL_succ] at h
      refine Ev.succ (G := fun k => (slices_Contains_int_int.f k l (i : Int)).bind fun t524 => (if t524 = true then (tree_out.l0 k l (coL l i) (L.length : Int) (wrap64 ((i : Int) + 1))) else (if (coL l i).length < 17592186044416 then (tree_out.l0 k l (coL l i ++ [(i : Int)]) (L.length : Int) (wrap64 ((i : Int) + 1))) else (none)))) (fun k => by rw [tree_out.l0, if_pos (by omega)]) ?_
      refine Ev.bind (contains_ev l (i : Int) hl) ?_
      by_cases hm : (i : Int) ∈ l
      · rw [if_pos hm] at h
        refine Ev.eq (fun k => ?_) h
        rw [decide_eq_true hm, if_pos rfl, wrap_small (by omega) (by omega)]; rfl
      · rw [if_neg hm] at h
        refine Ev.eq (fun k => ?_) h
        rw [decide_eq_false hm, if_neg (by simp), if_pos (by omega), wrap_small (by omega) (by omega)]; rfl
  exact key L.length 0 (by omega)
theorem co_outs {b : Int} {L : List S37} (h : chk b L = 0) (l : List Int) : outsV b L (inL L l) = 0 := by
  rw [outsV, if_pos h, if_pos]
  rw [Bool.and_eq_true, decide_eq_true_eq]
  exact ⟨inL_rises L l, fun x hx => (mem_inL.1 hx).2.1⟩
theorem co_inn {L : List S37} {T : List Nat} (hT : ∀ k ∈ T, k < L.length) (k : Nat) : k ∈ inn L (inL L (castL T)) ↔ k ∈ T := by
  rw [mem_inn, mem_inL]
  have hc : (k : Int) ∈ castL T ↔ k ∈ T := by
    unfold castL; rw [List.mem_map]
    constructor
    · rintro ⟨j, hj, e⟩; rwa [show k = j by omega]
    · intro h; exact ⟨k, h, rfl⟩
  rw [hc]
  constructor
  · rintro ⟨h1, h2⟩
    by_cases hk : k ∈ T
    · exact hk
    · exact absurd ⟨by omega, by omega, hk⟩ h2
  · intro h; exact ⟨hT k h, fun h2 => h2.2.2 h⟩
theorem co_conn {L : List S37} {T : List Nat} (hT : ∀ k ∈ T, k < L.length) {x y : Nat} : conn (edges L (inL L (castL T))) x y ↔ cn (enL L) T x y :=
  cn_congr (en := enL L) (T := inn L (inL L (castL T))) (T' := T) (co_inn hT)
theorem conn_f' {N : Nat} {L : List S37} {out : List Int} (h : outsV (N : Int) L out = 0) {x y : Nat} (hx : x < N) (hy : y < N) : island_Connected.f (N : Int) L out (x : Int) (y : Int) = some (decide (conn (edges L out) x y), 0) := by
  have hl : (labsOf (lab (edges L out)) N).length = N := labsOf_len _ _
  rw [island_Connected.f, stands_ok h, Option.bind_some, if_pos rfl, Int.toNat_natCast, if_neg (by omega), if_neg (by rw [hl]; omega), if_neg (by omega), if_neg (by rw [hl]; omega), if_pos (by omega), if_pos (by rw [hl]; omega), if_pos (by omega), if_pos (by rw [hl]; omega), rd_labsOf _ _ _ hx, rd_labsOf _ _ _ hy]
  have e : (((lab (edges L out) x : Nat) : Int) == ((lab (edges L out) y : Nat) : Int)) = decide (conn (edges L out) x y) := by
    rw [Bool.eq_iff_iff, beq_iff_eq, decide_eq_true_eq]; unfold conn; omega
  rw [e]
/-- The spanning forest's lines. -/
def trL (L : List S37) (out : List Int) : List Nat := tr (enL L) (inn L out)
theorem trL_lt (L : List S37) (out : List Int) : ∀ k ∈ trL L out, k < L.length := fun k hk => (mem_inn.1 (tr_sub _ k hk)).1
theorem inn_nodup (L : List S37) (out : List Int) : (inn L out).Nodup := List.Pairwise.filter _ List.nodup_range
theorem trL_fo (L : List S37) (out : List Int) : Fo (enL L) (trL L out) := tr_fo _ (inn_nodup L out)
theorem trL_sorted (L : List S37) (out : List Int) : (trL L out).Pairwise (· < ·) := tr_sorted _ (inn_sorted L out)
theorem sub_len {T ks : List Nat} (h1 : T.Pairwise (· < ·)) {n : Nat} (h : ∀ k ∈ T, k < n) : T.length ≤ n := by
  have hr := cast_rises h1
  have := rises_len (m := (n : Int)) hr (fun x hx => by obtain ⟨k, hk, rfl⟩ := List.mem_map.1 hx; have := h k hk; omega) (by omega)
  rw [List.length_map] at this
  omega
theorem trL_len (L : List S37) (out : List Int) : (trL L out).length ≤ L.length := sub_len (ks := []) (trL_sorted L out) (trL_lt L out)
theorem castL_len (T : List Nat) : (castL T).length = T.length := by simp [castL]
theorem good_of {b : Int} {L : List S37} (h : chk b L = 0) {T : List Nat} (hT : ∀ k ∈ T, k < L.length) : GoodL L T := by
  refine ⟨hT, fun k hk => ?_, fun k hk => ?_, fun k hk => ?_⟩
  all_goals (obtain ⟨u, v, hu, hv, _, _, huv, he⟩ := line_ok h (hT k hk); rw [he])
  · exact hu
  · exact hv
  · exact huv
theorem tree_ok {b : Int} {L : List S37} {out : List Int} (h : outsV b L out = 0) : Ev (fun k => tree_Tree.f k b L out) (castL (trL L out), 0) := by
  have hb := outs_bus h
  have hc := (outsV_ok h).1
  obtain ⟨N, rfl⟩ := Int.eq_ofNat_of_zero_le (show 0 ≤ b by omega)
  have hil := inn_len L out
  have hll := inL_len L out
  have key : ∀ m i, i + m = (inn L out).length → Ev (fun k => tree_Tree.l0 k (castL (tr (enL L) ((inn L out).take i))) 0 (inL L out) ((inL L out).length : Int) (i : Int) (N : Int) L) (castL (trL L out), 0) := by
    intro m
    induction m with
    | zero =>
      intro i hi
      refine Ev.succ (G := fun _ => some (castL (trL L out), 0)) (fun k => ?_) (Ev.some_ _)
      rw [tree_Tree.l0, if_neg (by omega), List.take_of_length_le (by omega)]; rfl
    | succ m ih =>
      intro i hi
      have hii : i < (inn L out).length := by omega
      obtain ⟨t, ht⟩ : ∃ t, t = (inn L out)[i] := ⟨_, rfl⟩
      have htl : t < L.length := (mem_inn.1 (show t ∈ inn L out by rw [ht]; exact List.getElem_mem hii)).1
      obtain ⟨u, v, hu, hv, huN, hvN, _, hen⟩ := line_ok hc htl
      have hrd : rd (inL L out) (i : Int) = (t : Int) := by rw [rd_nat _ i (by omega), ht]; simp [inL]
      have h2 := ih (i + 1) (by omega)
      rw [List.take_succ_eq_append_getElem hii, ← ht, tr_snoc, trStep] at h2
      obtain ⟨T, hT⟩ : ∃ T, T = tr (enL L) ((inn L out).take i) := ⟨_, rfl⟩
      rw [← hT] at h2 ⊢
      have hTl : ∀ k ∈ T, k < L.length := fun k hk => (mem_inn.1 (List.mem_of_mem_take (tr_sub _ k (by rw [← hT]; exact hk)))).1
      have hTs : T.Pairwise (· < ·) := by rw [hT]; exact tr_sorted _ (List.Pairwise.sublist (List.take_sublist _ _) (inn_sorted L out))
      have hTn := sub_len (ks := []) hTs hTl
      have hcl := castL_len T
      refine Ev.succ (G := fun k => (tree_out.f k (N : Int) L (castL T)).bind fun t534 => (if 0 ≤ (t : Int) then (if (t : Int) < (L.length : Int) then ((island_Connected.f (N : Int) L t534 (u : Int) (v : Int)).bind fun bt539 => (if bt539.1 = true then (tree_Tree.l0 k (castL T) 0 (inL L out) ((inL L out).length : Int) ((i + 1 : Nat) : Int) (N : Int) L) else (if (castL T).length < 17592186044416 then (tree_Tree.l0 k (castL T ++ [(t : Int)]) 0 (inL L out) ((inL L out).length : Int) ((i + 1 : Nat) : Int) (N : Int) L) else (none)))) else (none)) else (none))) (fun k => ?_) ?_
      · rw [tree_Tree.l0, if_pos (by omega), if_pos (by omega), if_pos (by omega), hrd, hu, hv, wrap_small (by omega) (by omega)]; rfl
      · refine Ev.bind (out_ev (N : Int) L (castL T) (by omega) (by omega)) ?_
        have hcf := conn_f' (co_outs hc (castL T)) (show u < N by omega) (show v < N by omega)
        have hcn : conn (edges L (inL L (castL T))) u v ↔ cn (enL L) T (enL L t).1 (enL L t).2 := by rw [hen]; exact co_conn hTl
        by_cases hx : cn (enL L) T (enL L t).1 (enL L t).2
        · rw [if_pos hx] at h2
          refine Ev.eq (fun k => ?_) h2
          rw [if_pos (by omega), if_pos (by omega), hcf, Option.bind_some, decide_eq_true (hcn.2 hx), if_pos rfl]
        · rw [if_neg hx] at h2
          refine Ev.eq (fun k => ?_) h2
          rw [if_pos (by omega), if_pos (by omega), hcf, Option.bind_some, decide_eq_false (fun h => hx (hcn.1 h)), if_neg (by simp), if_pos (by omega)]
          simp [castL]
  refine Ev.eq (fun k => ?_) (key (inn L out).length 0 (by omega))
  rw [tree_Tree.f, in_ok h, Option.bind_some]; rfl
/-- The search in a forest. -/
theorem walk_ev {b : Int} {L : List S37} (h : chk b L = 0) {T : List Nat} (hF : Fo (enL L) T) (hT : ∀ k ∈ T, k < L.length) (a c : Nat) : Ev (fun k => tree_walk.f k b L (castL T) (a : Int) (c : Int) (List.replicate L.length 0)) (decide (cn (enL L) T a c), if cn (enL L) T a c then wayOf L T a c else List.replicate L.length 0) := by
  have hG := good_of h hT
  refine ⟨T.length + 1, fun k hk => ?_⟩
  obtain ⟨r, hr, hx⟩ := on_all hF hG a c (fuel := k) (by omega)
  show tree_walk.f k b L (castL T) (a : Int) (c : Int) (List.replicate L.length 0) = _
  unfold tree_walk.f
  rw [if_pos, hr]
  · by_cases hc : cn (enL L) T a c
    · obtain rfl := hx.2 hc
      rw [if_pos rfl, if_pos hc, decide_eq_true hc]
    · have : r = false := by
        cases r with
        | false => rfl
        | true => exact absurd (hx.1 rfl) hc
      subst this
      rw [if_neg (by simp), if_neg hc, decide_eq_false hc]
  · intro t ht
    obtain ⟨k, hk, rfl⟩ := List.mem_map.1 ht
    have h1 := hT k hk
    refine ⟨by omega, by omega, by rw [List.length_replicate]; omega, ?_⟩
    rw [hG.f0 k hk, hG.f1 k hk]
    have := hG.ne k hk
    omega
/-- The cycle of a line outside the forest. -/
def cyc1 (L : List S37) (out : List Int) (c : Nat) : List Int := (wayOf L (trL L out) (enL L c).2 (enL L c).1).set c 1
def offL (L : List S37) (out : List Int) : List Nat := (inn L out).filter (fun c => !(trL L out).contains c)
def cycL (L : List S37) (out : List Int) : List (List Int) := (offL L out).map (cyc1 L out)
/-- The bridges. -/
def brL (L : List S37) (out : List Int) : List Nat := (trL L out).filter (fun j => !(cycL L out).any (usesW (j : Int)))
section
theorem othersR_ev (b : Int) (L : List S37) (l : List Int) (hl : l.length ≤ 1000000) (hL : L.length ≤ 1000000) : Ev (fun k => qr16others.f k b L l) (inL L l) := by
  refine Ev.upto L.length (fun k i => qr16others.l0 k l (coN l i) (i : Int) b L) ?_ fun i hi h => ?_
  · refine Ev.succ (G := fun _ => some (coN l L.length)) (fun k => ?_) (Ev.some_ _)
    rw [qr16others.l0, if_neg (by omega)]
  · have hc := coN_len l i
    have hs := coN_succ l i
    refine Ev.succ (G := fun k => (qr14Has.f k l (i : Int)).bind fun t => (if t = true then (qr16others.l0 k l (coN l i) (wrap64 ((i : Int) + 1)) b L) else (if (coN l i).length < 17592186044416 then (qr16others.l0 k l (coN l i ++ [(i : Int)]) (wrap64 ((i : Int) + 1)) b L) else (none)))) (fun k => ?_) ?_
    · rw [qr16others.l0, if_pos (by omega)]
    · refine Ev.bind (hasR_ev l (i : Int) hl) (Ev.eq (fun k => ?_) h)
      rw [wrap_succ (by omega)]
      by_cases hm : (i : Int) ∈ l
      · rw [decide_eq_true hm, if_pos rfl, hs, if_pos hm]
      · rw [decide_eq_false hm, if_neg (by simp), if_pos (by omega), hs, if_neg hm]
theorem joinedT_ev {N : Nat} {L : List S37} (hc : chk (N : Int) L = 0) {T : List Nat} (hT : ∀ k ∈ T, k < L.length) (hTl : T.length ≤ 1000000) {u v : Nat} (hu : u < N) (hv : v < N) : Ev (fun k => qr16joined.f k (N : Int) L (castL T) (u : Int) (v : Int)) (decide (cn (enL L) T u v)) := by
  have hb := chk_ok hc
  have hj := joinedR_in (co_outs hc (castL T)) hu hv
  have e : decide (conn (edges L (inL L (castL T))) u v) = decide (cn (enL L) T u v) := decide_eq_decide.2 (co_conn hT)
  rw [e] at hj
  exact Ev.bind (othersR_ev _ _ _ (by rw [castL_len]; exact hTl) (by have := hb.2.2.1; omega)) (Ev.bind hj (Ev.some_ _))
theorem rd_castL {T : List Nat} {i : Nat} (h : i < T.length) : rd (castL T) (i : Int) = ((T[i] : Nat) : Int) := by
  rw [rd_nat _ i (by rw [castL_len]; exact h)]; simp [castL]
theorem castL_snoc (T : List Nat) (k : Nat) : castL (T ++ [k]) = castL T ++ [(k : Int)] := by simp [castL]
theorem take_succ' {T : List Nat} {i : Nat} (h : i < T.length) : T.take (i + 1) = T.take i ++ [T[i]] := List.take_succ_eq_append_getElem h
theorem less_snoc (A : List Nat) (x j : Nat) : less (A ++ [x]) j = if x = j then less A j else less A j ++ [x] := by
  unfold less
  rw [List.filter_append]
  by_cases h : x = j
  · rw [if_pos h]; simp [h]
  · rw [if_neg h]; simp [h]
theorem withoutR_ev (T : List Nat) (j : Nat) (hT : T.length ≤ 1000000) : Ev (fun k => qr16without.f k (castL T) (j : Int)) (castL (less T j)) := by
  have hl := castL_len T
  refine Ev.upto T.length (fun k i => qr16without.l0 k (castL T) (j : Int) (castL (less (T.take i) j)) (i : Int)) ?_ fun i hi h => ?_
  · refine Ev.succ (G := fun _ => some (castL (less T j))) (fun k => ?_) (Ev.some_ _)
    rw [qr16without.l0, if_neg (by omega), List.take_of_length_le (Nat.le_refl _)]
  · have h2 : (castL (less (T.take i) j)).length ≤ 1000000 := by
      rw [castL_len]
      have := List.length_filter_le (fun d => d != j) (T.take i)
      have h3 : (T.take i).length ≤ T.length := by rw [List.length_take]; omega
      unfold less; omega
    rw [take_succ' hi] at h
    refine Ev.succ (fun k => ?_) h
    rw [qr16without.l0, if_pos (by omega), if_pos (by omega), rd_castL hi, wrap_succ (by omega)]
    by_cases c : T[i] = j
    · rw [if_pos (by omega), less_snoc, if_pos c]
    · rw [if_neg (by omega), if_pos (by omega), less_snoc, if_neg c, castL_snoc]
theorem treeR_ok {b : Int} {L : List S37} {out : List Int} (h : outsV b L out = 0) : Ev (fun k => qr16Tree.f k b L out) (castL (trL L out), 0) := by
  have hb := outs_bus h
  have hol := outsV_len h
  have hc := (outsV_ok h).1
  obtain ⟨N, rfl⟩ := Int.eq_ofNat_of_zero_le (show 0 ≤ b by omega)
  have hil := inL_len L out
  have hil2 := inn_len L out
  have ho := outsR_ev (N : Int) L out (by omega)
  rw [h] at ho
  refine Ev.bind ho (Ev.eq (fun k => if_pos rfl) (Ev.bind (inR_ev _ _ _ (by omega) (by omega)) ?_))
  refine Ev.upto (inn L out).length (fun k i => qr16Tree.l0 k (castL (tr (enL L) ((inn L out).take i))) (inL L out) (i : Int) (N : Int) L) ?_ fun i hi hnext => ?_
  · refine Ev.succ (G := fun _ => some (castL (trL L out), 0)) (fun k => ?_) (Ev.some_ _)
    rw [qr16Tree.l0, if_neg (by omega), List.take_of_length_le (Nat.le_refl _)]; rfl
  · obtain ⟨t, u, v, h1, h2, h3, h4, h5, h6, _, _, h9, h10⟩ := in_line h hi
    rw [take_succ' hi, ← h9, tr_snoc, trStep] at hnext
    obtain ⟨T, hT⟩ : ∃ T, T = tr (enL L) ((inn L out).take i) := ⟨_, rfl⟩
    rw [← hT] at hnext ⊢
    have hTl : ∀ k ∈ T, k < L.length := fun k hk => (mem_inn.1 (List.mem_of_mem_take (tr_sub _ k (by rw [← hT]; exact hk)))).1
    have hTs : T.Pairwise (· < ·) := by rw [hT]; exact tr_sorted _ (List.Pairwise.sublist (List.take_sublist _ _) (inn_sorted L out))
    have hTn := sub_len (ks := []) hTs hTl
    have hcl := castL_len T
    refine Ev.succ (G := fun k => (qr16joined.f k (N : Int) L (castL T) (u : Int) (v : Int)).bind fun t676 => (if t676 = true then (qr16Tree.l0 k (castL T) (inL L out) ((i + 1 : Nat) : Int) (N : Int) L) else (if (castL T).length < 17592186044416 then (qr16Tree.l0 k (castL T ++ [(t : Int)]) (inL L out) ((i + 1 : Nat) : Int) (N : Int) L) else (none)))) (fun k => ?_) ?_
    · rw [qr16Tree.l0, if_pos (by omega), if_pos (by omega), h1, if_pos (by omega), if_pos (by omega), h3, h4, wrap_succ (by omega)]
    · refine Ev.bind (joinedT_ev hc hTl (by omega) h5 h6) (Ev.eq (fun k => ?_) hnext)
      rw [h10]
      by_cases hx : cn (enL L) T u v
      · rw [decide_eq_true hx, if_pos rfl, if_pos hx]
      · rw [decide_eq_false hx, if_neg (by simp), if_pos (by omega), if_neg hx, castL_snoc]
theorem treeR_bad {b : Int} {L : List S37} {out : List Int} (ho : out.length ≤ 1000000) (h : outsV b L out ≠ 0) : Ev (fun k => qr16Tree.f k b L out) ([], outsV b L out) :=
  Ev.bind (outsR_ev _ _ _ ho) (Ev.eq (G := fun _ => some ([], outsV b L out)) (fun k => if_neg h) (Ev.some_ _))
/-- What the document's way says of one line of the forest. -/
theorem W_way {en : Nat → Nat × Nat} {T : List Nat} (hF : Fo en T) {t a c : Nat} (ht : t ∈ T) (h : cn en T a c) : W en T a c t = if cn en (less T t) a c then 0 else if cn en (less T t) a (en t).1 then 1 else -1 := by
  by_cases h0 : cn en (less T t) a c
  · rw [if_pos h0]
    have := (W_ne hF ht h)
    by_cases hz : W en T a c t = 0
    · exact hz
    · exact absurd h0 (this.1 hz)
  · rw [if_neg h0, W, if_pos ht]
    rcases (cn_less ht).1 h with h1 | ⟨h1, h2⟩ | ⟨h1, h2⟩
    · exact absurd h1 h0
    · rw [if_pos h1, b2i_pos h1, b2i_neg (p := cn en (less T t) c (en t).1) (fun h3 => h0 (h1.trans h3.symm))]; rfl
    · rw [b2i_pos (p := cn en (less T t) c (en t).1) h2.symm, b2i_neg (p := cn en (less T t) a (en t).1) (fun h3 => h0 (h3.trans h2)), if_neg (fun h3 => h0 (h3.trans h2))]; rfl
def wayPart (L : List S37) (T : List Nat) (a c : Nat) (i : Nat) : List Int := (List.range L.length).map (fun t => if t ∈ T.take i then W (enL L) T a c t else 0)
theorem wayPart_len (L : List S37) (T : List Nat) (a c i : Nat) : (wayPart L T a c i).length = L.length := by simp [wayPart]
theorem wayPart_zero (L : List S37) (T : List Nat) (a c : Nat) : List.replicate L.length (0 : Int) = wayPart L T a c 0 := by
  unfold wayPart
  apply List.ext_getElem
  · simp
  · intro i h1 h2; simp
theorem wayPart_all (L : List S37) (T : List Nat) (a c : Nat) : wayPart L T a c T.length = wayOf L T a c := by
  unfold wayPart wayOf
  refine List.map_congr_left fun t _ => ?_
  rw [List.take_of_length_le (Nat.le_refl _)]
  by_cases h : t ∈ T
  · rw [if_pos h]
  · rw [if_neg h, W, if_neg h]
theorem wayPart_set {L : List S37} {T : List Nat} {a c i : Nat} (hn : T.Nodup) (hi : i < T.length) : (wayPart L T a c i).set T[i] (W (enL L) T a c T[i]) = wayPart L T a c (i + 1) := by
  unfold wayPart
  apply List.ext_getElem
  · simp
  · intro j h1 h2
    rw [List.getElem_set, List.getElem_map, List.getElem_map, List.getElem_range, take_succ' hi]
    by_cases h : T[i] = j
    · subst h; rw [if_pos rfl, if_pos (List.mem_append_right _ (List.mem_singleton_self _))]
    · rw [if_neg h]
      by_cases h3 : j ∈ T.take i
      · rw [if_pos h3, if_pos (List.mem_append_left _ h3)]
      · rw [if_neg h3, if_neg]
        rw [List.mem_append, List.mem_singleton]
        rintro (h4 | h4)
        · exact h3 h4
        · exact h h4.symm
theorem wayPart_keep {L : List S37} {T : List Nat} {a c i : Nat} (hn : T.Nodup) (hi : i < T.length) (h0 : W (enL L) T a c T[i] = 0) : wayPart L T a c i = wayPart L T a c (i + 1) := by
  unfold wayPart
  refine List.map_congr_left fun t _ => ?_
  rw [take_succ' hi]
  by_cases h3 : t ∈ T.take i
  · rw [if_pos h3, if_pos (List.mem_append_left _ h3)]
  · rw [if_neg h3]
    by_cases h4 : t = T[i]
    · subst h4; rw [if_pos (List.mem_append_right _ (List.mem_singleton_self _)), h0]
    · rw [if_neg]
      rw [List.mem_append, List.mem_singleton]
      rintro (h5 | h5)
      · exact h3 h5
      · exact h4 h5
theorem wayR_ev {N : Nat} {L : List S37} (hc : chk (N : Int) L = 0) {T : List Nat} (hF : Fo (enL L) T) (hT : ∀ k ∈ T, k < L.length) (hTl : T.length ≤ 1000) {a c : Nat} (ha : a < N) (hcN : c < N) (h : cn (enL L) T a c) : Ev (fun k => qr16way.f k (N : Int) L (castL T) (a : Int) (c : Int)) (wayOf L T a c) := by
  have hb := chk_ok hc
  have hcl := castL_len T
  have hL := hb.2.2.1
  have hloop : Ev (fun k => qr16way.l0 k (castL T) (a : Int) (c : Int) (List.replicate L.length 0) 0 (N : Int) L) (wayOf L T a c) := by
    rw [wayPart_zero L T a c]
    refine Ev.upto T.length (fun k i => qr16way.l0 k (castL T) (a : Int) (c : Int) (wayPart L T a c i) (i : Int) (N : Int) L) ?_ fun i hi hnext => ?_
    · refine Ev.succ (G := fun _ => some (wayOf L T a c)) (fun k => ?_) (Ev.some_ _)
      rw [qr16way.l0, if_neg (by omega), wayPart_all]
    · have hm := List.getElem_mem hi
      have hset := wayPart_set (L := L) (a := a) (c := c) hF.nodup hi
      have hkeep := wayPart_keep (L := L) (a := a) (c := c) hF.nodup hi
      have hW := W_way hF hm h
      have hwl := wayPart_len L T a c i
      have hrd := rd_castL hi
      obtain ⟨t, ht⟩ : ∃ t, t = T[i] := ⟨_, rfl⟩
      rw [← ht] at hm hset hkeep hW hrd
      have htl := hT t hm
      obtain ⟨u, v, h0, h1, h2, h3, h4, h5⟩ := line_ok hc htl
      rw [h5] at hW
      have hsub : ∀ k ∈ less T t, k < L.length := fun k hk => hT k (mem_less.1 hk).1
      have hsl : (less T t).length ≤ 1000000 := by have := List.length_filter_le (fun d => d != t) T; unfold less; omega
      refine Ev.succ (G := fun k => (qr16without.f k (castL T) (t : Int)).bind fun t686 => ((qr16joined.f k (N : Int) L t686 (a : Int) (c : Int)).bind fun t689 => (if t689 = true then (qr16way.l0 k (castL T) (a : Int) (c : Int) (wayPart L T a c i) ((i + 1 : Nat) : Int) (N : Int) L) else ((qr16joined.f k (N : Int) L t686 (a : Int) (u : Int)).bind fun t692 => (if t692 = true then (qr16way.l0 k (castL T) (a : Int) (c : Int) ((wayPart L T a c i).set t 1) ((i + 1 : Nat) : Int) (N : Int) L) else (qr16way.l0 k (castL T) (a : Int) (c : Int) ((wayPart L T a c i).set t (-1)) ((i + 1 : Nat) : Int) (N : Int) L)))))) (fun k => ?_) ?_
      · rw [qr16way.l0, if_pos (by omega), if_pos (by omega), hrd, wrap_succ (by omega)]
        simp only [h0, Int.toNat_natCast, if_pos (show (0 : Int) ≤ (t : Int) by omega), if_pos (show (t : Int) < (L.length : Int) by omega), if_pos (show (t : Int) < ((wayPart L T a c i).length : Int) by omega)]
      · refine Ev.bind (withoutR_ev T t (by omega)) (Ev.bind (joinedT_ev hc hsub hsl ha hcN) ?_)
        by_cases c1 : cn (enL L) (less T t) a c
        · rw [decide_eq_true c1]
          rw [if_pos c1] at hW
          rw [hkeep hW]
          exact Ev.eq (fun k => if_pos rfl) hnext
        · rw [decide_eq_false c1]
          rw [if_neg c1] at hW
          refine Ev.eq (fun k => if_neg (by simp)) (Ev.bind (joinedT_ev hc hsub hsl ha (by omega)) ?_)
          by_cases c2 : cn (enL L) (less T t) a u
          · rw [decide_eq_true c2]
            rw [if_pos c2] at hW
            rw [hW] at hset
            rw [hset]
            exact Ev.eq (fun k => if_pos rfl) hnext
          · rw [decide_eq_false c2]
            rw [if_neg c2] at hW
            rw [hW] at hset
            rw [hset]
            exact Ev.eq (fun k => if_neg (by simp)) hnext
  refine Ev.eq (fun k => ?_) hloop
  rw [qr16way.f, if_pos (by omega), if_pos (by omega), Int.toNat_natCast]
end
section
/-- Path and the document's Way are alike. -/
theorem path_alike (b : Int) (L : List S37) (out : List Int) (x y : Int) (ho : out.length ≤ 1000000) : ∃ r e, Ev (fun k => tree_Path.f k b L out x y) (r, e) ∧ Ev (fun k => qr16Way.f k b L out x y) (r, e) ∧ (r.length ≤ L.length) := by
  obtain ⟨q, e, hc, hj⟩ := joined_alike b L out x y ho
  by_cases h : outsV b L out = 0
  · have hb := outs_bus h
    have htr := treeR_ok h
    have htt := tree_ok h
    have hck := (outsV_ok h).1
    by_cases he : e = 0
    · subst he
      have hj1 : Ev (fun k => qr16Way.f k b L out x y) (if q = true then (if cn (enL L) (trL L out) x.toNat y.toNat then wayOf L (trL L out) x.toNat y.toNat else []) else [], if q = true then 0 else 8) ∧ Ev (fun k => tree_Path.f k b L out x y) (if q = true then (if cn (enL L) (trL L out) x.toNat y.toNat then wayOf L (trL L out) x.toNat y.toNat else []) else [], if q = true then 0 else 8) := by
        cases q with
        | false =>
          refine ⟨Ev.bind htr (Ev.eq (fun k => if_pos rfl) (Ev.bind hj (Ev.eq (G := fun _ => some ([], 8)) (fun k => by rw [if_pos rfl, if_neg (by simp)]) (Ev.some_ _)))), ?_⟩
          refine Ev.eq (G := fun _ => some ([], 8)) (fun k => ?_) (Ev.some_ _)
          rw [tree_Path.f, hc, Option.bind_some, if_pos rfl, if_neg (by simp)]
        | true =>
          obtain ⟨N, rfl⟩ := Int.eq_ofNat_of_zero_le (show 0 ≤ b by omega)
          have hl : (labsOf (lab (edges L out)) N).length = N := labsOf_len _ _
          have hst := stands_ok h
          rw [Int.toNat_natCast] at hst
          have hc2 := hc
          rw [island_Connected.f, hst, Option.bind_some, if_pos rfl] at hc2
          simp only [hl] at hc2
          by_cases c1 : x < 0
          · rw [if_pos c1] at hc2; simp at hc2
          rw [if_neg c1] at hc2
          by_cases c2 : x ≥ (N : Int)
          · rw [if_pos c2] at hc2; simp at hc2
          rw [if_neg c2] at hc2
          by_cases c3 : y < 0
          · rw [if_pos c3] at hc2; simp at hc2
          rw [if_neg c3] at hc2
          by_cases c4 : y ≥ (N : Int)
          · rw [if_pos c4] at hc2; simp at hc2
          obtain ⟨a, rfl⟩ := Int.eq_ofNat_of_zero_le (show 0 ≤ x by omega)
          obtain ⟨c, rfl⟩ := Int.eq_ofNat_of_zero_le (show 0 ≤ y by omega)
          have ha : a < N := by omega
          have hcN : c < N := by omega
          have hcf := conn_f' h ha hcN
          rw [hc] at hcf
          have hcn : conn (edges L out) a c := by
            have := congrArg Prod.fst (Option.some.inj hcf)
            exact of_decide_eq_true this.symm
          have hcT : cn (enL L) (trL L out) a c := (tr_cn (inn L out) a c).2 hcn
          simp only [Int.toNat_natCast]
          simp only [if_true, if_pos hcT]
          have htl := trL_len L out
          constructor
          · refine Ev.bind htr (Ev.eq (fun k => if_pos rfl) (Ev.bind hj (Ev.eq (fun k => by rw [if_pos rfl, if_pos rfl]) (Ev.bind (wayR_ev hck (trL_fo L out) (trL_lt L out) (by omega) ha hcN hcT) (Ev.some_ _)))))
          · have hwalk := walk_ev hck (trL_fo L out) (trL_lt L out) a c
            rw [decide_eq_true hcT, if_pos hcT] at hwalk
            refine Ev.eq (G := fun k => (tree_Tree.f k (N : Int) L out).bind fun bt569 => ((tree_walk.f k (N : Int) L bt569.1 (a : Int) (c : Int) (List.replicate L.length 0)).bind fun bt576 => (some (bt576.2, 0)))) (fun k => ?_) (Ev.bind htt (Ev.bind hwalk (Ev.some_ _)))
            rw [tree_Path.f, hc, Option.bind_some, if_pos rfl, if_pos rfl]
            have q1 : (0 : Int) ≤ (L.length : Int) := by omega
            have q2 : L.length ≤ 35184372088832 := by omega
            simp only [if_pos q1, Int.toNat_natCast, if_pos q2]
      refine ⟨_, _, hj1.2, hj1.1, ?_⟩
      split
      · split
        · rw [wayOf_len]; exact Nat.le_refl _
        · simp
      · simp
    · refine ⟨[], e, Ev.eq (G := fun _ => some ([], e)) (fun k => ?_) (Ev.some_ _), Ev.bind htr (Ev.eq (fun k => if_pos rfl) (Ev.bind hj (Ev.eq (G := fun _ => some ([], e)) (fun k => if_neg he) (Ev.some_ _)))), by simp⟩
      rw [tree_Path.f, hc, Option.bind_some, if_neg he]
  · refine ⟨[], outsV b L out, Ev.eq (G := fun _ => some ([], outsV b L out)) (fun k => ?_) (Ev.some_ _), Ev.bind (treeR_bad ho h) (Ev.eq (G := fun _ => some ([], outsV b L out)) (fun k => if_neg h) (Ev.some_ _)), by simp⟩
    have hc2 : island_Connected.f b L out x y = some (false, outsV b L out) := by rw [island_Connected.f, stands_bad h, Option.bind_some, if_neg h]
    rw [tree_Path.f, hc2, Option.bind_some, if_neg h]
end
theorem TreePathMatches_true (b : Int) (L : List S37) (l1 : List Int) (x y : Int) : ∃ k, ql16TreePathMatches.f k b L l1 x y = some true := by
  apply Ev.tell
  obtain ⟨r, hr, hx⟩ := long_f b L [l1] (by simp)
  have haw : Ev (fun _ : Nat => (ql16awake.f).bind fun t => (some t)) true := Ev.some_ _
  refine Ev.bind hr ?_
  cases r with
  | true => exact haw
  | false =>
    obtain ⟨hL, hl⟩ := hx rfl
    have h1 : l1.length ≤ 100 := hl l1 (by simp)
    obtain ⟨w, e, hp, hw, hwl⟩ := path_alike b L l1 x y (by omega)
    refine Ev.eq (fun k => if_neg (by simp)) (Ev.bind hw ?_)
    have s1 := ints_ev w w (by omega)
    rw [decide_eq_true rfl] at s1
    refine Ev.upto 2 (fun k i => ql16TreePathMatches.l0 k l1 x y w e (i : Int) b L) ?_ fun i hi hnext => ?_
    · refine Ev.succ (G := fun _ : Nat => (ql16awake.f).bind fun t => (some t)) (fun k => ?_) haw
      rw [ql16TreePathMatches.l0, if_neg (by omega)]
    · refine Ev.succ (fun k => by rw [ql16TreePathMatches.l0, if_pos (by omega)]) (Ev.bind hp (Ev.eq (fun k => if_pos rfl) (Ev.bind s1 (Ev.eq (fun k => ?_) hnext))))
      rw [if_pos rfl, wrap_succ (by omega)]; rfl
end Go.Proofs.Ytdpgdelimffjpaa.P
