/- Texts of this claim, merged: the words that print.sh and the prover's driver wrote, and hand-proved contracts and lemmas, less what this claim does not name. Lean checks them. -/
import Derived.Outline
import Derived.Lib.Hide
import Derived.Test.YtdpgdelimffjpaaK11a
import Derived.Test.YtdpgdelimffjpaaK11b
import Derived.Test.YtdpgdelimffjpaaK11c
import Derived.Test.YtdpgdelimffjpaaK11d
import Derived.Test.YtdpgdelimffjpaaK11e
import Derived.Test.YtdpgdelimffjpaaK11f
namespace Go.Proofs.Ytdpgdelimffjpaa.P
open Go.RowKit Go.Proofs.YtdpgdelimffjpaaW.PrintWords Go.Proofs.YtdpgdelimffjpaaW.PrintLast Go.Proofs.YtdpgdelimffjpaaW.PrintMore
attribute [local go_sem] max2_int min2_int max_two min_two max_three min_three max_four min_four
set_option linter.unusedVariables false
set_option linter.unusedSimpArgs false
theorem contains_ev (l : List Int) (x : Int) (hl : l.length ≤ 1000) : Ev (fun k => sContains.f k l x) (decide (x ∈ l)) := by
  refine Ev.bind (index_f l x hl) (Ev.eq (G := fun _ => some (decide (x ∈ l))) (fun k => ?_) (Ev.some_ _))
  congr 1
  rw [decide_eq_decide]
  unfold idx
  by_cases h : x ∈ l
  · rw [if_pos h]; simp only [h, iff_true]; omega
  · rw [if_neg h]; simp only [h, iff_false]; omega
def coL (l : List Int) (n : Nat) : List Int := ((List.range n).filter (fun (k : Nat) => !l.contains (k : Int))).map (fun (k : Nat) => (k : Int))
theorem coL_succ (l : List Int) (n : Nat) : coL l (n + 1) = if (n : Int) ∈ l then coL l n else coL l n ++ [(n : Int)] := by
  unfold coL
  rw [List.range_succ, List.filter_append, List.map_append]
  by_cases h : (n : Int) ∈ l
  · rw [if_pos h]; simp [h]
  · rw [if_neg h]; simp [h]
theorem coL_len (l : List Int) (n : Nat) : (coL l n).length ≤ n := by
  unfold coL
  rw [List.length_map]
  have := List.length_filter_le (fun (k : Nat) => !l.contains (k : Int)) (List.range n)
  rwa [List.length_range] at this
theorem out_ev (b : Int) (L : List S37) (l : List Int) (hl : l.length ≤ 1000) (hL : L.length ≤ 1000) : Ev (fun k => tout.f k b L l) (inL L l) := by
  have key : ∀ m i, i + m = L.length → Ev (fun k => tout.l0 k l (coL l i) (L.length : Int) (i : Int)) (inL L l) := by
    intro m
    induction m with
    | zero =>
      intro i hi
      have : i = L.length := by omega
      subst this
      refine Ev.succ (G := fun _ => some (inL L l)) (fun k => ?_) (Ev.some_ _)
      rw [tout.l0, if_neg (by omega)]; rfl
    | succ m ih =>
      intro i hi
      have hlen := coL_len l i
      have h := ih (i + 1) (by omega)
      rw [coL_succ] at h
      refine Ev.succ (G := fun k => (sContains.f k l (i : Int)).bind fun t524 => (if t524 = true then (tout.l0 k l (coL l i) (L.length : Int) (wrap64 ((i : Int) + 1))) else (if (coL l i).length < 17592186044416 then (tout.l0 k l (coL l i ++ [(i : Int)]) (L.length : Int) (wrap64 ((i : Int) + 1))) else (none)))) (fun k => by rw [tout.l0, if_pos (by omega)]) ?_
      refine Ev.bind (contains_ev l (i : Int) hl) ?_
      by_cases hm : (i : Int) ∈ l
      · rw [if_pos hm] at h
        refine Ev.eq (fun k => ?_) h
        rw [decide_eq_true hm, if_pos rfl, wrap_small (by omega) (by omega)]; rfl
      · rw [if_neg hm] at h
        refine Ev.eq (fun k => ?_) h
        rw [decide_eq_false hm, if_neg (by simp), if_pos (by omega), wrap_small (by omega) (by omega)]; rfl
  exact key L.length 0 (by omega)
theorem co_outs {b : Int} {L : List S37} (h : chk b L = 0) (l : List Int) : outsV b L (inL L l) = 0 := by
  rw [outsV, if_pos h, if_pos]
  rw [Bool.and_eq_true, decide_eq_true_eq]
  exact ⟨inL_rises L l, fun x hx => (mem_inL.1 hx).2.1⟩
theorem co_inn {L : List S37} {T : List Nat} (hT : ∀ k ∈ T, k < L.length) (k : Nat) : k ∈ inn L (inL L (castL T)) ↔ k ∈ T := by
  rw [mem_inn, mem_inL]
  have hc : (k : Int) ∈ castL T ↔ k ∈ T := by
    unfold castL; rw [List.mem_map]
    constructor
    · rintro ⟨j, hj, e⟩; rwa [show k = j by omega]
    · intro h; exact ⟨k, h, rfl⟩
  rw [hc]
  constructor
  · rintro ⟨h1, h2⟩
    by_cases hk : k ∈ T
    · exact hk
    · exact absurd ⟨by omega, by omega, hk⟩ h2
  · intro h; exact ⟨hT k h, fun h2 => h2.2.2 h⟩
theorem co_conn {L : List S37} {T : List Nat} (hT : ∀ k ∈ T, k < L.length) {x y : Nat} : conn (edges L (inL L (castL T))) x y ↔ cn (enL L) T x y :=
  cn_congr (en := enL L) (T := inn L (inL L (castL T))) (T' := T) (co_inn hT)
theorem conn_f' {N : Nat} {L : List S37} {out : List Int} (h : outsV (N : Int) L out = 0) {x y : Nat} (hx : x < N) (hy : y < N) : iConnected.f (N : Int) L out (x : Int) (y : Int) = some (decide (conn (edges L out) x y), 0) := by
  have hl : (labsOf (lab (edges L out)) N).length = N := labsOf_len _ _
  rw [iConnected.f, stands_ok h, Option.bind_some, if_pos rfl, Int.toNat_natCast, if_neg (by omega), if_neg (by rw [hl]; omega), if_neg (by omega), if_neg (by rw [hl]; omega), if_pos (by omega), if_pos (by rw [hl]; omega), if_pos (by omega), if_pos (by rw [hl]; omega), rd_labsOf _ _ _ hx, rd_labsOf _ _ _ hy]
  have e : (((lab (edges L out) x : Nat) : Int) == ((lab (edges L out) y : Nat) : Int)) = decide (conn (edges L out) x y) := by
    rw [Bool.eq_iff_iff, beq_iff_eq, decide_eq_true_eq]; unfold conn; omega
  rw [e]
def trL (L : List S37) (out : List Int) : List Nat := tr (enL L) (inn L out)
theorem trL_lt (L : List S37) (out : List Int) : ∀ k ∈ trL L out, k < L.length := fun k hk => (mem_inn.1 (tr_sub _ k hk)).1
theorem inn_nodup (L : List S37) (out : List Int) : (inn L out).Nodup := List.Pairwise.filter _ List.nodup_range
theorem trL_fo (L : List S37) (out : List Int) : Fo (enL L) (trL L out) := tr_fo _ (inn_nodup L out)
theorem trL_sorted (L : List S37) (out : List Int) : (trL L out).Pairwise (· < ·) := tr_sorted _ (inn_sorted L out)
theorem sub_len {T ks : List Nat} (h1 : T.Pairwise (· < ·)) {n : Nat} (h : ∀ k ∈ T, k < n) : T.length ≤ n := by
  have hr := cast_rises h1
  have := rises_len (m := (n : Int)) hr (fun x hx => by obtain ⟨k, hk, rfl⟩ := List.mem_map.1 hx; have := h k hk; omega) (by omega)
  rw [List.length_map] at this
  omega
theorem trL_len (L : List S37) (out : List Int) : (trL L out).length ≤ L.length := sub_len (ks := []) (trL_sorted L out) (trL_lt L out)
theorem castL_len (T : List Nat) : (castL T).length = T.length := by simp [castL]
theorem good_of {b : Int} {L : List S37} (h : chk b L = 0) {T : List Nat} (hT : ∀ k ∈ T, k < L.length) : GoodL L T := by
  refine ⟨hT, fun k hk => ?_, fun k hk => ?_, fun k hk => ?_⟩
  all_goals (obtain ⟨u, v, hu, hv, _, _, huv, he⟩ := line_ok h (hT k hk); rw [he])
  · exact hu
  · exact hv
  · exact huv
theorem tree_ok {b : Int} {L : List S37} {out : List Int} (h : outsV b L out = 0) : Ev (fun k => tTree.f k b L out) (castL (trL L out), 0) := by
  have hb := outs_bus h
  have hc := (outsV_ok h).1
  obtain ⟨N, rfl⟩ := Int.eq_ofNat_of_zero_le (show 0 ≤ b by omega)
  have hil := inn_len L out
  have hll := inL_len L out
  have key : ∀ m i, i + m = (inn L out).length → Ev (fun k => tTree.l0 k (castL (tr (enL L) ((inn L out).take i))) 0 (inL L out) ((inL L out).length : Int) (i : Int) (N : Int) L) (castL (trL L out), 0) := by
    intro m
    induction m with
    | zero =>
      intro i hi
      refine Ev.succ (G := fun _ => some (castL (trL L out), 0)) (fun k => ?_) (Ev.some_ _)
      rw [tTree.l0, if_neg (by omega), List.take_of_length_le (by omega)]; rfl
    | succ m ih =>
      intro i hi
      have hii : i < (inn L out).length := by omega
      obtain ⟨t, ht⟩ : ∃ t, t = (inn L out)[i] := ⟨_, rfl⟩
      have htl : t < L.length := (mem_inn.1 (show t ∈ inn L out by rw [ht]; exact List.getElem_mem hii)).1
      obtain ⟨u, v, hu, hv, huN, hvN, _, hen⟩ := line_ok hc htl
      have hrd : rd (inL L out) (i : Int) = (t : Int) := by rw [rd_nat _ i (by omega), ht]; simp [inL]
      have h2 := ih (i + 1) (by omega)
      rw [List.take_succ_eq_append_getElem hii, ← ht, tr_snoc, trStep] at h2
      obtain ⟨T, hT⟩ : ∃ T, T = tr (enL L) ((inn L out).take i) := ⟨_, rfl⟩
      rw [← hT] at h2 ⊢
      have hTl : ∀ k ∈ T, k < L.length := fun k hk => (mem_inn.1 (List.mem_of_mem_take (tr_sub _ k (by rw [← hT]; exact hk)))).1
      have hTs : T.Pairwise (· < ·) := by rw [hT]; exact tr_sorted _ (List.Pairwise.sublist (List.take_sublist _ _) (inn_sorted L out))
      have hTn := sub_len (ks := []) hTs hTl
      have hcl := castL_len T
      refine Ev.succ (G := fun k => (tout.f k (N : Int) L (castL T)).bind fun t534 => (if 0 ≤ (t : Int) then (if (t : Int) < (L.length : Int) then ((iConnected.f (N : Int) L t534 (u : Int) (v : Int)).bind fun bt539 => (if bt539.1 = true then (tTree.l0 k (castL T) 0 (inL L out) ((inL L out).length : Int) ((i + 1 : Nat) : Int) (N : Int) L) else (if (castL T).length < 17592186044416 then (tTree.l0 k (castL T ++ [(t : Int)]) 0 (inL L out) ((inL L out).length : Int) ((i + 1 : Nat) : Int) (N : Int) L) else (none)))) else (none)) else (none))) (fun k => ?_) ?_
      · rw [tTree.l0, if_pos (by omega), if_pos (by omega), if_pos (by omega), hrd, hu, hv, wrap_small (by omega) (by omega)]; rfl
      · refine Ev.bind (out_ev (N : Int) L (castL T) (by omega) (by omega)) ?_
        have hcf := conn_f' (co_outs hc (castL T)) (show u < N by omega) (show v < N by omega)
        have hcn : conn (edges L (inL L (castL T))) u v ↔ cn (enL L) T (enL L t).1 (enL L t).2 := by rw [hen]; exact co_conn hTl
        by_cases hx : cn (enL L) T (enL L t).1 (enL L t).2
        · rw [if_pos hx] at h2
          refine Ev.eq (fun k => ?_) h2
          rw [if_pos (by omega), if_pos (by omega), hcf, Option.bind_some, decide_eq_true (hcn.2 hx), if_pos rfl]
        · rw [if_neg hx] at h2
          refine Ev.eq (fun k => ?_) h2
          rw [if_pos (by omega), if_pos (by omega), hcf, Option.bind_some, decide_eq_false (fun h => hx (hcn.1 h)), if_neg (by simp), if_pos (by omega)]
          simp [castL]
  refine Ev.eq (fun k => ?_) (key (inn L out).length 0 (by omega))
  rw [tTree.f, in_ok h, Option.bind_some]; rfl
theorem tree_bad {b : Int} {L : List S37} {out : List Int} (h : outsV b L out ≠ 0) : Ev (fun k => tTree.f k b L out) ([], outsV b L out) := by
  refine Ev.succ (G := fun _ => some ([], outsV b L out)) (fun k => ?_) (Ev.some_ _)
  rw [tTree.f, in_bad h, Option.bind_some, tTree.l0, if_neg (by simp)]
theorem walk_ev {b : Int} {L : List S37} (h : chk b L = 0) {T : List Nat} (hF : Fo (enL L) T) (hT : ∀ k ∈ T, k < L.length) (a c : Nat) : Ev (fun k => twalk.f k b L (castL T) (a : Int) (c : Int) (List.replicate L.length 0)) (decide (cn (enL L) T a c), if cn (enL L) T a c then wayOf L T a c else List.replicate L.length 0) := by
  have hG := good_of h hT
  refine ⟨T.length + 1, fun k hk => ?_⟩
  obtain ⟨r, hr, hx⟩ := on_all hF hG a c (fuel := k) (by omega)
  show twalk.f k b L (castL T) (a : Int) (c : Int) (List.replicate L.length 0) = _
  unfold twalk.f
  rw [if_pos, hr]
  · by_cases hc : cn (enL L) T a c
    · obtain rfl := hx.2 hc
      rw [if_pos rfl, if_pos hc, decide_eq_true hc]
    · have : r = false := by
        cases r with
        | false => rfl
        | true => exact absurd (hx.1 rfl) hc
      subst this
      rw [if_neg (by simp), if_neg hc, decide_eq_false hc]
  · intro t ht
    obtain ⟨k, hk, rfl⟩ := List.mem_map.1 ht
    have h1 := hT k hk
    refine ⟨by omega, by omega, by rw [List.length_replicate]; omega, ?_⟩
    rw [hG.f0 k hk, hG.f1 k hk]
    have := hG.ne k hk
    omega
def cyc1 (L : List S37) (out : List Int) (c : Nat) : List Int := (wayOf L (trL L out) (enL L c).2 (enL L c).1).set c 1
def offL (L : List S37) (out : List Int) : List Nat := (inn L out).filter (fun c => !(trL L out).contains c)
def cycL (L : List S37) (out : List Int) : List (List Int) := (offL L out).map (cyc1 L out)
theorem mem_offL {L : List S37} {out : List Int} {c : Nat} : c ∈ offL L out ↔ c ∈ inn L out ∧ c ∉ trL L out := by
  unfold offL; rw [List.mem_filter]; simp
theorem mem_castL {T : List Nat} {k : Nat} : (k : Int) ∈ castL T ↔ k ∈ T := by
  unfold castL; rw [List.mem_map]
  constructor
  · rintro ⟨j, hj, e⟩; rwa [show k = j by omega]
  · intro h; exact ⟨k, h, rfl⟩
theorem cycles_ok {b : Int} {L : List S37} {out : List Int} (h : outsV b L out = 0) : Ev (fun k => tCycles.f k b L out) (cycL L out, 0) := by
  have hb := outs_bus h
  have hc := (outsV_ok h).1
  have hil := inn_len L out
  have hll := inL_len L out
  have htl := trL_len L out
  have hcl := castL_len (trL L out)
  have key : ∀ m i, i + m = (inn L out).length → Ev (fun k => tCycles.l0 k ((((inn L out).take i).filter (fun c => !(trL L out).contains c)).map (cyc1 L out)) 0 (castL (trL L out)) (inL L out) ((inL L out).length : Int) (i : Int) b L) (cycL L out, 0) := by
    intro m
    induction m with
    | zero =>
      intro i hi
      refine Ev.succ (G := fun _ => some (cycL L out, 0)) (fun k => ?_) (Ev.some_ _)
      rw [tCycles.l0, if_neg (by omega), List.take_of_length_le (by omega)]; rfl
    | succ m ih =>
      intro i hi
      have hii : i < (inn L out).length := by omega
      obtain ⟨t, ht⟩ : ∃ t, t = (inn L out)[i] := ⟨_, rfl⟩
      have htm : t ∈ inn L out := by rw [ht]; exact List.getElem_mem hii
      have htL : t < L.length := (mem_inn.1 htm).1
      obtain ⟨u, v, hu, hv, huN, hvN, _, hen⟩ := line_ok hc htL
      have hrd : rd (inL L out) (i : Int) = (t : Int) := by rw [rd_nat _ i (by omega), ht]; simp [inL]
      have h2 := ih (i + 1) (by omega)
      rw [List.take_succ_eq_append_getElem hii, ← ht, List.filter_append, List.map_append] at h2
      obtain ⟨X, hX⟩ : ∃ X, X = (((inn L out).take i).filter (fun c => !(trL L out).contains c)).map (cyc1 L out) := ⟨_, rfl⟩
      have hXl : X.length ≤ i := by
        rw [hX, List.length_map]
        refine Nat.le_trans (List.length_filter_le _ _) ?_
        rw [List.length_take]; omega
      rw [← hX] at h2 ⊢
      refine Ev.succ (G := fun k => (sContains.f k (castL (trL L out)) (t : Int)).bind fun t554 => (if t554 = true then (tCycles.l0 k X 0 (castL (trL L out)) (inL L out) ((inL L out).length : Int) ((i + 1 : Nat) : Int) b L) else ((twalk.f k b L (castL (trL L out)) (v : Int) (u : Int) (List.replicate L.length 0)).bind fun bt560 => (if (t : Int) < ((List.replicate L.length (0 : Int)).length : Int) then (if X.length < 5864062014805 then (tCycles.l0 k (X ++ [(bt560.2.set ((t : Int) : Int).toNat 1)]) 0 (castL (trL L out)) (inL L out) ((inL L out).length : Int) ((i + 1 : Nat) : Int) b L) else (none)) else (none))))) (fun k => ?_) ?_
      · rw [tCycles.l0, if_pos (by omega), if_pos (by omega), if_pos (by omega), hrd, wrap_small (by omega) (by omega)]
        simp only [hu, hv, Option.bind_some, Int.toNat_natCast]
        rw [if_pos (show (0 : Int) ≤ (L.length : Int) by omega), if_pos (show L.length ≤ 35184372088832 by omega), if_pos (show (0 : Int) ≤ (t : Int) by omega), if_pos (show (t : Int) < (L.length : Int) by omega)]
        rfl
      · refine Ev.bind (contains_ev (castL (trL L out)) (t : Int) (by omega)) ?_
        by_cases hx : t ∈ trL L out
        · have e1 : [t].filter (fun c => !(trL L out).contains c) = [] := by simp [hx]
          rw [e1, List.map_nil, List.append_nil] at h2
          refine Ev.eq (fun k => ?_) h2
          rw [decide_eq_true (mem_castL.2 hx), if_pos rfl]
        · have e1 : [t].filter (fun c => !(trL L out).contains c) = [t] := by simp [hx]
          rw [e1, List.map_cons, List.map_nil] at h2
          refine Ev.eq (fun k => by rw [decide_eq_false (fun h => hx (mem_castL.1 h)), if_neg (by simp)]) ?_
          have hw := walk_ev hc (trL_fo L out) (trL_lt L out) v u
          have hcn : cn (enL L) (trL L out) v u := by
            have := (tr_cn (en := enL L) (inn L out) v u).2 (by have := (cn_line (en := enL L) htm).symm; rw [hen] at this; exact this)
            exact this
          rw [decide_eq_true hcn, if_pos hcn] at hw
          refine Ev.bind hw (Ev.eq (fun k => ?_) h2)
          rw [if_pos (by rw [List.length_replicate]; omega), if_pos (by omega), Int.toNat_natCast]
          unfold cyc1
          rw [hen]
  refine Ev.eq (G := fun k => (tTree.f k b L out).bind fun bt549 => (tCycles.l0 k ([] : List (List Int)) 0 bt549.1 (inL L out) ((inL L out).length : Int) 0 b L)) (fun k => by rw [tCycles.f, in_ok h, Option.bind_some]) ?_
  exact Ev.bind (tree_ok h) (key (inn L out).length 0 (by omega))
theorem cycles_bad {b : Int} {L : List S37} {out : List Int} (h : outsV b L out ≠ 0) : Ev (fun k => tCycles.f k b L out) ([], outsV b L out) := by
  refine Ev.eq (G := fun k => (tTree.f k b L out).bind fun bt549 => (tCycles.l0 k ([] : List (List Int)) (outsV b L out) bt549.1 [] (([] : List Int).length : Int) 0 b L)) (fun k => by rw [tCycles.f, in_bad h, Option.bind_some]) ?_
  refine Ev.bind (tree_bad h) (Ev.succ (G := fun _ => some ([], outsV b L out)) (fun k => ?_) (Ev.some_ _))
  rw [tCycles.l0, if_neg (by simp)]
theorem cyc1_len (L : List S37) (out : List Int) (c : Nat) : (cyc1 L out c).length = L.length := by unfold cyc1; rw [List.length_set, wayOf_len]
theorem rd_cyc1 {L : List S37} {out : List Int} {c t : Nat} (ht : t < L.length) (hc : c < L.length) : rd (cyc1 L out c) (t : Int) = if t = c then 1 else W (enL L) (trL L out) (enL L c).2 (enL L c).1 t := by
  unfold cyc1
  rw [rd_set (by rw [wayOf_len]; exact hc)]
  by_cases h : t = c
  · rw [if_pos h, if_pos h]
  · rw [if_neg h, if_neg h, rd_nat _ t (by rw [wayOf_len]; exact ht)]; simp [wayOf]
def brL (L : List S37) (out : List Int) : List Nat := (trL L out).filter (fun j => !(cycL L out).any (usesW (j : Int)))
theorem uses_iff {L : List S37} {out : List Int} {j : Nat} (hj : j ∈ trL L out) : (cycL L out).any (usesW (j : Int)) = true ↔ cn (enL L) (less (inn L out) j) (enL L j).1 (enL L j).2 := by
  rw [← used_iff (inn_nodup L out) hj, List.any_eq_true]
  unfold cycL
  constructor
  · rintro ⟨way, hw, hu⟩
    obtain ⟨c, hc, rfl⟩ := List.mem_map.1 hw
    obtain ⟨hc1, hc2⟩ := mem_offL.1 hc
    refine ⟨c, hc1, hc2, ?_⟩
    unfold usesW at hu
    rw [rd_cyc1 (trL_lt L out j hj) (mem_inn.1 hc1).1, if_neg (fun e => hc2 (by rw [← e]; exact hj))] at hu
    show W (enL L) (trL L out) (enL L c).2 (enL L c).1 j ≠ 0
    simpa using hu
  · rintro ⟨c, hc1, hc2, hw⟩
    refine ⟨_, List.mem_map_of_mem (mem_offL.2 ⟨hc1, hc2⟩), ?_⟩
    unfold usesW
    rw [rd_cyc1 (trL_lt L out j hj) (mem_inn.1 hc1).1, if_neg (fun e => hc2 (by rw [← e]; exact hj))]
    have hw' : W (enL L) (trL L out) (enL L c).2 (enL L c).1 j ≠ 0 := hw
    simpa using hw'
theorem bridges_ok {b : Int} {L : List S37} {out : List Int} (h : outsV b L out = 0) : Ev (fun k => tBridges.f k b L out) (castL (brL L out), 0) := by
  have hb := outs_bus h
  have htl := trL_len L out
  refine Ev.bind (tree_ok h) (Ev.bind (cycles_ok h) (Ev.eq (G := fun _ => some (castL (brL L out), 0)) (fun k => ?_) (Ev.some_ _)))
  rw [if_pos]
  · congr 2
    unfold brL castL
    rw [List.filter_map]; rfl
  · refine ⟨fun x hx way hw => ?_, by rw [castL_len]; omega⟩
    obtain ⟨j, hj, rfl⟩ := List.mem_map.1 hx
    obtain ⟨c, _, rfl⟩ := List.mem_map.1 hw
    have := trL_lt L out j hj
    rw [cyc1_len]; omega
theorem bridges_bad {b : Int} {L : List S37} {out : List Int} (h : outsV b L out ≠ 0) : Ev (fun k => tBridges.f k b L out) ([], outsV b L out) := by
  refine Ev.bind (tree_bad h) (Ev.bind (cycles_bad h) (Ev.eq (G := fun _ => some ([], outsV b L out)) (fun k => ?_) (Ev.some_ _)))
  rw [if_pos ⟨fun x hx => absurd hx List.not_mem_nil, by simp⟩]; rfl
section
theorem othersR_ev (b : Int) (L : List S37) (l : List Int) (hl : l.length ≤ 1000000) (hL : L.length ≤ 1000000) : Ev (fun k => qr16others.f k b L l) (inL L l) := by
  refine Ev.upto L.length (fun k i => qr16others.l0 k l (coN l i) (i : Int) b L) ?_ fun i hi h => ?_
  · refine Ev.succ (G := fun _ => some (coN l L.length)) (fun k => ?_) (Ev.some_ _)
    rw [qr16others.l0, if_neg (by omega)]
  · have hc := coN_len l i
    have hs := coN_succ l i
    refine Ev.succ (G := fun k => (qr14Has.f k l (i : Int)).bind fun t => (if t = true then (qr16others.l0 k l (coN l i) (wrap64 ((i : Int) + 1)) b L) else (if (coN l i).length < 17592186044416 then (qr16others.l0 k l (coN l i ++ [(i : Int)]) (wrap64 ((i : Int) + 1)) b L) else (none)))) (fun k => ?_) ?_
    · rw [qr16others.l0, if_pos (by omega)]
    · refine Ev.bind (hasR_ev l (i : Int) hl) (Ev.eq (fun k => ?_) h)
      rw [wrap_succ (by omega)]
      by_cases hm : (i : Int) ∈ l
      · rw [decide_eq_true hm, if_pos rfl, hs, if_pos hm]
      · rw [decide_eq_false hm, if_neg (by simp), if_pos (by omega), hs, if_neg hm]
theorem joinedT_ev {N : Nat} {L : List S37} (hc : chk (N : Int) L = 0) {T : List Nat} (hT : ∀ k ∈ T, k < L.length) (hTl : T.length ≤ 1000000) {u v : Nat} (hu : u < N) (hv : v < N) : Ev (fun k => qr16joined.f k (N : Int) L (castL T) (u : Int) (v : Int)) (decide (cn (enL L) T u v)) := by
  have hb := chk_ok hc
  have hj := joinedR_in (co_outs hc (castL T)) hu hv
  have e : decide (conn (edges L (inL L (castL T))) u v) = decide (cn (enL L) T u v) := decide_eq_decide.2 (co_conn hT)
  rw [e] at hj
  exact Ev.bind (othersR_ev _ _ _ (by rw [castL_len]; exact hTl) (by have := hb.2.2.1; omega)) (Ev.bind hj (Ev.some_ _))
theorem rd_castL {T : List Nat} {i : Nat} (h : i < T.length) : rd (castL T) (i : Int) = ((T[i] : Nat) : Int) := by
  rw [rd_nat _ i (by rw [castL_len]; exact h)]; simp [castL]
theorem castL_snoc (T : List Nat) (k : Nat) : castL (T ++ [k]) = castL T ++ [(k : Int)] := by simp [castL]
theorem take_succ' {T : List Nat} {i : Nat} (h : i < T.length) : T.take (i + 1) = T.take i ++ [T[i]] := List.take_succ_eq_append_getElem h
theorem less_snoc (A : List Nat) (x j : Nat) : less (A ++ [x]) j = if x = j then less A j else less A j ++ [x] := by
  unfold less
  rw [List.filter_append]
  by_cases h : x = j
  · rw [if_pos h]; simp [h]
  · rw [if_neg h]; simp [h]
theorem withoutR_ev (T : List Nat) (j : Nat) (hT : T.length ≤ 1000000) : Ev (fun k => qr16without.f k (castL T) (j : Int)) (castL (less T j)) := by
  have hl := castL_len T
  refine Ev.upto T.length (fun k i => qr16without.l0 k (castL T) (j : Int) (castL (less (T.take i) j)) (i : Int)) ?_ fun i hi h => ?_
  · refine Ev.succ (G := fun _ => some (castL (less T j))) (fun k => ?_) (Ev.some_ _)
    rw [qr16without.l0, if_neg (by omega), List.take_of_length_le (Nat.le_refl _)]
  · have h2 : (castL (less (T.take i) j)).length ≤ 1000000 := by
      rw [castL_len]
      have := List.length_filter_le (fun d => d != j) (T.take i)
      have h3 : (T.take i).length ≤ T.length := by rw [List.length_take]; omega
      unfold less; omega
    rw [take_succ' hi] at h
    refine Ev.succ (fun k => ?_) h
    rw [qr16without.l0, if_pos (by omega), if_pos (by omega), rd_castL hi, wrap_succ (by omega)]
    by_cases c : T[i] = j
    · rw [if_pos (by omega), less_snoc, if_pos c]
    · rw [if_neg (by omega), if_pos (by omega), less_snoc, if_neg c, castL_snoc]
theorem treeR_ok {b : Int} {L : List S37} {out : List Int} (h : outsV b L out = 0) : Ev (fun k => qr16Tree.f k b L out) (castL (trL L out), 0) := by
  have hb := outs_bus h
  have hol := outsV_len h
  have hc := (outsV_ok h).1
  obtain ⟨N, rfl⟩ := Int.eq_ofNat_of_zero_le (show 0 ≤ b by omega)
  have hil := inL_len L out
  have hil2 := inn_len L out
  have ho := outsR_ev (N : Int) L out (by omega)
  rw [h] at ho
  refine Ev.bind ho (Ev.eq (fun k => if_pos rfl) (Ev.bind (inR_ev _ _ _ (by omega) (by omega)) ?_))
  refine Ev.upto (inn L out).length (fun k i => qr16Tree.l0 k (castL (tr (enL L) ((inn L out).take i))) (inL L out) (i : Int) (N : Int) L) ?_ fun i hi hnext => ?_
  · refine Ev.succ (G := fun _ => some (castL (trL L out), 0)) (fun k => ?_) (Ev.some_ _)
    rw [qr16Tree.l0, if_neg (by omega), List.take_of_length_le (Nat.le_refl _)]; rfl
  · obtain ⟨t, u, v, h1, h2, h3, h4, h5, h6, _, _, h9, h10⟩ := in_line h hi
    rw [take_succ' hi, ← h9, tr_snoc, trStep] at hnext
    obtain ⟨T, hT⟩ : ∃ T, T = tr (enL L) ((inn L out).take i) := ⟨_, rfl⟩
    rw [← hT] at hnext ⊢
    have hTl : ∀ k ∈ T, k < L.length := fun k hk => (mem_inn.1 (List.mem_of_mem_take (tr_sub _ k (by rw [← hT]; exact hk)))).1
    have hTs : T.Pairwise (· < ·) := by rw [hT]; exact tr_sorted _ (List.Pairwise.sublist (List.take_sublist _ _) (inn_sorted L out))
    have hTn := sub_len (ks := []) hTs hTl
    have hcl := castL_len T
    refine Ev.succ (G := fun k => (qr16joined.f k (N : Int) L (castL T) (u : Int) (v : Int)).bind fun t676 => (if t676 = true then (qr16Tree.l0 k (castL T) (inL L out) ((i + 1 : Nat) : Int) (N : Int) L) else (if (castL T).length < 17592186044416 then (qr16Tree.l0 k (castL T ++ [(t : Int)]) (inL L out) ((i + 1 : Nat) : Int) (N : Int) L) else (none)))) (fun k => ?_) ?_
    · rw [qr16Tree.l0, if_pos (by omega), if_pos (by omega), h1, if_pos (by omega), if_pos (by omega), h3, h4, wrap_succ (by omega)]
    · refine Ev.bind (joinedT_ev hc hTl (by omega) h5 h6) (Ev.eq (fun k => ?_) hnext)
      rw [h10]
      by_cases hx : cn (enL L) T u v
      · rw [decide_eq_true hx, if_pos rfl, if_pos hx]
      · rw [decide_eq_false hx, if_neg (by simp), if_pos (by omega), if_neg hx, castL_snoc]
theorem treeR_bad {b : Int} {L : List S37} {out : List Int} (ho : out.length ≤ 1000000) (h : outsV b L out ≠ 0) : Ev (fun k => qr16Tree.f k b L out) ([], outsV b L out) :=
  Ev.bind (outsR_ev _ _ _ ho) (Ev.eq (G := fun _ => some ([], outsV b L out)) (fun k => if_neg h) (Ev.some_ _))
theorem W_way {en : Nat → Nat × Nat} {T : List Nat} (hF : Fo en T) {t a c : Nat} (ht : t ∈ T) (h : cn en T a c) : W en T a c t = if cn en (less T t) a c then 0 else if cn en (less T t) a (en t).1 then 1 else -1 := by
  by_cases h0 : cn en (less T t) a c
  · rw [if_pos h0]
    have := (W_ne hF ht h)
    by_cases hz : W en T a c t = 0
    · exact hz
    · exact absurd h0 (this.1 hz)
  · rw [if_neg h0, W, if_pos ht]
    rcases (cn_less ht).1 h with h1 | ⟨h1, h2⟩ | ⟨h1, h2⟩
    · exact absurd h1 h0
    · rw [if_pos h1, b2i_pos h1, b2i_neg (p := cn en (less T t) c (en t).1) (fun h3 => h0 (h1.trans h3.symm))]; rfl
    · rw [b2i_pos (p := cn en (less T t) c (en t).1) h2.symm, b2i_neg (p := cn en (less T t) a (en t).1) (fun h3 => h0 (h3.trans h2)), if_neg (fun h3 => h0 (h3.trans h2))]; rfl
def wayPart (L : List S37) (T : List Nat) (a c : Nat) (i : Nat) : List Int := (List.range L.length).map (fun t => if t ∈ T.take i then W (enL L) T a c t else 0)
theorem wayPart_len (L : List S37) (T : List Nat) (a c i : Nat) : (wayPart L T a c i).length = L.length := by simp [wayPart]
theorem wayPart_zero (L : List S37) (T : List Nat) (a c : Nat) : List.replicate L.length (0 : Int) = wayPart L T a c 0 := by
  unfold wayPart
  apply List.ext_getElem
  · simp
  · intro i h1 h2; simp
theorem wayPart_all (L : List S37) (T : List Nat) (a c : Nat) : wayPart L T a c T.length = wayOf L T a c := by
  unfold wayPart wayOf
  refine List.map_congr_left fun t _ => ?_
  rw [List.take_of_length_le (Nat.le_refl _)]
  by_cases h : t ∈ T
  · rw [if_pos h]
  · rw [if_neg h, W, if_neg h]
theorem wayPart_set {L : List S37} {T : List Nat} {a c i : Nat} (hn : T.Nodup) (hi : i < T.length) : (wayPart L T a c i).set T[i] (W (enL L) T a c T[i]) = wayPart L T a c (i + 1) := by
  unfold wayPart
  apply List.ext_getElem
  · simp
  · intro j h1 h2
    rw [List.getElem_set, List.getElem_map, List.getElem_map, List.getElem_range, take_succ' hi]
    by_cases h : T[i] = j
    · subst h; rw [if_pos rfl, if_pos (List.mem_append_right _ (List.mem_singleton_self _))]
    · rw [if_neg h]
      by_cases h3 : j ∈ T.take i
      · rw [if_pos h3, if_pos (List.mem_append_left _ h3)]
      · rw [if_neg h3, if_neg]
        rw [List.mem_append, List.mem_singleton]
        rintro (h4 | h4)
        · exact h3 h4
        · exact h h4.symm
theorem wayPart_keep {L : List S37} {T : List Nat} {a c i : Nat} (hn : T.Nodup) (hi : i < T.length) (h0 : W (enL L) T a c T[i] = 0) : wayPart L T a c i = wayPart L T a c (i + 1) := by
  unfold wayPart
  refine List.map_congr_left fun t _ => ?_
  rw [take_succ' hi]
  by_cases h3 : t ∈ T.take i
  · rw [if_pos h3, if_pos (List.mem_append_left _ h3)]
  · rw [if_neg h3]
    by_cases h4 : t = T[i]
    · subst h4; rw [if_pos (List.mem_append_right _ (List.mem_singleton_self _)), h0]
    · rw [if_neg]
      rw [List.mem_append, List.mem_singleton]
      rintro (h5 | h5)
      · exact h3 h5
      · exact h4 h5
theorem wayR_ev {N : Nat} {L : List S37} (hc : chk (N : Int) L = 0) {T : List Nat} (hF : Fo (enL L) T) (hT : ∀ k ∈ T, k < L.length) (hTl : T.length ≤ 1000) {a c : Nat} (ha : a < N) (hcN : c < N) (h : cn (enL L) T a c) : Ev (fun k => qr16way.f k (N : Int) L (castL T) (a : Int) (c : Int)) (wayOf L T a c) := by
  have hb := chk_ok hc
  have hcl := castL_len T
  have hL := hb.2.2.1
  have hloop : Ev (fun k => qr16way.l0 k (castL T) (a : Int) (c : Int) (List.replicate L.length 0) 0 (N : Int) L) (wayOf L T a c) := by
    rw [wayPart_zero L T a c]
    refine Ev.upto T.length (fun k i => qr16way.l0 k (castL T) (a : Int) (c : Int) (wayPart L T a c i) (i : Int) (N : Int) L) ?_ fun i hi hnext => ?_
    · refine Ev.succ (G := fun _ => some (wayOf L T a c)) (fun k => ?_) (Ev.some_ _)
      rw [qr16way.l0, if_neg (by omega), wayPart_all]
    · have hm := List.getElem_mem hi
      have hset := wayPart_set (L := L) (a := a) (c := c) hF.nodup hi
      have hkeep := wayPart_keep (L := L) (a := a) (c := c) hF.nodup hi
      have hW := W_way hF hm h
      have hwl := wayPart_len L T a c i
      have hrd := rd_castL hi
      obtain ⟨t, ht⟩ : ∃ t, t = T[i] := ⟨_, rfl⟩
      rw [← ht] at hm hset hkeep hW hrd
      have htl := hT t hm
      obtain ⟨u, v, h0, h1, h2, h3, h4, h5⟩ := line_ok hc htl
      rw [h5] at hW
      have hsub : ∀ k ∈ less T t, k < L.length := fun k hk => hT k (mem_less.1 hk).1
      have hsl : (less T t).length ≤ 1000000 := by have := List.length_filter_le (fun d => d != t) T; unfold less; omega
      refine Ev.succ (G := fun k => (qr16without.f k (castL T) (t : Int)).bind fun t686 => ((qr16joined.f k (N : Int) L t686 (a : Int) (c : Int)).bind fun t689 => (if t689 = true then (qr16way.l0 k (castL T) (a : Int) (c : Int) (wayPart L T a c i) ((i + 1 : Nat) : Int) (N : Int) L) else ((qr16joined.f k (N : Int) L t686 (a : Int) (u : Int)).bind fun t692 => (if t692 = true then (qr16way.l0 k (castL T) (a : Int) (c : Int) ((wayPart L T a c i).set t 1) ((i + 1 : Nat) : Int) (N : Int) L) else (qr16way.l0 k (castL T) (a : Int) (c : Int) ((wayPart L T a c i).set t (-1)) ((i + 1 : Nat) : Int) (N : Int) L)))))) (fun k => ?_) ?_
      · rw [qr16way.l0, if_pos (by omega), if_pos (by omega), hrd, wrap_succ (by omega)]
        simp only [h0, Int.toNat_natCast, if_pos (show (0 : Int) ≤ (t : Int) by omega), if_pos (show (t : Int) < (L.length : Int) by omega), if_pos (show (t : Int) < ((wayPart L T a c i).length : Int) by omega)]
      · refine Ev.bind (withoutR_ev T t (by omega)) (Ev.bind (joinedT_ev hc hsub hsl ha hcN) ?_)
        by_cases c1 : cn (enL L) (less T t) a c
        · rw [decide_eq_true c1]
          rw [if_pos c1] at hW
          rw [hkeep hW]
          exact Ev.eq (fun k => if_pos rfl) hnext
        · rw [decide_eq_false c1]
          rw [if_neg c1] at hW
          refine Ev.eq (fun k => if_neg (by simp)) (Ev.bind (joinedT_ev hc hsub hsl ha (by omega)) ?_)
          by_cases c2 : cn (enL L) (less T t) a u
          · rw [decide_eq_true c2]
            rw [if_pos c2] at hW
            rw [hW] at hset
            rw [hset]
            exact Ev.eq (fun k => if_pos rfl) hnext
          · rw [decide_eq_false c2]
            rw [if_neg c2] at hW
            rw [hW] at hset
            rw [hset]
            exact Ev.eq (fun k => if_neg (by simp)) hnext
  refine Ev.eq (fun k => ?_) hloop
  rw [qr16way.f, if_pos (by omega), if_pos (by omega), Int.toNat_natCast]
end
section
theorem castL_inj : ∀ {A B : List Nat}, castL A = castL B → A = B
  | [], [], _ => rfl
  | [], _ :: _, h => by simp [castL] at h
  | _ :: _, [], h => by simp [castL] at h
  | x :: A, y :: B, h => by
    simp only [castL, List.map_cons, List.cons.injEq] at h
    have h1 : x = y := by omega
    have h2 : A = B := castL_inj h.2
    rw [h1, h2]
theorem br_eq (L : List S37) (out : List Int) : (inn L out).filter (fun j => !decide (cn (enL L) (less (inn L out) j) (enL L j).1 (enL L j).2)) = brL L out := by
  apply castL_inj
  have s1 : ((inn L out).filter (fun j => !decide (cn (enL L) (less (inn L out) j) (enL L j).1 (enL L j).2))).Pairwise (· < ·) := List.Pairwise.filter _ (inn_sorted L out)
  have s2 : (brL L out).Pairwise (· < ·) := List.Pairwise.filter _ (trL_sorted L out)
  refine inc_ext (cast_sorted s1) (cast_sorted s2) fun x => ?_
  have key : ∀ j : Nat, j ∈ (inn L out).filter (fun j => !decide (cn (enL L) (less (inn L out) j) (enL L j).1 (enL L j).2)) ↔ j ∈ brL L out := by
    intro j
    rw [List.mem_filter]
    unfold brL
    rw [List.mem_filter]
    simp only [Bool.not_eq_true', decide_eq_false_iff_not]
    constructor
    · rintro ⟨hj, hn⟩
      have hT : j ∈ trL L out := by
        by_cases hT : j ∈ trL L out
        · exact hT
        · refine absurd ?_ hn
          refine cn_mono (fun k hk => ?_) ((tr_cn (en := enL L) (inn L out) _ _).2 (cn_line (en := enL L) hj))
          rw [mem_less]
          exact ⟨tr_sub _ k hk, fun e => hT (e ▸ hk)⟩
      refine ⟨hT, ?_⟩
      rw [Bool.eq_false_iff]
      intro hu
      exact hn ((uses_iff hT).1 hu)
    · rintro ⟨hT, hu⟩
      refine ⟨tr_sub _ j hT, fun hc => ?_⟩
      have := (uses_iff hT).2 hc
      rw [hu] at this
      exact Bool.noConfusion this
  constructor
  · intro hx
    obtain ⟨j, hj, rfl⟩ := List.mem_map.1 hx
    exact List.mem_map_of_mem ((key j).1 hj)
  · intro hx
    obtain ⟨j, hj, rfl⟩ := List.mem_map.1 hx
    exact List.mem_map_of_mem ((key j).2 hj)
theorem bridgesR_ok {b : Int} {L : List S37} {out : List Int} (h : outsV b L out = 0) : Ev (fun k => qr16Bridges.f k b L out) (castL (brL L out), 0) := by
  have hb := outs_bus h
  have hol := outsV_len h
  have hc := (outsV_ok h).1
  obtain ⟨N, rfl⟩ := Int.eq_ofNat_of_zero_le (show 0 ≤ b by omega)
  have hil := inL_len L out
  have hil2 := inn_len L out
  have ho := outsR_ev (N : Int) L out (by omega)
  rw [h] at ho
  refine Ev.bind ho (Ev.eq (fun k => if_pos rfl) (Ev.bind (inR_ev _ _ _ (by omega) (by omega)) ?_))
  obtain ⟨p, hp⟩ : ∃ p : Nat → Bool, p = fun j => !decide (cn (enL L) (less (inn L out) j) (enL L j).1 (enL L j).2) := ⟨_, rfl⟩
  have hbr := br_eq L out
  rw [← hp] at hbr
  refine Ev.upto (inn L out).length (fun k i => qr16Bridges.l0 k (castL (((inn L out).take i).filter p)) (inL L out) (i : Int) (N : Int) L) ?_ fun i hi hnext => ?_
  · refine Ev.succ (G := fun _ => some (castL (brL L out), 0)) (fun k => ?_) (Ev.some_ _)
    rw [qr16Bridges.l0, if_neg (by omega), List.take_of_length_le (Nat.le_refl _), hbr]
  · obtain ⟨t, u, v, h1, h2, h3, h4, h5, h6, _, _, h9, h10⟩ := in_line h hi
    rw [take_succ' hi, ← h9, List.filter_append] at hnext
    have hTl : ∀ k ∈ less (inn L out) t, k < L.length := fun k hk => (mem_inn.1 (mem_less.1 hk).1).1
    have hfl : (((inn L out).take i).filter p).length ≤ i := Nat.le_trans (List.length_filter_le _ _) (by rw [List.length_take]; omega)
    have hcl := castL_len (((inn L out).take i).filter p)
    have hsl : (less (inn L out) t).length ≤ 1000000 := by have := List.length_filter_le (fun d => d != t) (inn L out); unfold less; omega
    refine Ev.succ (G := fun k => (qr16without.f k (castL (inn L out)) (t : Int)).bind fun t655 => ((qr16joined.f k (N : Int) L t655 (u : Int) (v : Int)).bind fun t662 => (if t662 = true then (qr16Bridges.l0 k (castL (((inn L out).take i).filter p)) (inL L out) ((i + 1 : Nat) : Int) (N : Int) L) else (if (castL (((inn L out).take i).filter p)).length < 17592186044416 then (qr16Bridges.l0 k (castL (((inn L out).take i).filter p) ++ [(t : Int)]) (inL L out) ((i + 1 : Nat) : Int) (N : Int) L) else (none))))) (fun k => ?_) ?_
    · rw [qr16Bridges.l0, if_pos (by omega), if_pos (by omega), h1, wrap_succ (by omega)]
      simp only [h3, h4, if_pos (show (0 : Int) ≤ (t : Int) by omega), if_pos (show (t : Int) < (L.length : Int) by omega)]
      rfl
    · refine Ev.bind (withoutR_ev (inn L out) t (by omega)) (Ev.bind (joinedT_ev hc hTl hsl h5 h6) (Ev.eq (fun k => ?_) hnext))
      have hpt : p t = !decide (cn (enL L) (less (inn L out) t) u v) := by
        rw [hp]
        show (!decide (cn (enL L) (less (inn L out) t) (enL L t).1 (enL L t).2)) = _
        rw [h10]
      by_cases hx : cn (enL L) (less (inn L out) t) u v
      · rw [decide_eq_true hx] at hpt ⊢
        rw [if_pos rfl, List.filter_cons_of_neg (by rw [hpt]; simp), List.filter_nil, List.append_nil]
      · rw [decide_eq_false hx] at hpt ⊢
        rw [if_neg (by simp), if_pos (by omega), List.filter_cons_of_pos (by rw [hpt]; rfl), List.filter_nil, castL_snoc]
theorem bridgesR_bad {b : Int} {L : List S37} {out : List Int} (ho : out.length ≤ 1000000) (h : outsV b L out ≠ 0) : Ev (fun k => qr16Bridges.f k b L out) ([], outsV b L out) :=
  Ev.bind (outsR_ev _ _ _ ho) (Ev.eq (G := fun _ => some ([], outsV b L out)) (fun k => if_neg h) (Ev.some_ _))
theorem circlesR_ok {b : Int} {L : List S37} {out : List Int} (h : outsV b L out = 0) : Ev (fun k => qr16Circles.f k b L out) (cycL L out, 0) := by
  have hb := outs_bus h
  have hol := outsV_len h
  have hc := (outsV_ok h).1
  have htr := treeR_ok h
  obtain ⟨N, rfl⟩ := Int.eq_ofNat_of_zero_le (show 0 ≤ b by omega)
  have hil := inL_len L out
  have hil2 := inn_len L out
  have htl := trL_len L out
  have hcl := castL_len (trL L out)
  refine Ev.bind htr (Ev.eq (fun k => if_pos rfl) (Ev.bind (inR_ev _ _ _ (by omega) (by omega)) ?_))
  refine Ev.upto (inn L out).length (fun k i => qr16Circles.l0 k (castL (trL L out)) ((((inn L out).take i).filter (fun c => !(trL L out).contains c)).map (cyc1 L out)) (inL L out) (i : Int) (N : Int) L) ?_ fun i hi hnext => ?_
  · refine Ev.succ (G := fun _ => some (cycL L out, 0)) (fun k => ?_) (Ev.some_ _)
    rw [qr16Circles.l0, if_neg (by omega), List.take_of_length_le (Nat.le_refl _)]; rfl
  · obtain ⟨t, u, v, h1, h2, h3, h4, h5, h6, _, _, h9, h10⟩ := in_line h hi
    have htm : t ∈ inn L out := by rw [h9]; exact List.getElem_mem hi
    rw [take_succ' hi, ← h9, List.filter_append, List.map_append] at hnext
    have hfl : ((((inn L out).take i).filter (fun c => !(trL L out).contains c)).map (cyc1 L out)).length ≤ i := by
      rw [List.length_map]
      exact Nat.le_trans (List.length_filter_le _ _) (by rw [List.length_take]; omega)
    generalize (((inn L out).take i).filter (fun c => !(trL L out).contains c)).map (cyc1 L out) = A at hnext hfl ⊢
    refine Ev.succ (G := fun k => (qr14Has.f k (castL (trL L out)) (t : Int)).bind fun t706 => (if t706 = true then (qr16Circles.l0 k (castL (trL L out)) A (inL L out) ((i + 1 : Nat) : Int) (N : Int) L) else ((qr16way.f k (N : Int) L (castL (trL L out)) (v : Int) (u : Int)).bind fun t711 => (if (t : Int) < (t711.length : Int) then (if A.length < 5864062014805 then (qr16Circles.l0 k (castL (trL L out)) (A ++ [(t711.set t 1)]) (inL L out) ((i + 1 : Nat) : Int) (N : Int) L) else (none)) else (none))))) (fun k => ?_) ?_
    · rw [qr16Circles.l0, if_pos (by omega), if_pos (by omega), h1, wrap_succ (by omega)]
      simp only [h3, h4, Int.toNat_natCast, if_pos (show (0 : Int) ≤ (t : Int) by omega), if_pos (show (t : Int) < (L.length : Int) by omega)]
    · refine Ev.bind (hasR_ev (castL (trL L out)) (t : Int) (by omega)) ?_
      by_cases hT : t ∈ trL L out
      · rw [decide_eq_true (mem_castL.2 hT)]
        refine Ev.eq (fun k => if_pos rfl) ?_
        rw [List.filter_cons_of_neg (by simp [hT]), List.filter_nil, List.map_nil, List.append_nil] at hnext
        exact hnext
      · rw [decide_eq_false (fun hm => hT (mem_castL.1 hm))]
        rw [List.filter_cons_of_pos (by simp [hT]), List.filter_nil] at hnext
        have hcn : cn (enL L) (trL L out) v u := by
          have := (tr_cn (en := enL L) (inn L out) _ _).2 (cn_line (en := enL L) htm)
          rw [h10] at this
          exact this.symm
        refine Ev.eq (fun k => if_neg (by simp)) (Ev.bind (wayR_ev hc (trL_fo L out) (trL_lt L out) (by omega) h6 h5 hcn) (Ev.eq (fun k => ?_) hnext))
        rw [if_pos (by rw [wayOf_len]; omega), if_pos (by omega)]
        show _ = qr16Circles.l0 k (castL (trL L out)) (A ++ [cyc1 L out t]) (inL L out) ((i + 1 : Nat) : Int) (N : Int) L
        rw [cyc1, h10]
theorem circlesR_bad {b : Int} {L : List S37} {out : List Int} (ho : out.length ≤ 1000000) (h : outsV b L out ≠ 0) : Ev (fun k => qr16Circles.f k b L out) ([], outsV b L out) :=
  Ev.bind (treeR_bad ho h) (Ev.eq (G := fun _ => some ([], outsV b L out)) (fun k => if_neg h) (Ev.some_ _))
end
def sMax.f (l0 : List Int) : Option (Int) := if l0.length = 0 then none else some (l0.foldl max (rd l0 0))
def iMembers.l0 : Nat → List (List Int) → List Int → Int → Int → Option ((List (List Int)) × Int)
 | 0, _, _, _, _ => none
 | k + 1, x8, x24, x25, x26 => if x26 < x25 then (if 0 ≤ x26 then (if x26 < (x24.length : Int) then (if 0 ≤ (rd x24 x26) then (if (rd x24 x26) < (x8.length : Int) then (if (rd_L1 x8 (rd x24 x26)).length < 17592186044416 then (iMembers.l0 k (x8.set ((rd x24 x26) : Int).toNat ((rd_L1 x8 (rd x24 x26)) ++ [x26])) x24 x25 (wrap64 (x26 + 1))) else (none)) else (none)) else (none)) else (none)) else (none)) else (some (x8, 0))
def iMembers.f (k : Nat) (a0_0 : Int) (l0_1 : List (S37)) (l1 : List Int) : Option ((List (List Int)) × Int) := (iOf.f k a0_0 l0_1 l1).bind fun bt302 => (if bt302.2 = 0 then ((sMax.f bt302.1).bind fun t306 => (if 0 ≤ (wrap64 (t306 + 1)) then (if (wrap64 (t306 + 1) : Int).toNat ≤ 11728124029610 then (iMembers.l0 k (List.replicate (wrap64 (t306 + 1) : Int).toNat []) bt302.1 (bt302.1.length : Int) 0) else (none)) else (none))) else (some (([] : List (List Int)), bt302.2)))
section
def isN (f : Nat → Nat) (N : Nat) (b : Nat) : Nat := (refsOf f N).idxOf ((f b : Nat) : Int)
def rowN (f : Nat → Nat) (N n i : Nat) : List Nat := (List.range n).filter (fun b => isN f N b == i)
def rowOf (f : Nat → Nat) (N n i : Nat) : List Int := (rowN f N n i).map (fun (b : Nat) => (b : Int))
section
variable {f : Nat → Nat} {N : Nat}
def sumN (F : Nat → Nat) : Nat → Nat
  | 0 => 0
  | n + 1 => sumN F n + F n
end
end
section
def rowsOf (f : Nat → Nat) (N n : Nat) : List (List Int) := (List.range (refsOf f N).length).map (rowOf f N n)
end
def qr15Refs.l0 : Nat → List Int → Int → List Int → Int → Option (List Int × Int)
 | 0, _, _, _, _ => none
 | k + 1, x6, x7, x8, x9 => if x9 < (x6.length : Int) then (if 0 ≤ x9 then (if (rd x6 x9) = (x8.length : Int) then (if x8.length < 17592186044416 then (qr15Refs.l0 k x6 x7 (x8 ++ [x9]) (wrap64 (x9 + 1))) else (none)) else (qr15Refs.l0 k x6 x7 x8 (wrap64 (x9 + 1)))) else (none)) else (some (x8, x7))
def qr15Refs.f (k : Nat) (a0_0 : Int) (l0_1 : List (S37)) (l1 : List Int) : Option (List Int × Int) := (qr15Of.f k a0_0 l0_1 l1).bind fun bt277 => (qr15Refs.l0 k bt277.1 bt277.2 ([] : List Int) 0)
mutual
def qr15Members.l0 : Nat → List Int → Int → List Int → List (List Int) → Int → Option ((List (List Int)) × Int)
 | 0, _, _, _, _, _ => none
 | k + 1, x6, x7, x8, x10, x11 => if x11 < (x8.length : Int) then (qr15Members.l1 k x6 x7 x8 x10 x11 ([] : List Int) 0) else (some (x10, x7))
def qr15Members.l1 : Nat → List Int → Int → List Int → List (List Int) → Int → List Int → Int → Option ((List (List Int)) × Int)
 | 0, _, _, _, _, _, _, _ => none
 | k + 1, x6, x7, x8, x10, x11, x12, x13 => if x13 < (x6.length : Int) then (if 0 ≤ x13 then (if (rd x6 x13) = x11 then (if x12.length < 17592186044416 then (qr15Members.l1 k x6 x7 x8 x10 x11 (x12 ++ [x13]) (wrap64 (x13 + 1))) else (none)) else (qr15Members.l1 k x6 x7 x8 x10 x11 x12 (wrap64 (x13 + 1)))) else (none)) else (if x10.length < 5864062014805 then (qr15Members.l0 k x6 x7 x8 (x10 ++ [x12]) (wrap64 (x11 + 1))) else (none))
end
def qr15Members.f (k : Nat) (a0_0 : Int) (l0_1 : List (S37)) (l1 : List Int) : Option ((List (List Int)) × Int) := (qr15Of.f k a0_0 l0_1 l1).bind fun bt286 => ((qr15Refs.f k a0_0 l0_1 l1).bind fun bt290 => (qr15Members.l0 k bt286.1 bt286.2 bt290.1 ([] : List (List Int)) 0))
section
attribute [local go_sem high] eqA37
mutual
def qr14Same.j0 : Nat → Bool → Int → List (S37) → Int → List (S37) → Option (Bool)
 | 0, _, _, _, _, _ => none
 | k + 1, x19, x325000, x325001, x326000, x326001 => if x19 = true then (some false) else (qr14Same.l0 k 0 x325000 x325001 x326000 x326001)
def qr14Same.l0 : Nat → Int → Int → List (S37) → Int → List (S37) → Option (Bool)
 | 0, _, _, _, _, _ => none
 | k + 1, x5, x325000, x325001, x326000, x326001 => if x5 < (x325001.length : Int) then (if 0 ≤ x5 then (if x5 < (x326001.length : Int) then (if (!(((rd_T37 x325001 x5).f0) == ((rd_T37 x326001 x5).f0)) || (!(((rd_T37 x325001 x5).f1) == ((rd_T37 x326001 x5).f1)) || (!(((rd_T37 x325001 x5).f2) == ((rd_T37 x326001 x5).f2)) || (!(((rd_T37 x325001 x5).f3) == ((rd_T37 x326001 x5).f3)))))) = true then (some false) else (qr14Same.l0 k (wrap64 (x5 + 1)) x325000 x325001 x326000 x326001)) else (none)) else (none)) else (some true)
end
def qr14Same.f (k : Nat) (a0_0 : Int) (l0_1 : List (S37)) (a1_0 : Int) (l1_1 : List (S37)) : Option (Bool) := if a0_0 = a1_0 then (qr14Same.j0 k ((l0_1.length : Int) != (l1_1.length : Int)) a0_0 l0_1 a1_0 l1_1) else (qr14Same.j0 k true a0_0 l0_1 a1_0 l1_1)
end
section
theorem rows_ev (a b : List (List Int)) (ha : a.length ≤ 1000000) (hr : ∀ x ∈ a, x.length ≤ 1000000) : Ev (fun k => qr15Rows.f k a b) (decide (a = b)) := by
  by_cases hl : a.length = b.length
  · have hrd : ∀ (c : List (List Int)) j (h : j < c.length), rd_L1 c (j : Int) = c[j] := fun c j h => by simp [rd_L1, List.getD_eq_getElem?_getD, h]
    have key : ∀ m i, i + m = a.length → (∀ j, (h : j < a.length) → j < i → a[j] = b[j]'(by omega)) → Ev (fun k => qr15Rows.l0 k a b (i : Int)) (decide (a = b)) := by
      intro m
      induction m with
      | zero =>
        intro i hi hh
        have e : a = b := List.ext_getElem hl fun j h1 h2 => hh j h1 (by omega)
        refine Ev.succ (G := fun _ => some (decide (a = b))) (fun k => ?_) (Ev.some_ _)
        rw [qr15Rows.l0, if_neg (by omega), decide_eq_true e]
      | succ m ih =>
        intro i hi hh
        have hia : i < a.length := by omega
        have hib : i < b.length := by omega
        refine Ev.succ (G := fun k => (qr14Ints.f k a[i] b[i]).bind fun t => (if t = true then (qr15Rows.l0 k a b ((i + 1 : Nat) : Int)) else (some false))) (fun k => ?_) (Ev.bind (ints_ev a[i] b[i] (hr _ (List.getElem_mem hia))) ?_)
        · rw [qr15Rows.l0, if_pos (by omega), if_pos (by omega), if_pos (by omega), hrd a i hia, hrd b i hib, wrap_succ (by omega)]
        · by_cases he : a[i] = b[i]
          · rw [decide_eq_true he]
            refine Ev.eq (fun k => if_pos rfl) (ih (i + 1) (by omega) fun j h hj => ?_)
            by_cases c : j = i
            · subst c; exact he
            · exact hh j h (by omega)
          · have hne : ¬ a = b := fun e => by subst e; exact he rfl
            rw [decide_eq_false he, decide_eq_false hne]
            exact Ev.eq (G := fun _ => some false) (fun k => if_neg (by simp)) (Ev.some_ _)
    refine Ev.eq (fun k => ?_) (key a.length 0 (by omega) (fun j _ hj => absurd hj (Nat.not_lt_zero _)))
    rw [qr15Rows.f, if_pos (by omega)]; rfl
  · have hne : ¬ a = b := fun e => hl (by rw [e])
    refine Ev.eq (G := fun _ => some (decide (a = b))) (fun k => ?_) (Ev.some_ _)
    rw [qr15Rows.f, if_neg (by omega), decide_eq_false hne]
end
theorem TreeMatches_go {b : Int} {L : List S37} {l1 br ls : List Int} {cs : List (List Int)} {e : Int} (h1 : l1.length ≤ 100) (q1 : br.length ≤ 1000) (q2 : ls.length ≤ 1000) (q3 : cs.length ≤ 1000) (q4 : ∀ x ∈ cs, x.length ≤ 1000)
    (r1 : Ev (fun k => qr16Bridges.f k b L l1) (br, e)) (r2 : Ev (fun k => qr16Tree.f k b L l1) (ls, e)) (r3 : Ev (fun k => qr16Circles.f k b L l1) (cs, e))
    (i1 : Ev (fun k => tBridges.f k b L l1) (br, e)) (i2 : Ev (fun k => tTree.f k b L l1) (ls, e)) (i3 : Ev (fun k => tCycles.f k b L l1) (cs, e)) :
    Ev (fun k => (qr16Bridges.f k b L l1).bind fun bt725 => ((qr16Tree.f k b L l1).bind fun bt729 => ((qr16Circles.f k b L l1).bind fun bt733 => (ql16TreeMatches.l0 k l1 bt725.1 bt725.2 bt729.1 bt729.2 bt733.1 bt733.2 0 b L)))) true := by
  have haw : Ev (fun _ : Nat => (ql16awake.f).bind fun t => (some t)) true := Ev.some_ _
  refine Ev.bind r1 (Ev.bind r2 (Ev.bind r3 ?_))
  show Ev (fun k => ql16TreeMatches.l0 k l1 br e ls e cs e 0 b L) true
  have s1 := ints_ev br br (by omega)
  have s2 := ints_ev ls ls (by omega)
  have s3 := rows_ev cs cs (by omega) (fun x hx => by have := q4 x hx; omega)
  rw [decide_eq_true rfl] at s1 s2 s3
  refine Ev.upto 2 (fun k i => ql16TreeMatches.l0 k l1 br e ls e cs e (i : Int) b L) ?_ fun i hi hnext => ?_
  · refine Ev.succ (G := fun _ : Nat => (ql16awake.f).bind fun t => (some t)) (fun k => ?_) haw
    rw [ql16TreeMatches.l0, if_neg (by omega)]
  · refine Ev.succ (fun k => by rw [ql16TreeMatches.l0, if_pos (by omega)]) (Ev.bind i1 (Ev.bind i2 (Ev.bind i3 ?_)))
    refine Ev.eq (fun k => by rw [if_pos rfl, if_pos rfl, if_pos rfl]) (Ev.bind s1 (Ev.eq (fun k => if_pos rfl) (Ev.bind s2 (Ev.eq (fun k => if_pos rfl) (Ev.bind s3 ?_)))))
    refine Ev.succ (fun k => ?_) hnext
    show ql16TreeMatches.j1 (k + 1) l1 br e ls e cs e (i : Int) br ls cs false b L = _
    rw [ql16TreeMatches.j1, if_neg (by simp), wrap_succ (by omega)]; rfl
theorem TreeMatches_true (b : Int) (L : List S37) (l1 : List Int) : ∃ k, ql16TreeMatches.f k b L l1 = some true := by
  apply Ev.tell
  obtain ⟨r, hr, hx⟩ := long_f b L [l1] (by simp)
  have haw : Ev (fun _ : Nat => (ql16awake.f).bind fun t => (some t)) true := Ev.some_ _
  refine Ev.bind hr ?_
  cases r with
  | true => exact haw
  | false =>
    obtain ⟨hL, hl⟩ := hx rfl
    have h1 : l1.length ≤ 100 := hl l1 (by simp)
    refine Ev.eq (fun k => if_neg (by simp)) ?_
    by_cases h : outsV b L l1 = 0
    · have hb := outs_bus h
      have htl := trL_len L l1
      have hbl : (brL L l1).length ≤ (trL L l1).length := List.length_filter_le _ _
      have hCl : (cycL L l1).length ≤ L.length := by
        unfold cycL offL; rw [List.length_map]
        exact Nat.le_trans (List.length_filter_le _ _) (inn_len L l1)
      refine TreeMatches_go h1 (by rw [castL_len]; omega) (by rw [castL_len]; omega) (by omega) ?_ (bridgesR_ok h) (treeR_ok h) (circlesR_ok h) (bridges_ok h) (tree_ok h) (cycles_ok h)
      intro x hx
      obtain ⟨c, _, rfl⟩ := List.mem_map.1 hx
      rw [cyc1_len]; omega
    · exact TreeMatches_go (br := []) (ls := []) (cs := []) h1 (by simp) (by simp) (by simp) (by simp) (bridgesR_bad (by omega) h) (treeR_bad (by omega) h) (circlesR_bad (by omega) h) (bridges_bad h) (tree_bad h) (cycles_bad h)
end Go.Proofs.Ytdpgdelimffjpaa.P
