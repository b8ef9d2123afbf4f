import Derived.Test.YtdpgdelimffjpaaF55
import Derived.Test.YtdpgdelimffjpaaFB
import Derived.Test.YtdpgdelimffjpaaF62
import Derived.Test.YtdpgdelimffjpaaHOut
namespace Go.Proofs.Ytdpgdelimffjpaa.P
open Go.RowKit Go.Proofs.YtdpgdelimffjpaaW.PrintWords Go.Proofs.YtdpgdelimffjpaaW.PrintLast Go.Proofs.YtdpgdelimffjpaaW.PrintMore
attribute [local go_sem] max2_int min2_int max_two min_two max_three min_three max_four min_four
set_option linter.unusedVariables false
set_option linter.unusedSimpArgs false
theorem contains_ev (l : List Int) (x : Int) (hl : l.length ≤ 1000) : Ev (fun k => slices_Contains_int_int.f k l x) (decide (x ∈ l)) := by
  refine Ev.bind (index_f l x hl) (Ev.eq (G := fun _ => some (decide (x ∈ l))) (fun k => ?_) (Ev.some_ _))
  congr 1
  rw [decide_eq_decide]
  unfold idx
  by_cases h : x ∈ l
  · rw [if_pos h]; simp only [h, iff_true]; omega
  · rw [if_neg h]; simp only [h, iff_false]; omega
theorem has_ev (l : List Int) (x : Int) (hl : l.length ≤ 1000000) : Ev (fun k => pylonlaw16_has.f k l x) (decide (x ∈ l)) := by
  have key : ∀ m i, i + m = l.length → (∀ j (hj : j < l.length), j < i → l[j] ≠ x) → Ev (fun k => pylonref14_Has.l0 k l x (i : Int)) (decide (x ∈ l)) := by
    intro m
    induction m with
    | zero =>
      intro i hi hno
      have hn : x ∉ l := by
        intro hm
        obtain ⟨j, hj, e⟩ := List.getElem_of_mem hm
        exact hno j hj (by omega) e
      refine Ev.succ (G := fun _ => some (decide (x ∈ l))) (fun k => ?_) (Ev.some_ _)
      rw [pylonref14_Has.l0, if_neg (by omega), decide_eq_false hn]
    | succ m ih =>
      intro i hi hno
      have hil : i < l.length := by omega
      by_cases he : l[i] = x
      · have hm : x ∈ l := by rw [← he]; exact List.getElem_mem hil
        refine Ev.succ (G := fun _ => some (decide (x ∈ l))) (fun k => ?_) (Ev.some_ _)
        rw [pylonref14_Has.l0, if_pos (by omega), if_pos (by omega), rd_nat l i hil, if_pos he, decide_eq_true hm]
      · refine Ev.succ (fun k => ?_) (ih (i + 1) (by omega) (fun j hj hji => ?_))
        · rw [pylonref14_Has.l0, if_pos (by omega), if_pos (by omega), rd_nat l i hil, if_neg he, wrap_small (by omega) (by omega)]; rfl
        · by_cases h : j = i
          · subst h; exact he
          · exact hno j hj (by omega)
  refine Ev.bind (a := decide (x ∈ l)) ?_ (Ev.some_ _)
  exact key l.length 0 (by omega) (fun j _ h => absurd h (Nat.not_lt_zero _))
/-- The numbers below n that are not in l. -/
def coL (l : List Int) (n : Nat) : List Int := ((List.range n).filter (fun (k : Nat) => !l.contains (k : Int))).map (fun (k : Nat) => (k : Int))
theorem coL_inL (L : List S37) (l : List Int) : coL l L.length = inL L l := rfl
theorem coL_succ (l : List Int) (n : Nat) : coL l (n + 1) = if (n : Int) ∈ l then coL l n else coL l n ++ [(n : Int)] := by
  unfold coL
  rw [List.range_succ, List.filter_append, List.map_append]
  by_cases h : (n : Int) ∈ l
  · rw [if_pos h]; simp [h]
  · rw [if_neg h]; simp [h]
theorem coL_len (l : List Int) (n : Nat) : (coL l n).length ≤ n := by
  unfold coL
  rw [List.length_map]
  have := List.length_filter_le (fun (k : Nat) => !l.contains (k : Int)) (List.range n)
  rwa [List.length_range] at this
theorem out_ev (b : Int) (L : List S37) (l : List Int) (hl : l.length ≤ 1000) (hL : L.length ≤ 1000) : Ev (fun k => tree_out.f k b L l) (inL L l) := by
  have key : ∀ m i, i + m = L.length → Ev (fun k => tree_out.l0 k l (coL l i) (L.length : Int) (i : Int)) (inL L l) := by
    intro m
    induction m with
    | zero =>
      intro i hi
      have : i = L.length := by omega
      subst this
      refine Ev.succ (G := fun _ => some (inL L l)) (fun k => ?_) (Ev.some_ _)
      rw [tree_out.l0, if_neg (by omega)]; rfl
    | succ m ih =>
      intro i hi
      have hlen := coL_len l i
      have h := ih (i + 1) (by omega)
      rw [coL_succ] at h
      refine Ev.succ (G := fun k => (slices_Contains_int_int.f k l (i : Int)).bind fun t524 => (if t524 = true then (tree_out.l0 k l (coL l i) (L.length : Int) (wrap64 ((i : Int) + 1))) else (if (coL l i).length < 17592186044416 then (tree_out.l0 k l (coL l i ++ [(i : Int)]) (L.length : Int) (wrap64 ((i : Int) + 1))) else (none)))) (fun k => by rw [tree_out.l0, if_pos (by omega)]) ?_
      refine Ev.bind (contains_ev l (i : Int) hl) ?_
      by_cases hm : (i : Int) ∈ l
      · rw [if_pos hm] at h
        refine Ev.eq (fun k => ?_) h
        rw [decide_eq_true hm, if_pos rfl, wrap_small (by omega) (by omega)]; rfl
      · rw [if_neg hm] at h
        refine Ev.eq (fun k => ?_) h
        rw [decide_eq_false hm, if_neg (by simp), if_pos (by omega), wrap_small (by omega) (by omega)]; rfl
  exact key L.length 0 (by omega)
theorem rest_ev (b : Int) (L : List S37) (l : List Int) (hl : l.length ≤ 1000) (hL : L.length ≤ 1000) : Ev (fun k => pylonlaw16_rest.f k b L l) (inL L l) := by
  have key : ∀ m i, i + m = L.length → Ev (fun k => pylonlaw16_rest.l0 k l (coL l i) (i : Int) b L) (inL L l) := by
    intro m
    induction m with
    | zero =>
      intro i hi
      have : i = L.length := by omega
      subst this
      refine Ev.succ (G := fun _ => some (inL L l)) (fun k => ?_) (Ev.some_ _)
      rw [pylonlaw16_rest.l0, if_neg (by omega)]; rfl
    | succ m ih =>
      intro i hi
      have hlen := coL_len l i
      have h := ih (i + 1) (by omega)
      rw [coL_succ] at h
      refine Ev.succ (G := fun k => (pylonlaw16_has.f k l (i : Int)).bind fun t887 => (if t887 = true then (pylonlaw16_rest.l0 k l (coL l i) (wrap64 ((i : Int) + 1)) b L) else (if (coL l i).length < 17592186044416 then (pylonlaw16_rest.l0 k l (coL l i ++ [(i : Int)]) (wrap64 ((i : Int) + 1)) b L) else (none)))) (fun k => by rw [pylonlaw16_rest.l0, if_pos (by omega)]) ?_
      refine Ev.bind (has_ev l (i : Int) (by omega)) ?_
      by_cases hm : (i : Int) ∈ l
      · rw [if_pos hm] at h
        refine Ev.eq (fun k => ?_) h
        rw [decide_eq_true hm, if_pos rfl, wrap_small (by omega) (by omega)]; rfl
      · rw [if_neg hm] at h
        refine Ev.eq (fun k => ?_) h
        rw [decide_eq_false hm, if_neg (by simp), if_pos (by omega), wrap_small (by omega) (by omega)]; rfl
  exact key L.length 0 (by omega)
theorem co_outs {b : Int} {L : List S37} (h : chk b L = 0) (l : List Int) : outsV b L (inL L l) = 0 := by
  rw [outsV, if_pos h, if_pos]
  rw [Bool.and_eq_true, decide_eq_true_eq]
  exact ⟨inL_rises L l, fun x hx => (mem_inL.1 hx).2.1⟩
theorem co_inn {L : List S37} {T : List Nat} (hT : ∀ k ∈ T, k < L.length) (k : Nat) : k ∈ inn L (inL L (castL T)) ↔ k ∈ T := by
  rw [mem_inn, mem_inL]
  have hc : (k : Int) ∈ castL T ↔ k ∈ T := by
    unfold castL; rw [List.mem_map]
    constructor
    · rintro ⟨j, hj, e⟩; rwa [show k = j by omega]
    · intro h; exact ⟨k, h, rfl⟩
  rw [hc]
  constructor
  · rintro ⟨h1, h2⟩
    by_cases hk : k ∈ T
    · exact hk
    · exact absurd ⟨by omega, by omega, hk⟩ h2
  · intro h; exact ⟨hT k h, fun h2 => h2.2.2 h⟩
theorem co_conn {L : List S37} {T : List Nat} (hT : ∀ k ∈ T, k < L.length) {x y : Nat} : conn (edges L (inL L (castL T))) x y ↔ cn (enL L) T x y :=
  cn_congr (en := enL L) (T := inn L (inL L (castL T))) (T' := T) (co_inn hT)
theorem conn_f' {N : Nat} {L : List S37} {out : List Int} (h : outsV (N : Int) L out = 0) {x y : Nat} (hx : x < N) (hy : y < N) : island_Connected.f (N : Int) L out (x : Int) (y : Int) = some (decide (conn (edges L out) x y), 0) := by
  have hl : (labsOf (lab (edges L out)) N).length = N := labsOf_len _ _
  rw [island_Connected.f, stands_ok h, Option.bind_some, if_pos rfl, Int.toNat_natCast, if_neg (by omega), if_neg (by rw [hl]; omega), if_neg (by omega), if_neg (by rw [hl]; omega), if_pos (by omega), if_pos (by rw [hl]; omega), if_pos (by omega), if_pos (by rw [hl]; omega), rd_labsOf _ _ _ hx, rd_labsOf _ _ _ hy]
  have e : (((lab (edges L out) x : Nat) : Int) == ((lab (edges L out) y : Nat) : Int)) = decide (conn (edges L out) x y) := by
    rw [Bool.eq_iff_iff, beq_iff_eq, decide_eq_true_eq]; unfold conn; omega
  rw [e]
/-- The spanning forest's lines. -/
def trL (L : List S37) (out : List Int) : List Nat := tr (enL L) (inn L out)
theorem trL_lt (L : List S37) (out : List Int) : ∀ k ∈ trL L out, k < L.length := fun k hk => (mem_inn.1 (tr_sub _ k hk)).1
theorem inn_nodup (L : List S37) (out : List Int) : (inn L out).Nodup := List.Pairwise.filter _ List.nodup_range
theorem trL_fo (L : List S37) (out : List Int) : Fo (enL L) (trL L out) := tr_fo _ (inn_nodup L out)
theorem trL_sorted (L : List S37) (out : List Int) : (trL L out).Pairwise (· < ·) := tr_sorted _ (inn_sorted L out)
theorem sub_len {T ks : List Nat} (h1 : T.Pairwise (· < ·)) {n : Nat} (h : ∀ k ∈ T, k < n) : T.length ≤ n := by
  have hr := cast_rises h1
  have := rises_len (m := (n : Int)) hr (fun x hx => by obtain ⟨k, hk, rfl⟩ := List.mem_map.1 hx; have := h k hk; omega) (by omega)
  rw [List.length_map] at this
  omega
theorem trL_len (L : List S37) (out : List Int) : (trL L out).length ≤ L.length := sub_len (ks := []) (trL_sorted L out) (trL_lt L out)
theorem castL_len (T : List Nat) : (castL T).length = T.length := by simp [castL]
theorem good_of {b : Int} {L : List S37} (h : chk b L = 0) {T : List Nat} (hT : ∀ k ∈ T, k < L.length) : GoodL L T := by
  refine ⟨hT, fun k hk => ?_, fun k hk => ?_, fun k hk => ?_⟩
  all_goals (obtain ⟨u, v, hu, hv, _, _, huv, he⟩ := line_ok h (hT k hk); rw [he])
  · exact hu
  · exact hv
  · exact huv
theorem tree_ok {b : Int} {L : List S37} {out : List Int} (h : outsV b L out = 0) : Ev (fun k => tree_Tree.f k b L out) (castL (trL L out), 0) := by
  have hb := outs_bus h
  have hc := (outsV_ok h).1
  obtain ⟨N, rfl⟩ := Int.eq_ofNat_of_zero_le (show 0 ≤ b by omega)
  have hil := inn_len L out
  have hll := inL_len L out
  have key : ∀ m i, i + m = (inn L out).length → Ev (fun k => tree_Tree.l0 k (castL (tr (enL L) ((inn L out).take i))) 0 (inL L out) ((inL L out).length : Int) (i : Int) (N : Int) L) (castL (trL L out), 0) := by
    intro m
    induction m with
    | zero =>
      intro i hi
      refine Ev.succ (G := fun _ => some (castL (trL L out), 0)) (fun k => ?_) (Ev.some_ _)
      rw [tree_Tree.l0, if_neg (by omega), List.take_of_length_le (by omega)]; rfl
    | succ m ih =>
      intro i hi
      have hii : i < (inn L out).length := by omega
      obtain ⟨t, ht⟩ : ∃ t, t = (inn L out)[i] := ⟨_, rfl⟩
      have htl : t < L.length := (mem_inn.1 (show t ∈ inn L out by rw [ht]; exact List.getElem_mem hii)).1
      obtain ⟨u, v, hu, hv, huN, hvN, _, hen⟩ := line_ok hc htl
      have hrd : rd (inL L out) (i : Int) = (t : Int) := by rw [rd_nat _ i (by omega), ht]; simp [inL]
      have h2 := ih (i + 1) (by omega)
      rw [List.take_succ_eq_append_getElem hii, ← ht, tr_snoc, trStep] at h2
      obtain ⟨T, hT⟩ : ∃ T, T = tr (enL L) ((inn L out).take i) := ⟨_, rfl⟩
      rw [← hT] at h2 ⊢
      have hTl : ∀ k ∈ T, k < L.length := fun k hk => (mem_inn.1 (List.mem_of_mem_take (tr_sub _ k (by rw [← hT]; exact hk)))).1
      have hTs : T.Pairwise (· < ·) := by rw [hT]; exact tr_sorted _ (List.Pairwise.sublist (List.take_sublist _ _) (inn_sorted L out))
      have hTn := sub_len (ks := []) hTs hTl
      have hcl := castL_len T
      refine Ev.succ (G := fun k => (tree_out.f k (N : Int) L (castL T)).bind fun t534 => (if 0 ≤ (t : Int) then (if (t : Int) < (L.length : Int) then ((island_Connected.f (N : Int) L t534 (u : Int) (v : Int)).bind fun bt539 => (if bt539.1 = true then (tree_Tree.l0 k (castL T) 0 (inL L out) ((inL L out).length : Int) ((i + 1 : Nat) : Int) (N : Int) L) else (if (castL T).length < 17592186044416 then (tree_Tree.l0 k (castL T ++ [(t : Int)]) 0 (inL L out) ((inL L out).length : Int) ((i + 1 : Nat) : Int) (N : Int) L) else (none)))) else (none)) else (none))) (fun k => ?_) ?_
      · rw [tree_Tree.l0, if_pos (by omega), if_pos (by omega), if_pos (by omega), hrd, hu, hv, wrap_small (by omega) (by omega)]; rfl
      · refine Ev.bind (out_ev (N : Int) L (castL T) (by omega) (by omega)) ?_
        have hcf := conn_f' (co_outs hc (castL T)) (show u < N by omega) (show v < N by omega)
        have hcn : conn (edges L (inL L (castL T))) u v ↔ cn (enL L) T (enL L t).1 (enL L t).2 := by rw [hen]; exact co_conn hTl
        by_cases hx : cn (enL L) T (enL L t).1 (enL L t).2
        · rw [if_pos hx] at h2
          refine Ev.eq (fun k => ?_) h2
          rw [if_pos (by omega), if_pos (by omega), hcf, Option.bind_some, decide_eq_true (hcn.2 hx), if_pos rfl]
        · rw [if_neg hx] at h2
          refine Ev.eq (fun k => ?_) h2
          rw [if_pos (by omega), if_pos (by omega), hcf, Option.bind_some, decide_eq_false (fun h => hx (hcn.1 h)), if_neg (by simp), if_pos (by omega)]
          simp [castL]
  refine Ev.eq (fun k => ?_) (key (inn L out).length 0 (by omega))
  rw [tree_Tree.f, in_ok h, Option.bind_some]; rfl
theorem tree_bad {b : Int} {L : List S37} {out : List Int} (h : outsV b L out ≠ 0) : Ev (fun k => tree_Tree.f k b L out) ([], outsV b L out) := by
  refine Ev.succ (G := fun _ => some ([], outsV b L out)) (fun k => ?_) (Ev.some_ _)
  rw [tree_Tree.f, in_bad h, Option.bind_some, tree_Tree.l0, if_neg (by simp)]
/-- The search in a forest. -/
theorem walk_ev {b : Int} {L : List S37} (h : chk b L = 0) {T : List Nat} (hF : Fo (enL L) T) (hT : ∀ k ∈ T, k < L.length) (a c : Nat) : Ev (fun k => tree_walk.f k b L (castL T) (a : Int) (c : Int) (List.replicate L.length 0)) (decide (cn (enL L) T a c), if cn (enL L) T a c then wayOf L T a c else List.replicate L.length 0) := by
  have hG := good_of h hT
  refine ⟨T.length + 1, fun k hk => ?_⟩
  obtain ⟨r, hr, hx⟩ := on_all hF hG a c (fuel := k) (by omega)
  show tree_walk.f k b L (castL T) (a : Int) (c : Int) (List.replicate L.length 0) = _
  unfold tree_walk.f
  rw [if_pos, hr]
  · by_cases hc : cn (enL L) T a c
    · obtain rfl := hx.2 hc
      rw [if_pos rfl, if_pos hc, decide_eq_true hc]
    · have : r = false := by
        cases r with
        | false => rfl
        | true => exact absurd (hx.1 rfl) hc
      subst this
      rw [if_neg (by simp), if_neg hc, decide_eq_false hc]
  · intro t ht
    obtain ⟨k, hk, rfl⟩ := List.mem_map.1 ht
    have h1 := hT k hk
    refine ⟨by omega, by omega, by rw [List.length_replicate]; omega, ?_⟩
    rw [hG.f0 k hk, hG.f1 k hk]
    have := hG.ne k hk
    omega
/-- The cycle of a line outside the forest. -/
def cyc1 (L : List S37) (out : List Int) (c : Nat) : List Int := (wayOf L (trL L out) (enL L c).2 (enL L c).1).set c 1
def offL (L : List S37) (out : List Int) : List Nat := (inn L out).filter (fun c => !(trL L out).contains c)
def cycL (L : List S37) (out : List Int) : List (List Int) := (offL L out).map (cyc1 L out)
theorem mem_offL {L : List S37} {out : List Int} {c : Nat} : c ∈ offL L out ↔ c ∈ inn L out ∧ c ∉ trL L out := by
  unfold offL; rw [List.mem_filter]; simp
theorem mem_castL {T : List Nat} {k : Nat} : (k : Int) ∈ castL T ↔ k ∈ T := by
  unfold castL; rw [List.mem_map]
  constructor
  · rintro ⟨j, hj, e⟩; rwa [show k = j by omega]
  · intro h; exact ⟨k, h, rfl⟩
theorem cycles_ok {b : Int} {L : List S37} {out : List Int} (h : outsV b L out = 0) : Ev (fun k => tree_Cycles.f k b L out) (cycL L out, 0) := by
  have hb := outs_bus h
  have hc := (outsV_ok h).1
  have hil := inn_len L out
  have hll := inL_len L out
  have htl := trL_len L out
  have hcl := castL_len (trL L out)
  have key : ∀ m i, i + m = (inn L out).length → Ev (fun k => tree_Cycles.l0 k ((((inn L out).take i).filter (fun c => !(trL L out).contains c)).map (cyc1 L out)) 0 (castL (trL L out)) (inL L out) ((inL L out).length : Int) (i : Int) b L) (cycL L out, 0) := by
    intro m
    induction m with
    | zero =>
      intro i hi
      refine Ev.succ (G := fun _ => some (cycL L out, 0)) (fun k => ?_) (Ev.some_ _)
      rw [tree_Cycles.l0, if_neg (by omega), List.take_of_length_le (by omega)]; rfl
    | succ m ih =>
      intro i hi
      have hii : i < (inn L out).length := by omega
      obtain ⟨t, ht⟩ : ∃ t, t = (inn L out)[i] := ⟨_, rfl⟩
      have htm : t ∈ inn L out := by rw [ht]; exact List.getElem_mem hii
      have htL : t < L.length := (mem_inn.1 htm).1
      obtain ⟨u, v, hu, hv, huN, hvN, _, hen⟩ := line_ok hc htL
      have hrd : rd (inL L out) (i : Int) = (t : Int) := by rw [rd_nat _ i (by omega), ht]; simp [inL]
      have h2 := ih (i + 1) (by omega)
      rw [List.take_succ_eq_append_getElem hii, ← ht, List.filter_append, List.map_append] at h2
      obtain ⟨X, hX⟩ : ∃ X, X = (((inn L out).take i).filter (fun c => !(trL L out).contains c)).map (cyc1 L out) := ⟨_, rfl⟩
      have hXl : X.length ≤ i := by
        rw [hX, List.length_map]
        refine Nat.le_trans (List.length_filter_le _ _) ?_
        rw [List.length_take]; omega
      rw [← hX] at h2 ⊢
      refine Ev.succ (G := fun k => (slices_Contains_int_int.f k (castL (trL L out)) (t : Int)).bind fun t554 => (if t554 = true then (tree_Cycles.l0 k X 0 (castL (trL L out)) (inL L out) ((inL L out).length : Int) ((i + 1 : Nat) : Int) b L) else ((tree_walk.f k b L (castL (trL L out)) (v : Int) (u : Int) (List.replicate L.length 0)).bind fun bt560 => (if (t : Int) < ((List.replicate L.length (0 : Int)).length : Int) then (if X.length < 5864062014805 then (tree_Cycles.l0 k (X ++ [(bt560.2.set ((t : Int) : Int).toNat 1)]) 0 (castL (trL L out)) (inL L out) ((inL L out).length : Int) ((i + 1 : Nat) : Int) b L) else (none)) else (none))))) (fun k => ?_) ?_
      · rw [tree_Cycles.l0, if_pos (by omega), if_pos (by omega), if_pos (by omega), hrd, wrap_small (by omega) (by omega)]
        simp only [hu, hv, Option.bind_some, Int.toNat_natCast]
        rw [if_pos (show (0 : Int) ≤ (L.length : Int) by omega), if_pos (show L.length ≤ 35184372088832 by omega), if_pos (show (0 : Int) ≤ (t : Int) by omega), if_pos (show (t : Int) < (L.length : Int) by omega)]
        rfl
      · refine Ev.bind (contains_ev (castL (trL L out)) (t : Int) (by omega)) ?_
        by_cases hx : t ∈ trL L out
        · have e1 : [t].filter (fun c => !(trL L out).contains c) = [] := by simp [hx]
          rw [e1, List.map_nil, List.append_nil] at h2
          refine Ev.eq (fun k => ?_) h2
          rw [decide_eq_true (mem_castL.2 hx), if_pos rfl]
        · have e1 : [t].filter (fun c => !(trL L out).contains c) = [t] := by simp [hx]
          rw [e1, List.map_cons, List.map_nil] at h2
          refine Ev.eq (fun k => by rw [decide_eq_false (fun h => hx (mem_castL.1 h)), if_neg (by simp)]) ?_
          have hw := walk_ev hc (trL_fo L out) (trL_lt L out) v u
          have hcn : cn (enL L) (trL L out) v u := by
            have := (tr_cn (en := enL L) (inn L out) v u).2 (by have := (cn_line (en := enL L) htm).symm; rw [hen] at this; exact this)
            exact this
          rw [decide_eq_true hcn, if_pos hcn] at hw
          refine Ev.bind hw (Ev.eq (fun k => ?_) h2)
          rw [if_pos (by rw [List.length_replicate]; omega), if_pos (by omega), Int.toNat_natCast]
          unfold cyc1
          rw [hen]
  refine Ev.eq (G := fun k => (tree_Tree.f k b L out).bind fun bt549 => (tree_Cycles.l0 k ([] : List (List Int)) 0 bt549.1 (inL L out) ((inL L out).length : Int) 0 b L)) (fun k => by rw [tree_Cycles.f, in_ok h, Option.bind_some]) ?_
  exact Ev.bind (tree_ok h) (key (inn L out).length 0 (by omega))
theorem cycles_bad {b : Int} {L : List S37} {out : List Int} (h : outsV b L out ≠ 0) : Ev (fun k => tree_Cycles.f k b L out) ([], outsV b L out) := by
  refine Ev.eq (G := fun k => (tree_Tree.f k b L out).bind fun bt549 => (tree_Cycles.l0 k ([] : List (List Int)) (outsV b L out) bt549.1 [] (([] : List Int).length : Int) 0 b L)) (fun k => by rw [tree_Cycles.f, in_bad h, Option.bind_some]) ?_
  refine Ev.bind (tree_bad h) (Ev.succ (G := fun _ => some ([], outsV b L out)) (fun k => ?_) (Ev.some_ _))
  rw [tree_Cycles.l0, if_neg (by simp)]
theorem cyc1_len (L : List S37) (out : List Int) (c : Nat) : (cyc1 L out c).length = L.length := by unfold cyc1; rw [List.length_set, wayOf_len]
theorem rd_cyc1 {L : List S37} {out : List Int} {c t : Nat} (ht : t < L.length) (hc : c < L.length) : rd (cyc1 L out c) (t : Int) = if t = c then 1 else W (enL L) (trL L out) (enL L c).2 (enL L c).1 t := by
  unfold cyc1
  rw [rd_set (by rw [wayOf_len]; exact hc)]
  by_cases h : t = c
  · rw [if_pos h, if_pos h]
  · rw [if_neg h, if_neg h, rd_nat _ t (by rw [wayOf_len]; exact ht)]; simp [wayOf]
/-- The bridges. -/
def brL (L : List S37) (out : List Int) : List Nat := (trL L out).filter (fun j => !(cycL L out).any (usesW (j : Int)))
theorem uses_iff {L : List S37} {out : List Int} {j : Nat} (hj : j ∈ trL L out) : (cycL L out).any (usesW (j : Int)) = true ↔ cn (enL L) (less (inn L out) j) (enL L j).1 (enL L j).2 := by
  rw [← used_iff (inn_nodup L out) hj, List.any_eq_true]
  unfold cycL
  constructor
  · rintro ⟨way, hw, hu⟩
    obtain ⟨c, hc, rfl⟩ := List.mem_map.1 hw
    obtain ⟨hc1, hc2⟩ := mem_offL.1 hc
    refine ⟨c, hc1, hc2, ?_⟩
    unfold usesW at hu
    rw [rd_cyc1 (trL_lt L out j hj) (mem_inn.1 hc1).1, if_neg (fun e => hc2 (by rw [← e]; exact hj))] at hu
    show W (enL L) (trL L out) (enL L c).2 (enL L c).1 j ≠ 0
    simpa using hu
  · rintro ⟨c, hc1, hc2, hw⟩
    refine ⟨_, List.mem_map_of_mem (mem_offL.2 ⟨hc1, hc2⟩), ?_⟩
    unfold usesW
    rw [rd_cyc1 (trL_lt L out j hj) (mem_inn.1 hc1).1, if_neg (fun e => hc2 (by rw [← e]; exact hj))]
    have hw' : W (enL L) (trL L out) (enL L c).2 (enL L c).1 j ≠ 0 := hw
    simpa using hw'
theorem bridges_ok {b : Int} {L : List S37} {out : List Int} (h : outsV b L out = 0) : Ev (fun k => tree_Bridges.f k b L out) (castL (brL L out), 0) := by
  have hb := outs_bus h
  have htl := trL_len L out
  refine Ev.bind (tree_ok h) (Ev.bind (cycles_ok h) (Ev.eq (G := fun _ => some (castL (brL L out), 0)) (fun k => ?_) (Ev.some_ _)))
  rw [if_pos]
  · congr 2
    unfold brL castL
    rw [List.filter_map]; rfl
  · refine ⟨fun x hx way hw => ?_, by rw [castL_len]; omega⟩
    obtain ⟨j, hj, rfl⟩ := List.mem_map.1 hx
    obtain ⟨c, _, rfl⟩ := List.mem_map.1 hw
    have := trL_lt L out j hj
    rw [cyc1_len]; omega
theorem bridges_bad {b : Int} {L : List S37} {out : List Int} (h : outsV b L out ≠ 0) : Ev (fun k => tree_Bridges.f k b L out) ([], outsV b L out) := by
  refine Ev.bind (tree_bad h) (Ev.bind (cycles_bad h) (Ev.eq (G := fun _ => some ([], outsV b L out)) (fun k => ?_) (Ev.some_ _)))
  rw [if_pos ⟨fun x hx => absurd hx List.not_mem_nil, by simp⟩]; rfl
end Go.Proofs.Ytdpgdelimffjpaa.P
