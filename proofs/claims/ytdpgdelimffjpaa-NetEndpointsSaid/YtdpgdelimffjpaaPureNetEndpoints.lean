import Derived.Test.YtdpgdelimffjpaaF22
import Derived.Test.YtdpgdelimffjpaaHMem
import Derived.Test.YtdpgdelimffjpaaHOut
namespace Go.Proofs.Ytdpgdelimffjpaa.P
open Go.RowKit Go.Proofs.YtdpgdelimffjpaaW.PrintWords Go.Proofs.YtdpgdelimffjpaaW.PrintLast Go.Proofs.YtdpgdelimffjpaaW.PrintMore
attribute [local go_sem] max2_int min2_int max_two min_two max_three min_three max_four min_four
set_option linter.unusedVariables false
set_option linter.unusedSimpArgs false
/-- How many of the first n buses line k touches, if it is in service. -/
def dg (L : List S37) (out : List Int) (n k : Nat) : Nat := if out.contains (k : Int) then 0 else (if (enL L k).1 < n then 1 else 0) + (if (enL L k).2 < n then 1 else 0)
def ofL (d : Nat → Nat) (n : Nat) : List Int := (List.range n).map (fun (k : Nat) => ((d k : Nat) : Int))
theorem ofL_len (d : Nat → Nat) (n : Nat) : (ofL d n).length = n := by simp [ofL]
theorem rd_ofL (d : Nat → Nat) {n k : Nat} (h : k < n) : rd (ofL d n) (k : Int) = ((d k : Nat) : Int) := by
  rw [rd_nat _ k (by rw [ofL_len]; exact h)]; simp [ofL]
theorem ofL_set (d : Nat → Nat) {n k : Nat} (v : Nat) : (ofL d n).set k ((v : Nat) : Int) = ofL (fun j => if j = k then v else d j) n := by
  unfold ofL
  apply List.ext_getElem
  · simp
  · intro i h1 h2
    rw [List.getElem_set, List.getElem_map, List.getElem_map, List.getElem_range]
    show _ = (((if i = k then v else d i : Nat)) : Int)
    by_cases h : k = i
    · rw [if_pos h, if_pos h.symm]
    · rw [if_neg h, if_neg (fun e => h e.symm)]
theorem ofL_congr {d e : Nat → Nat} {n : Nat} (h : ∀ k, k < n → d k = e k) : ofL d n = ofL e n := by
  unfold ofL
  exact List.map_congr_left fun k hk => by rw [h k (List.mem_range.1 hk)]
theorem sumN_congr {F G : Nat → Nat} : ∀ n, (∀ t, t < n → F t = G t) → sumN F n = sumN G n
  | 0, _ => rfl
  | n + 1, h => by rw [sumN, sumN, sumN_congr n (fun t ht => h t (by omega)), h n (by omega)]
theorem sumN_two (p : Nat → Bool) : ∀ n, sumN (fun k => if p k then 0 else 2) n = 2 * ((List.range n).filter (fun k => !p k)).length
  | 0 => rfl
  | n + 1 => by
    rw [sumN, sumN_two p n, List.range_succ, List.filter_append, List.length_append]
    by_cases h : p n = true
    · simp [h]
    · simp [h]; omega
theorem sumN_le (F : Nat → Nat) (c : Nat) : ∀ n, (∀ t, t < n → F t ≤ c) → sumN F n ≤ c * n
  | 0, _ => Nat.le_refl _
  | n + 1, h => by
    have h1 := sumN_le F c n (fun t ht => h t (by omega))
    have h2 := h n (by omega)
    rw [sumN, Nat.mul_succ]; omega
/-- The lines in service at a bus. -/
def atL (L : List S37) (out : List Int) (b : Nat) : List Nat := (inn L out).filter (fun (k : Nat) => atBus (b : Int) (rd_T37 L (k : Int)))
theorem atL_sorted (L : List S37) (out : List Int) (b : Nat) : (atL L out b).Pairwise (· < ·) := List.Pairwise.filter _ (inn_sorted L out)
theorem NetEndpoints_true (b : Int) (L : List S37) (l1 : List Int) : ∃ k, pylonlaw14_NetEndpoints.f k b L l1 = some true := by
  apply Ev.tell
  obtain ⟨r, hr, hx⟩ := long_f b L [l1] (by simp)
  have haw : Ev (fun k => pylonlaw14_NetEndpoints.j0 k l1 true b L) true := by
    refine Ev.succ (G := fun _ => some true) (fun k => ?_) (Ev.some_ _)
    rw [pylonlaw14_NetEndpoints.j0, if_pos rfl]; rfl
  refine Ev.bind (F := fun k => pylonlaw14_Long.f k b L [l1]) (G := fun k t => if t = true then (pylonlaw14_NetEndpoints.j0 k l1 true b L) else ((pylonlaw14_awake.f).bind fun t2 => (if t2 = true then ((net_Outs.f k b L l1).bind fun t3 => (pylonlaw14_NetEndpoints.j0 k l1 (t3 != 0) b L)) else (pylonlaw14_NetEndpoints.j0 k l1 true b L)))) hr ?_
  cases r with
  | true => exact haw
  | false =>
    obtain ⟨_, hl⟩ := hx rfl
    have h1 : l1.length ≤ 100 := hl l1 (by simp)
    show Ev (fun k => (net_Outs.f k b L l1).bind fun t3 => (pylonlaw14_NetEndpoints.j0 k l1 (t3 != 0) b L)) true
    refine Ev.bind (outs_ev' b L l1 (by omega)) ?_
    by_cases hv : outsV b L l1 = 0
    · rw [hv]
      have hb := outs_bus hv
      obtain ⟨N, rfl⟩ := Int.eq_ofNat_of_zero_le (show 0 ≤ b by omega)
      obtain ⟨n, hn⟩ : ∃ n, n = L.length := ⟨_, rfl⟩
      have hen : ∀ k, k < n → ∃ u v : Nat, enL L k = (u, v) ∧ u < N ∧ v < N ∧ u ≠ v ∧ (rd_T37 L (k : Int)).f0 = (u : Int) ∧ (rd_T37 L (k : Int)).f1 = (v : Int) := by
        intro k hk
        obtain ⟨u, v, hu, hv2, hu2, hv3, huv, he⟩ := line_ok (outsV_ok hv).1 (show k < L.length by omega)
        exact ⟨u, v, he, by omega, by omega, huv, hu, hv2⟩
      have hmem : ∀ {x k : Nat}, k ∈ atL L l1 x ↔ k < n ∧ l1.contains (k : Int) = false ∧ ((enL L k).1 = x ∨ (enL L k).2 = x) := by
        intro x k
        unfold atL
        rw [List.mem_filter, mem_inn]
        constructor
        · rintro ⟨⟨h2, h3⟩, h4⟩
          obtain ⟨u, v, he, _, _, _, hu, hv2⟩ := hen k (by omega)
          refine ⟨by omega, by simpa using h3, ?_⟩
          unfold atBus at h4
          rw [hu, hv2, Bool.or_eq_true, decide_eq_true_eq, decide_eq_true_eq] at h4
          rw [he]; show u = x ∨ v = x; omega
        · rintro ⟨h2, h3, h4⟩
          obtain ⟨u, v, he, _, _, _, hu, hv2⟩ := hen k (by omega)
          refine ⟨⟨by omega, by simpa using h3⟩, ?_⟩
          rw [he] at h4
          have h5 : u = x ∨ v = x := h4
          unfold atBus
          rw [hu, hv2, Bool.or_eq_true, decide_eq_true_eq, decide_eq_true_eq]; omega
      have hat : ∀ x, x < N → net_At.f (N : Int) L l1 (x : Int) = some ((atL L l1 x).map (fun (k : Nat) => (k : Int)), 0) := by
        intro x hx; rw [net_At.f, if_pos hv, if_neg (by omega)]; rfl
      have hnext : ∀ x k, k < n → dg L l1 (x + 1) k = dg L l1 x k + (if k ∈ atL L l1 x then 1 else 0) := by
        intro x k hk
        obtain ⟨u, v, he, _, _, huv, _, _⟩ := hen k hk
        unfold dg
        by_cases hc : l1.contains (k : Int) = true
        · rw [if_pos hc, if_pos hc, if_neg (fun h => by have := (hmem.1 h).2.1; rw [hc] at this; cases this)]
        · rw [if_neg hc, if_neg hc, he]
          by_cases h : u = x ∨ v = x
          · have hin : k ∈ atL L l1 x := hmem.2 ⟨hk, by simpa using hc, by rw [he]; exact h⟩
            rw [if_pos hin]
            show (if u < x + 1 then 1 else 0) + (if v < x + 1 then 1 else 0) = (if u < x then 1 else 0) + (if v < x then 1 else 0) + 1
            rcases h with h | h
            · rw [if_pos (by omega), if_neg (by omega : ¬ u < x)]
              by_cases h2 : v < x
              · rw [if_pos (by omega), if_pos h2]
              · rw [if_neg (by omega), if_neg h2]
            · rw [if_pos (by omega : v < x + 1), if_neg (by omega : ¬ v < x)]
              by_cases h2 : u < x
              · rw [if_pos (by omega), if_pos h2]
              · rw [if_neg (by omega), if_neg h2]
          · have hin : k ∉ atL L l1 x := fun h2 => h (by have := (hmem.1 h2).2.2; rw [he] at this; exact this)
            rw [if_neg hin]
            show (if u < x + 1 then 1 else 0) + (if v < x + 1 then 1 else 0) = (if u < x then 1 else 0) + (if v < x then 1 else 0) + 0
            by_cases h2 : u < x
            · by_cases h3 : v < x
              · rw [if_pos (by omega), if_pos (by omega), if_pos h2, if_pos h3]
              · rw [if_pos (by omega), if_neg (by omega), if_pos h2, if_neg h3]
            · by_cases h3 : v < x
              · rw [if_neg (by omega), if_pos (by omega), if_neg h2, if_pos h3]
              · rw [if_neg (by omega), if_neg (by omega), if_neg h2, if_neg h3]
      have hdg : ∀ x k, dg L l1 x k ≤ 2 := by
        intro x k; unfold dg
        split
        · omega
        · split <;> split <;> omega
      -- the state within a bus
      obtain ⟨D, hD⟩ : ∃ D : Nat → Nat → Nat → Nat, D = fun x j k => dg L l1 x k + (if k ∈ (atL L l1 x).take j then 1 else 0) := ⟨_, rfl⟩
      have hD3 : ∀ x j k, D x j k ≤ 3 := by
        intro x j k; rw [hD]; have := hdg x k; show dg L l1 x k + (if k ∈ (atL L l1 x).take j then 1 else 0) ≤ 3; split <;> omega
      have hS : ∀ x j, sumN (D x j) n ≤ 3 * n := fun x j => sumN_le _ 3 n (fun t _ => hD3 x j t)
      have hinl := inL_len L l1
      have last : ∀ m i : Nat, i + m = (inn L l1).length → Ev (fun k => pylonlaw14_NetEndpoints.l2 k (inL L l1) (ofL (dg L l1 N) n) ((sumN (dg L l1 N) n : Nat) : Int) (i : Int)) true := by
        intro m
        induction m with
        | zero =>
          intro i hi
          refine Ev.succ (G := fun _ => some true) (fun k => ?_) (Ev.some_ _)
          have hs : sumN (dg L l1 N) n = 2 * (inn L l1).length := by
            rw [sumN_congr (G := fun k => if l1.contains (k : Int) then 0 else 2) n (fun t ht => ?_), sumN_two]
            · rw [hn]; rfl
            · obtain ⟨u, v, he, hu, hv2, _, _, _⟩ := hen t ht
              unfold dg
              by_cases hc : l1.contains (t : Int) = true
              · rw [if_pos hc, if_pos hc]
              · rw [if_neg hc, if_neg hc, he, if_pos (show u < N from hu), if_pos (show v < N from hv2)]
          have hil := inn_len L l1
          rw [pylonlaw14_NetEndpoints.l2, if_neg (by omega), hs, hinl, wrap_small (by omega) (by omega)]
          congr 1
          rw [beq_iff_eq]; omega
        | succ m ih =>
          intro i hi
          have hil : i < (inn L l1).length := by omega
          have hil2 := inn_len L l1
          obtain ⟨k0, hk0⟩ : ∃ k0, k0 = (inn L l1)[i] := ⟨_, rfl⟩
          have hkm := mem_inn.1 (show k0 ∈ inn L l1 by rw [hk0]; exact List.getElem_mem hil)
          have hrd : rd (inL L l1) (i : Int) = (k0 : Int) := by rw [rd_nat _ i (by omega), hk0]; simp [inL]
          have h2 : dg L l1 N k0 = 2 := by
            obtain ⟨u, v, he, hu, hv2, _, _, _⟩ := hen k0 (by omega)
            unfold dg
            rw [if_neg (by simpa using hkm.2), he, if_pos (show u < N from hu), if_pos (show v < N from hv2)]
          refine Ev.succ (fun k => ?_) (ih (i + 1) (by omega))
          rw [pylonlaw14_NetEndpoints.l2, if_pos (by omega), if_pos (by omega), hrd, if_neg (by omega), if_neg (by rw [ofL_len]; omega), if_pos (by omega), if_pos (by rw [ofL_len]; omega), rd_ofL _ (by omega), h2, if_pos (show ((2 : Nat) : Int) = 2 from rfl), wrap_small (by omega) (by omega)]; rfl
      have outer : ∀ m x : Nat, x + m = N → Ev (fun k => pylonlaw14_NetEndpoints.l0 k l1 (inL L l1) (ofL (dg L l1 x) n) ((sumN (dg L l1 x) n : Nat) : Int) (x : Int) (N : Int) L) true := by
        intro m
        induction m with
        | zero =>
          intro x hx
          have : x = N := by omega
          subst this
          refine Ev.succ (fun k => ?_) (last (inn L l1).length 0 (by omega))
          rw [pylonlaw14_NetEndpoints.l0, if_neg (by omega)]; rfl
        | succ m ih =>
          intro x hx
          have hxN : x < N := by omega
          have hlen : (atL L l1 x).length ≤ n := by
            unfold atL
            have h2 := List.length_filter_le (fun (k : Nat) => atBus (x : Int) (rd_T37 L (k : Int))) (inn L l1)
            have h3 := inn_len L l1
            omega
          have hml : ((atL L l1 x).map (fun (k : Nat) => (k : Int))).length = (atL L l1 x).length := by simp
          have hend : Ev (fun k => pylonlaw14_NetEndpoints.l0 k l1 (inL L l1) (ofL (D x (atL L l1 x).length) n) ((sumN (D x (atL L l1 x).length) n : Nat) : Int) ((x + 1 : Nat) : Int) (N : Int) L) true := by
            have e1 : ∀ k, k < n → D x (atL L l1 x).length k = dg L l1 (x + 1) k := by
              intro k hk; rw [hD, hnext x k hk]; simp
            rw [ofL_congr e1, sumN_congr n e1]
            exact ih (x + 1) (by omega)
          have inner : ∀ q j : Nat, j + q = (atL L l1 x).length → Ev (fun k => pylonlaw14_NetEndpoints.l1 k l1 (inL L l1) (ofL (D x j) n) ((sumN (D x j) n : Nat) : Int) (x : Int) ((atL L l1 x).map (fun (k : Nat) => (k : Int))) (j : Int) (N : Int) L) true := by
            intro q
            induction q with
            | zero =>
              intro j hj
              have : j = (atL L l1 x).length := by omega
              subst this
              refine Ev.succ (fun k => ?_) hend
              rw [pylonlaw14_NetEndpoints.l1, if_neg (by omega), wrap_small (by omega) (by omega)]; rfl
            | succ q ihq =>
              intro j hj
              have hjl : j < (atL L l1 x).length := by omega
              obtain ⟨k0, hk0⟩ : ∃ k0, k0 = (atL L l1 x)[j] := ⟨_, rfl⟩
              have hkm := hmem.1 (show k0 ∈ atL L l1 x by rw [hk0]; exact List.getElem_mem hjl)
              have hrd : ∀ i (hi : i < (atL L l1 x).length), rd ((atL L l1 x).map (fun (k : Nat) => (k : Int))) (i : Int) = (((atL L l1 x)[i] : Nat) : Int) := by
                intro i hi; rw [rd_nat _ i (by omega)]; simp
              have hrj := hrd j hjl
              rw [← hk0] at hrj
              have hpw := atL_sorted L l1 x
              have hnot : k0 ∉ (atL L l1 x).take j := by
                intro h
                obtain ⟨i, hi, he⟩ := List.getElem_of_mem h
                rw [List.getElem_take] at he
                have hij : i < j := by rw [List.length_take] at hi; omega
                have := List.pairwise_iff_getElem.1 hpw i j (by omega) hjl hij
                omega
              have hstep : ∀ k, k < n → (fun i => if i = k0 then D x j k0 + 1 else D x j i) k = D x (j + 1) k := by
                intro k hk
                have e1 : ∀ i, D x (j + 1) i = dg L l1 x i + (if i ∈ (atL L l1 x).take j ∨ i = k0 then 1 else 0) := by
                  intro i; rw [hD]
                  show dg L l1 x i + (if i ∈ (atL L l1 x).take (j + 1) then 1 else 0) = _
                  rw [List.take_succ_eq_append_getElem hjl, ← hk0]
                  simp only [List.mem_append, List.mem_singleton]
                have e2 : ∀ i, D x j i = dg L l1 x i + (if i ∈ (atL L l1 x).take j then 1 else 0) := by intro i; rw [hD]
                show (if k = k0 then D x j k0 + 1 else D x j k) = _
                rw [e1]
                by_cases h : k = k0
                · rw [if_pos h, e2, if_neg hnot, if_pos (Or.inr h), h]
                · rw [if_neg h, e2]
                  by_cases h2 : k ∈ (atL L l1 x).take j
                  · rw [if_pos h2, if_pos (Or.inl h2)]
                  · rw [if_neg h2, if_neg (fun h3 => h3.elim h2 h)]
              have hset : (ofL (D x j) n).set k0 (wrap64 (rd (ofL (D x j) n) (k0 : Int) + 1)) = ofL (D x (j + 1)) n := by
                have h3 := hD3 x j k0
                rw [rd_ofL _ hkm.1, wrap_small (by omega) (by omega)]
                have := ofL_set (D x j) (n := n) (k := k0) (D x j k0 + 1)
                rw [← ofL_congr hstep, ← this]; rfl
              have hsum : sumN (D x (j + 1)) n = sumN (D x j) n + 1 := by
                refine sumN_one (k := k0) n (fun t ht hne => ?_) hkm.1 ?_
                · have := hstep t ht; rw [← this]; show (if t = k0 then _ else _) = _; rw [if_neg hne]
                · have := hstep k0 hkm.1; rw [← this]; show (if k0 = k0 then _ else _) = _; rw [if_pos rfl]
              have hSj := hS x j
              have hnext2 := ihq (j + 1) (by omega)
              rw [hsum] at hnext2
              refine Ev.succ (fun k => ?_) hnext2
              rw [pylonlaw14_NetEndpoints.l1, if_pos (by omega), if_pos (by omega), hrj, if_neg (by omega), if_neg (by rw [ofL_len]; omega)]
              by_cases hj0 : j = 0
              · subst hj0
                rw [if_neg (by omega), if_pos (by omega), if_pos (by rw [ofL_len]; omega), Int.toNat_natCast, hset, wrap_small (by omega) (by omega), wrap_small (by omega) (by omega)]; rfl
              · obtain ⟨j', rfl⟩ : ∃ j', j = j' + 1 := ⟨j - 1, by omega⟩
                have hlt := List.pairwise_iff_getElem.1 hpw j' (j' + 1) (by omega) hjl (by omega)
                have hw : wrap64 (((j' + 1 : Nat) : Int) - 1) = (j' : Int) := by rw [wrap_small (by omega) (by omega)]; omega
                rw [if_pos (by omega), hw, if_pos (by omega), if_pos (by omega), hrd j' (by omega), if_neg (by omega), if_pos (by omega), if_pos (by rw [ofL_len]; omega), Int.toNat_natCast, hset, wrap_small (by omega) (by omega), wrap_small (by omega) (by omega)]; rfl
          have e0 : ∀ k, k < n → dg L l1 x k = D x 0 k := by intro k _; rw [hD]; simp
          refine Ev.succ (fun k => ?_) (inner (atL L l1 x).length 0 (by omega))
          rw [pylonlaw14_NetEndpoints.l0, if_pos (by omega), hat x hxN, Option.bind_some, if_pos rfl, ofL_congr e0, sumN_congr n e0]; rfl
      have hz : List.replicate n (0 : Int) = ofL (dg L l1 0) n := by
        unfold ofL
        apply List.ext_getElem
        · simp
        · intro i h2 h3
          simp [dg]
      have hz2 : sumN (dg L l1 0) n = 0 := by
        rw [sumN_congr (G := fun _ => 0) n (fun t _ => by simp [dg]), sumN_zero]
      have h0 := outer N 0 (by omega)
      rw [← hz, hz2] at h0
      refine Ev.succ (fun k => ?_) h0
      show pylonlaw14_NetEndpoints.j0 (k + 1) l1 false (N : Int) L = _
      rw [pylonlaw14_NetEndpoints.j0, if_neg (by simp), in_ok hv, Option.bind_some, if_pos rfl, if_pos (by omega), if_pos (by omega), Int.toNat_natCast, ← hn]; rfl
    · have : (outsV b L l1 != 0) = true := bne_iff_ne.2 hv
      rw [this]; exact haw
end Go.Proofs.Ytdpgdelimffjpaa.P
