import Derived.Test.YtdpgdelimffjpaaF16
import Derived.Test.YtdpgdelimffjpaaHTreeP
namespace Go.Proofs.Ytdpgdelimffjpaa.P
open Go.RowKit Go.Proofs.YtdpgdelimffjpaaW.PrintWords Go.Proofs.YtdpgdelimffjpaaW.PrintLast Go.Proofs.YtdpgdelimffjpaaW.PrintMore
attribute [local go_sem] max2_int min2_int max_two min_two max_three min_three max_four min_four
set_option linter.unusedVariables false
set_option linter.unusedSimpArgs false
def ofI (F : Nat → Int) (n : Nat) : List Int := (List.range n).map F
theorem ofI_len (F : Nat → Int) (n : Nat) : (ofI F n).length = n := by simp [ofI]
theorem rd_ofI (F : Nat → Int) {n k : Nat} (h : k < n) : rd (ofI F n) (k : Int) = F k := by
  rw [rd_nat _ k (by rw [ofI_len]; exact h)]; simp [ofI]
theorem ofI_set (F : Nat → Int) {n k : Nat} (v : Int) : (ofI F n).set k v = ofI (fun j => if j = k then v else F j) n := by
  unfold ofI
  apply List.ext_getElem
  · simp
  · intro i h1 h2
    rw [List.getElem_set, List.getElem_map, List.getElem_map, List.getElem_range]
    show _ = (if i = k then v else F i)
    by_cases h : k = i
    · rw [if_pos h, if_pos h.symm]
    · rw [if_neg h, if_neg (fun e => h e.symm)]
theorem ofI_congr {F G : Nat → Int} {n : Nat} (h : ∀ k, k < n → F k = G k) : ofI F n = ofI G n := by
  unfold ofI
  exact List.map_congr_left fun k hk => h k (List.mem_range.1 hk)
theorem dl_abs (x y : Nat) : dl x y = 0 ∨ dl x y = 1 := by unfold dl; split <;> simp
theorem sum_abs (F : Nat → Int) : ∀ n, (∀ t, t < n → -1 ≤ F t ∧ F t ≤ 1) → -(n : Int) ≤ sumTo F n ∧ sumTo F n ≤ (n : Int)
  | 0, _ => by simp [sumTo]
  | n + 1, h => by
    have h1 := sum_abs F n (fun t ht => h t (by omega))
    have h2 := h n (by omega)
    rw [sumTo]; omega
theorem mul_abs {w d : Int} (h : w = 0 ∨ w = 1 ∨ w = -1) (h2 : d = -1 ∨ d = 0 ∨ d = 1) : -1 ≤ w * d ∧ w * d ≤ 1 := by
  rcases h with h | h | h <;> rcases h2 with h2 | h2 | h2 <;> subst h <;> subst h2 <;> decide
theorem dd_abs (en : Nat → Nat × Nat) (t x : Nat) : dd en t x = -1 ∨ dd en t x = 0 ∨ dd en t x = 1 := by
  unfold dd
  rcases dl_abs (en t).1 x with h | h <;> rcases dl_abs (en t).2 x with h2 | h2 <;> rw [h, h2] <;> decide
/-- What a signed list of lines gives to bus x. -/
def bal (L : List S37) (w : List Int) (n x : Nat) : Int := sumTo (fun t => rd w (t : Int) * dd (enL L) t x) n
theorem balance_ev {N : Nat} {L : List S37} (h : chk (N : Int) L = 0) {w : List Int} (hl : w.length = L.length) (hw : ∀ t : Nat, t < L.length → rd w (t : Int) = 0 ∨ rd w (t : Int) = 1 ∨ rd w (t : Int) = -1) : Ev (fun k => pylonlaw16_balance.f k (N : Int) L w) (ofI (bal L w L.length) N, true) := by
  have hb := chk_ok h
  have key : ∀ m i, i + m = L.length → Ev (fun k => pylonlaw16_balance.l0 k w (ofI (bal L w i) N) (i : Int) (N : Int) L) (ofI (bal L w L.length) N, true) := by
    intro m
    induction m with
    | zero =>
      intro i hi
      have : i = L.length := by omega
      subst this
      refine Ev.succ (G := fun _ => some (ofI (bal L w L.length) N, true)) (fun k => ?_) (Ev.some_ _)
      rw [pylonlaw16_balance.l0, if_neg (by omega)]
    | succ m ih =>
      intro i hi
      have hiL : i < L.length := by omega
      obtain ⟨u, v, hu, hv, huN, hvN, huv, hen⟩ := line_ok h hiL
      have hwi := hw i hiL
      have hbnd : ∀ x, -(i : Int) ≤ bal L w i x ∧ bal L w i x ≤ (i : Int) := fun x => sum_abs _ i (fun t ht => mul_abs (hw t (by omega)) (dd_abs _ t x))
      have hbu := hbnd u
      have hbv := hbnd v
      have hnext : ∀ x, x < N → (fun j => if j = v then (fun j => if j = u then bal L w i u + rd w (i : Int) else bal L w i j) v - rd w (i : Int) else (fun j => if j = u then bal L w i u + rd w (i : Int) else bal L w i j) j) x = bal L w (i + 1) x := by
        intro x _
        have e1 : bal L w (i + 1) x = bal L w i x + rd w (i : Int) * (dl u x - dl v x) := by
          show sumTo _ (i + 1) = _
          rw [sumTo]
          show _ + rd w (i : Int) * dd (enL L) i x = _
          unfold dd
          rw [hen]; rfl
        rw [e1]
        show (if x = v then (if v = u then bal L w i u + rd w (i : Int) else bal L w i v) - rd w (i : Int) else (if x = u then bal L w i u + rd w (i : Int) else bal L w i x)) = _
        have hvu : ¬ v = u := fun e => huv e.symm
        unfold dl
        by_cases hxv : x = v
        · have hux : ¬ u = x := fun e => huv (e.trans hxv)
          rw [if_pos hxv, if_neg hvu, if_neg hux, if_pos hxv.symm, hxv]; omega
        · have hvx : ¬ v = x := fun e => hxv e.symm
          rw [if_neg hxv, if_neg hvx]
          by_cases hxu : x = u
          · rw [if_pos hxu, if_pos hxu.symm, hxu]; omega
          · have hux : ¬ u = x := fun e => hxu e.symm
            rw [if_neg hxu, if_neg hux]; omega
      have h2 := ih (i + 1) (by omega)
      rw [← ofI_congr hnext] at h2
      refine Ev.succ (fun k => ?_) h2
      rw [pylonlaw16_balance.l0, if_pos (by omega), if_pos (by omega), if_neg (by omega), if_neg (by omega), if_pos (by omega), hu, hv, if_pos (by omega), if_pos (by rw [ofI_len]; omega), Int.toNat_natCast, rd_ofI _ (show u < N by omega), wrap_small (by omega) (by omega), ofI_set, Option.bind_some, if_pos (by omega), if_pos (by rw [ofI_len]; omega), Int.toNat_natCast, rd_ofI _ (show v < N by omega)]
      have hvu : ¬ v = u := fun e => huv e.symm
      have ev : (if v = u then bal L w i u + rd w (i : Int) else bal L w i v) = bal L w i v := if_neg hvu
      have ew : wrap64 ((if v = u then bal L w i u + rd w (i : Int) else bal L w i v) - rd w (i : Int)) = (if v = u then bal L w i u + rd w (i : Int) else bal L w i v) - rd w (i : Int) := by rw [ev, wrap_small (by omega) (by omega)]
      rw [ew, ofI_set, wrap_small (x := (i : Int) + 1) (by omega) (by omega)]
      rfl
  have hz : List.replicate N (0 : Int) = ofI (bal L w 0) N := by
    unfold ofI
    apply List.ext_getElem
    · simp
    · intro i h1 h2; simp [bal, sumTo]
  refine Ev.eq (fun k => ?_) (key L.length 0 (by omega))
  rw [pylonlaw16_balance.f, if_pos (by omega), if_pos (by omega), if_pos (by omega), Int.toNat_natCast, hz]; rfl
theorem bal_congr {L : List S37} {w : List Int} {F : Nat → Int} (h : ∀ t, t < L.length → rd w (t : Int) = F t) (x : Nat) : bal L w L.length x = sumTo (fun t => F t * dd (enL L) t x) L.length :=
  sumTo_congr _ fun t ht => by rw [h t ht]
theorem conn_arg {N : Nat} {L : List S37} {out : List Int} (h : outsV (N : Int) L out = 0) {a c : Int} (hn : ¬ (0 ≤ a ∧ a < (N : Int) ∧ 0 ≤ c ∧ c < (N : Int))) : island_Connected.f (N : Int) L out a c = some (false, 1) := by
  have hl : (labsOf (lab (edges L out)) N).length = N := labsOf_len _ _
  rw [island_Connected.f, stands_ok h, Option.bind_some, if_pos rfl, Int.toNat_natCast]
  by_cases h1 : a < 0
  · rw [if_pos h1]
  · rw [if_neg h1]
    by_cases h2 : a ≥ ((labsOf (lab (edges L out)) N).length : Int)
    · rw [if_pos h2]
    · rw [if_neg h2]
      by_cases h3 : c < 0
      · rw [if_pos h3]
      · rw [if_neg h3, if_pos (by rw [hl] at h2 ⊢; omega)]
theorem TreeBalance_true (b : Int) (L : List S37) (l1 : List Int) (from_ to_ : Int) : ∃ k, pylonlaw16_TreeBalance.f k b L l1 from_ to_ = some true := by
  apply Ev.tell
  obtain ⟨r, hr, hx⟩ := long_f b L [l1] (by simp)
  have haw : Ev (fun k => pylonlaw16_TreeBalance.j0 k l1 from_ to_ true b L) true := by
    refine Ev.succ (G := fun _ => some true) (fun k => ?_) (Ev.some_ _)
    rw [pylonlaw16_TreeBalance.j0, if_pos rfl]; rfl
  refine Ev.bind (F := fun k => pylonlaw14_Long.f k b L [l1]) (G := fun k t => if t = true then (pylonlaw16_TreeBalance.j0 k l1 from_ to_ true b L) else ((pylonlaw16_awake.f).bind fun t2 => (if t2 = true then ((net_Outs.f k b L l1).bind fun t3 => (pylonlaw16_TreeBalance.j0 k l1 from_ to_ (t3 != 0) b L)) else (pylonlaw16_TreeBalance.j0 k l1 from_ to_ true b L)))) hr ?_
  cases r with
  | true => exact haw
  | false =>
    obtain ⟨_, hl⟩ := hx rfl
    have h1 : l1.length ≤ 100 := hl l1 (by simp)
    show Ev (fun k => (net_Outs.f k b L l1).bind fun t3 => (pylonlaw16_TreeBalance.j0 k l1 from_ to_ (t3 != 0) b L)) true
    refine Ev.bind (outs_ev' b L l1 (by omega)) ?_
    by_cases hv : outsV b L l1 = 0
    · rw [hv]
      have hb := outs_bus hv
      have hc := (outsV_ok hv).1
      obtain ⟨N, rfl⟩ := Int.eq_ofNat_of_zero_le (show 0 ≤ b by omega)
      have hil := inn_len L l1
      have htl := trL_len L l1
      have hcl := castL_len (trL L l1)
      have hol : (offL L l1).length ≤ (inn L l1).length := List.length_filter_le _ _
      have hcy : (cycL L l1).length = (offL L l1).length := by simp [cycL]
      have hrc : ∀ i (hi : i < (offL L l1).length), rd_L1 (cycL L l1) (i : Int) = cyc1 L l1 ((offL L l1)[i]) := by
        intro i hi; simp [rd_L1, cycL, List.getD_eq_getElem?_getD, hi]
      -- the cycles, whatever the path
      have cycles : ∀ (w : List Int) (e : Int) (fin : Ev (fun k => pylonlaw16_TreeBalance.l0 k l1 from_ to_ (cycL L l1) w e (castL (trL L l1)) ((offL L l1).length : Int) (N : Int) L) true), ∀ m i : Nat, i + m = (offL L l1).length → Ev (fun k => pylonlaw16_TreeBalance.l0 k l1 from_ to_ (cycL L l1) w e (castL (trL L l1)) (i : Int) (N : Int) L) true := by
        intro w e fin m
        induction m with
        | zero =>
          intro i hi
          have : i = (offL L l1).length := by omega
          subst this
          exact fin
        | succ m ih =>
          intro i hi
          have hii : i < (offL L l1).length := by omega
          obtain ⟨c, hce⟩ : ∃ c, c = (offL L l1)[i] := ⟨_, rfl⟩
          obtain ⟨hci, hct⟩ := mem_offL.1 (show c ∈ offL L l1 by rw [hce]; exact List.getElem_mem hii)
          have hcL := (mem_inn.1 hci).1
          have hrci := hrc i hii
          rw [← hce] at hrci
          have hlen := cyc1_len L l1 c
          have hval : ∀ t : Nat, t < L.length → rd (cyc1 L l1 c) (t : Int) = 0 ∨ rd (cyc1 L l1 c) (t : Int) = 1 ∨ rd (cyc1 L l1 c) (t : Int) = -1 := by
            intro t ht
            rw [rd_cyc1 ht hcL]
            split
            · exact Or.inr (Or.inl rfl)
            · exact W_range t
          have hbal : ∀ x, x < N → bal L (cyc1 L l1 c) L.length x = 0 := by
            intro x _
            have hcn : cn (enL L) (trL L l1) (enL L c).2 (enL L c).1 := (tr_cn (inn L l1) _ _).2 (cn_line hci).symm
            have hflow := W_flow (trL_fo L l1) L.length (trL_lt L l1) hcn x
            have h2 := sumTo_one (F := fun t => rd (cyc1 L l1 c) (t : Int) * dd (enL L) t x) (G := fun t => W (enL L) (trL L l1) (enL L c).2 (enL L c).1 t * dd (enL L) t x) (k := c) L.length (fun t ht hne => by rw [rd_cyc1 ht hcL, if_neg hne])
            rw [if_pos hcL, hflow] at h2
            have hW : W (enL L) (trL L l1) (enL L c).2 (enL L c).1 c = 0 := by unfold W; rw [if_neg hct]
            show sumTo _ _ = _
            rw [h2, rd_cyc1 hcL hcL, if_pos rfl, hW]
            unfold dd
            omega
          have hnext := ih (i + 1) (by omega)
          have third : ∀ q j : Nat, j + q = L.length → Ev (fun k => pylonlaw16_TreeBalance.l2 k l1 from_ to_ (cycL L l1) w e (castL (trL L l1)) (i : Int) true (j : Int) (N : Int) L) true := by
            intro q
            induction q with
            | zero =>
              intro j hj
              refine Ev.succ (fun k => ?_) hnext
              rw [pylonlaw16_TreeBalance.l2, if_pos (by omega), if_pos (by omega), hrci, if_neg (by omega), if_pos rfl, wrap_small (by omega) (by omega)]; rfl
            | succ q ihq =>
              intro j hj
              have hjL : j < L.length := by omega
              have h3 := ihq (j + 1) (by omega)
              by_cases hz : rd (cyc1 L l1 c) (j : Int) = 0
              · refine Ev.succ (fun k => ?_) h3
                rw [pylonlaw16_TreeBalance.l2, if_pos (by omega), if_pos (by omega), hrci, if_pos (by omega), if_pos (by omega), if_pos hz, wrap_small (by omega) (by omega)]; rfl
              · have hno : (j : Int) ∉ l1 := by
                  have hji : j ∈ inn L l1 := by
                    by_cases hjc : j = c
                    · rw [hjc]; exact hci
                    · by_cases hjt : j ∈ trL L l1
                      · exact tr_sub _ j hjt
                      · exfalso
                        apply hz
                        rw [rd_cyc1 hjL hcL, if_neg hjc]
                        unfold W; rw [if_neg hjt]
                  exact (mem_inn.1 hji).2
                refine Ev.succ (G := fun k => (pylonlaw16_has.f k l1 (j : Int)).bind fun t970 => (if t970 = true then (some false) else (pylonlaw16_TreeBalance.l2 k l1 from_ to_ (cycL L l1) w e (castL (trL L l1)) (i : Int) true ((j + 1 : Nat) : Int) (N : Int) L))) (fun k => ?_) ?_
                · rw [pylonlaw16_TreeBalance.l2, if_pos (by omega), if_pos (by omega), hrci, if_pos (by omega), if_pos (by omega), if_neg hz, wrap_small (by omega) (by omega)]; rfl
                · refine Ev.bind (has_ev l1 _ (by omega)) (Ev.eq (fun k => ?_) h3)
                  rw [decide_eq_false hno, if_neg (by simp)]
          have second : ∀ q x : Nat, x + q = N → Ev (fun k => pylonlaw16_TreeBalance.l1 k l1 from_ to_ (cycL L l1) w e (castL (trL L l1)) (i : Int) (ofI (bal L (cyc1 L l1 c) L.length) N) true (x : Int) (N : Int) L) true := by
            intro q
            induction q with
            | zero =>
              intro x hx
              refine Ev.succ (fun k => ?_) (third L.length 0 (by omega))
              rw [pylonlaw16_TreeBalance.l1, if_neg (by rw [ofI_len]; omega)]; rfl
            | succ q ihq =>
              intro x hx
              refine Ev.succ (fun k => ?_) (ihq (x + 1) (by omega))
              rw [pylonlaw16_TreeBalance.l1, if_pos (by rw [ofI_len]; omega), if_pos (by omega), rd_ofI _ (show x < N by omega), if_pos (hbal x (by omega)), wrap_small (by omega) (by omega)]; rfl
          refine Ev.succ (G := fun k => (pylonlaw16_balance.f k (N : Int) L (cyc1 L l1 c)).bind fun bt962 => (pylonlaw16_TreeBalance.l1 k l1 from_ to_ (cycL L l1) w e (castL (trL L l1)) (i : Int) bt962.1 bt962.2 0 (N : Int) L)) (fun k => ?_) ?_
          · rw [pylonlaw16_TreeBalance.l0, if_pos (by omega), if_pos (by omega), hrci]
          · exact Ev.bind (balance_ev hc hlen hval) (second N 0 (by omega))
      refine Ev.succ (G := fun k => (tree_Cycles.f k (N : Int) L l1).bind fun bt949 => ((tree_Path.f k (N : Int) L l1 from_ to_).bind fun bt953 => ((tree_Tree.f k (N : Int) L l1).bind fun bt957 => (if bt949.2 = 0 then (if bt957.2 = 0 then (if bt953.2 = 0 then (pylonlaw16_TreeBalance.j1 k l1 from_ to_ bt949.1 bt953.1 bt953.2 bt957.1 false (N : Int) L) else (pylonlaw16_TreeBalance.j1 k l1 from_ to_ bt949.1 bt953.1 bt953.2 bt957.1 ((bt953.1.length : Int) != 0) (N : Int) L)) else (pylonlaw16_TreeBalance.j1 k l1 from_ to_ bt949.1 bt953.1 bt953.2 bt957.1 true (N : Int) L)) else (pylonlaw16_TreeBalance.j1 k l1 from_ to_ bt949.1 bt953.1 bt953.2 bt957.1 true (N : Int) L))))) (fun k => by show pylonlaw16_TreeBalance.j0 (k + 1) l1 from_ to_ false (N : Int) L = _; rw [pylonlaw16_TreeBalance.j0, if_neg (by simp)]) ?_
      refine Ev.bind (cycles_ok hv) ?_
      -- a path that is refused
      have refused : ∀ e : Int, e = 1 ∨ e = 8 → Ev (fun k => tree_Path.f k (N : Int) L l1 from_ to_) ([], e) → Ev (fun k => (tree_Path.f k (N : Int) L l1 from_ to_).bind fun bt953 => ((tree_Tree.f k (N : Int) L l1).bind fun bt957 => (if (0 : Int) = 0 then (if bt957.2 = 0 then (if bt953.2 = 0 then (pylonlaw16_TreeBalance.j1 k l1 from_ to_ (cycL L l1) bt953.1 bt953.2 bt957.1 false (N : Int) L) else (pylonlaw16_TreeBalance.j1 k l1 from_ to_ (cycL L l1) bt953.1 bt953.2 bt957.1 ((bt953.1.length : Int) != 0) (N : Int) L)) else (pylonlaw16_TreeBalance.j1 k l1 from_ to_ (cycL L l1) bt953.1 bt953.2 bt957.1 true (N : Int) L)) else (pylonlaw16_TreeBalance.j1 k l1 from_ to_ (cycL L l1) bt953.1 bt953.2 bt957.1 true (N : Int) L)))) true := by
        intro e he hp
        refine Ev.bind hp (Ev.bind (tree_ok hv) ?_)
        have hfin : Ev (fun k => pylonlaw16_TreeBalance.l0 k l1 from_ to_ (cycL L l1) [] e (castL (trL L l1)) ((offL L l1).length : Int) (N : Int) L) true := by
          refine Ev.succ (G := fun _ => some true) (fun k => ?_) (Ev.some_ _)
          rw [pylonlaw16_TreeBalance.l0, if_neg (by omega), if_neg (by omega)]
          rcases he with he | he
          · rw [if_pos he]
          · rw [if_neg (by omega), he]; rfl
        refine Ev.eq (G := fun k => pylonlaw16_TreeBalance.j1 k l1 from_ to_ (cycL L l1) [] e (castL (trL L l1)) false (N : Int) L) (fun k => ?_) (Ev.succ (fun k => ?_) (cycles [] e hfin (offL L l1).length 0 (by omega)))
        · show (if (0 : Int) = 0 then (if (0 : Int) = 0 then (if e = 0 then _ else _) else _) else _) = _
          rw [if_pos rfl, if_pos rfl, if_neg (by omega)]; rfl
        · rw [pylonlaw16_TreeBalance.j1, if_neg (by simp)]; rfl
      by_cases hrange : 0 ≤ from_ ∧ from_ < (N : Int) ∧ 0 ≤ to_ ∧ to_ < (N : Int)
      · obtain ⟨a, ha, rfl⟩ := mem_range_of hrange.1 hrange.2.1
        obtain ⟨c, hcN, rfl⟩ := mem_range_of hrange.2.2.1 hrange.2.2.2
        have hcf := conn_f' hv ha hcN
        by_cases hcn : conn (edges L l1) a c
        · have hcT : cn (enL L) (trL L l1) a c := (tr_cn (inn L l1) a c).2 hcn
          obtain ⟨w, hw⟩ : ∃ w, w = wayOf L (trL L l1) a c := ⟨_, rfl⟩
          have hwl : w.length = L.length := by rw [hw, wayOf_len]
          have hwr : ∀ t : Nat, t < L.length → rd w (t : Int) = W (enL L) (trL L l1) a c t := by
            intro t ht; rw [hw, rd_nat _ t (by rw [wayOf_len]; exact ht)]; simp [wayOf]
          have hp : Ev (fun k => tree_Path.f k (N : Int) L l1 (a : Int) (c : Int)) (w, 0) := by
            have hwalk := walk_ev hc (trL_fo L l1) (trL_lt L l1) a c
            rw [decide_eq_true hcT, if_pos hcT, ← hw] at hwalk
            refine Ev.eq (G := fun k => (tree_Tree.f k (N : Int) L l1).bind fun bt569 => ((tree_walk.f k (N : Int) L bt569.1 (a : Int) (c : Int) (List.replicate L.length 0)).bind fun bt576 => (some (bt576.2, 0)))) (fun k => ?_) (Ev.bind (tree_ok hv) (Ev.bind hwalk (Ev.some_ _)))
            rw [tree_Path.f, hcf, Option.bind_some, if_pos rfl, if_pos (decide_eq_true hcn)]
            have q1 : (0 : Int) ≤ (L.length : Int) := by omega
            have q2 : L.length ≤ 35184372088832 := by omega
            simp only [if_pos q1, Int.toNat_natCast, if_pos q2]
          refine Ev.bind hp (Ev.bind (tree_ok hv) ?_)
          have hval : ∀ t : Nat, t < L.length → rd w (t : Int) = 0 ∨ rd w (t : Int) = 1 ∨ rd w (t : Int) = -1 := fun t ht => by rw [hwr t ht]; exact W_range t
          have hbal : ∀ x, x < N → bal L w L.length x = dl a x - dl c x := fun x _ => by
            rw [bal_congr hwr x]; exact W_flow (trL_fo L l1) L.length (trL_lt L l1) hcT x
          have fifth : ∀ q j : Nat, j + q = L.length → Ev (fun k => pylonlaw16_TreeBalance.l4 k w (castL (trL L l1)) (j : Int)) true := by
            intro q
            induction q with
            | zero =>
              intro j hj
              refine Ev.succ (G := fun _ => some true) (fun k => ?_) (Ev.some_ _)
              rw [pylonlaw16_TreeBalance.l4, if_neg (by omega)]
            | succ q ihq =>
              intro j hj
              have hjL : j < L.length := by omega
              have h3 := ihq (j + 1) (by omega)
              by_cases hz : rd w (j : Int) = 0
              · refine Ev.succ (fun k => ?_) h3
                rw [pylonlaw16_TreeBalance.l4, if_pos (by omega), if_pos (by omega), if_pos hz, wrap_small (by omega) (by omega)]; rfl
              · have hjt : j ∈ trL L l1 := by
                  by_cases hjt : j ∈ trL L l1
                  · exact hjt
                  · exfalso; apply hz; rw [hwr j hjL]; unfold W; rw [if_neg hjt]
                refine Ev.succ (G := fun k => (pylonlaw16_has.f k (castL (trL L l1)) (j : Int)).bind fun t981 => (if t981 = true then (pylonlaw16_TreeBalance.l4 k w (castL (trL L l1)) ((j + 1 : Nat) : Int)) else (some false))) (fun k => ?_) ?_
                · rw [pylonlaw16_TreeBalance.l4, if_pos (by omega), if_pos (by omega), if_neg hz, wrap_small (by omega) (by omega)]; rfl
                · refine Ev.bind (has_ev _ _ (by omega)) (Ev.eq (fun k => ?_) h3)
                  rw [decide_eq_true (mem_castL.2 hjt), if_pos rfl]
          obtain ⟨Z, hZ⟩ : ∃ Z : Nat → Int, Z = fun x => if x = c then (fun j => if j = a then bal L w L.length a - 1 else bal L w L.length j) c + 1 else (fun j => if j = a then bal L w L.length a - 1 else bal L w L.length j) x := ⟨_, rfl⟩
          have hZ0 : ∀ x, x < N → Z x = 0 := by
            intro x hxN
            rw [hZ]
            have ea := hbal a ha
            have ec := hbal c hcN
            have ex := hbal x hxN
            show (if x = c then (if c = a then bal L w L.length a - 1 else bal L w L.length c) + 1 else (if x = a then bal L w L.length a - 1 else bal L w L.length x)) = 0
            unfold dl at ea ec ex
            rw [ea, ec, ex]
            by_cases hxc : x = c
            · rw [if_pos hxc]
              by_cases hca : c = a
              · rw [if_pos hca, if_pos rfl, if_pos hca]; decide
              · rw [if_neg hca, if_neg (fun e => hca e.symm), if_pos rfl]; decide
            · rw [if_neg hxc]
              by_cases hxa : x = a
              · rw [if_pos hxa, if_pos rfl, if_neg (fun e => hxc (hxa.trans e.symm))]; decide
              · rw [if_neg hxa, if_neg (fun e => hxa e.symm), if_neg (fun e => hxc e.symm)]; decide
          have fourth : ∀ q x : Nat, x + q = N → Ev (fun k => pylonlaw16_TreeBalance.l3 k w (castL (trL L l1)) (ofI Z N) (x : Int)) true := by
            intro q
            induction q with
            | zero =>
              intro x hx
              refine Ev.succ (fun k => ?_) (fifth L.length 0 (by omega))
              rw [pylonlaw16_TreeBalance.l3, if_neg (by rw [ofI_len]; omega)]; rfl
            | succ q ihq =>
              intro x hx
              refine Ev.succ (fun k => ?_) (ihq (x + 1) (by omega))
              rw [pylonlaw16_TreeBalance.l3, if_pos (by rw [ofI_len]; omega), if_pos (by omega), rd_ofI _ (show x < N by omega), if_pos (hZ0 x (by omega)), wrap_small (by omega) (by omega)]; rfl
          have hda : bal L w L.length a = 0 ∨ bal L w L.length a = 1 := by
            rw [hbal a ha]; unfold dl; rw [if_pos rfl]; split <;> simp
          have hdc : -1 ≤ (if c = a then bal L w L.length a - 1 else bal L w L.length c) ∧ (if c = a then bal L w L.length a - 1 else bal L w L.length c) ≤ 1 := by
            have := hbal c hcN
            unfold dl at this
            split
            · omega
            · rw [this]; split <;> split <;> omega
          have hfin : Ev (fun k => pylonlaw16_TreeBalance.l0 k l1 (a : Int) (c : Int) (cycL L l1) w 0 (castL (trL L l1)) ((offL L l1).length : Int) (N : Int) L) true := by
            refine Ev.succ (G := fun k => (pylonlaw16_balance.f k (N : Int) L w).bind fun bt971 => (if bt971.2 = true then (if (a : Int) < 0 then (pylonlaw16_TreeBalance.j5 k (a : Int) (c : Int) w (castL (trL L l1)) bt971.1 true) else (if (a : Int) ≥ (N : Int) then (pylonlaw16_TreeBalance.j5 k (a : Int) (c : Int) w (castL (trL L l1)) bt971.1 true) else (if (c : Int) < 0 then (pylonlaw16_TreeBalance.j5 k (a : Int) (c : Int) w (castL (trL L l1)) bt971.1 true) else (pylonlaw16_TreeBalance.j5 k (a : Int) (c : Int) w (castL (trL L l1)) bt971.1 (decide ((c : Int) ≥ (N : Int))))))) else (pylonlaw16_TreeBalance.j5 k (a : Int) (c : Int) w (castL (trL L l1)) bt971.1 true))) (fun k => ?_) ?_
            · rw [pylonlaw16_TreeBalance.l0, if_neg (by omega), if_pos rfl]
            · refine Ev.bind (balance_ev hc hwl hval) ?_
              refine Ev.eq (G := fun k => pylonlaw16_TreeBalance.j5 k (a : Int) (c : Int) w (castL (trL L l1)) (ofI (bal L w L.length) N) false) (fun k => ?_) (Ev.succ (fun k => ?_) (fourth N 0 (by omega)))
              · rw [if_pos rfl, if_neg (by omega), if_neg (by omega), if_neg (by omega), decide_eq_false (by omega)]
              · rw [pylonlaw16_TreeBalance.j5, if_neg (by simp), if_pos (by omega), if_pos (by rw [ofI_len]; omega), Int.toNat_natCast, rd_ofI _ ha, wrap_small (by omega) (by omega), ofI_set, Option.bind_some, if_pos (by omega), if_pos (by rw [ofI_len]; omega), Int.toNat_natCast, rd_ofI _ hcN, wrap_small (by omega) (by omega), ofI_set, ← hZ]; rfl
          refine Ev.eq (G := fun k => pylonlaw16_TreeBalance.j1 k l1 (a : Int) (c : Int) (cycL L l1) w 0 (castL (trL L l1)) false (N : Int) L) (fun k => ?_) (Ev.succ (fun k => ?_) (cycles w 0 hfin (offL L l1).length 0 (by omega)))
          · rfl
          · rw [pylonlaw16_TreeBalance.j1, if_neg (by simp)]; rfl
        · refine refused 8 (Or.inr rfl) (Ev.eq (G := fun _ => some ([], 8)) (fun k => ?_) (Ev.some_ _))
          rw [tree_Path.f, hcf, Option.bind_some, if_pos rfl, decide_eq_false hcn, if_neg (by simp)]
      · refine refused 1 (Or.inl rfl) (Ev.eq (G := fun _ => some ([], 1)) (fun k => ?_) (Ev.some_ _))
        rw [tree_Path.f, conn_arg hv hrange, Option.bind_some, if_neg (by decide)]
    · have : (outsV b L l1 != 0) = true := bne_iff_ne.2 hv
      rw [this]; exact haw
end Go.Proofs.Ytdpgdelimffjpaa.P
