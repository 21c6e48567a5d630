/- Walks and plain facts behind the laws of package matrix. No conditions. -/
import Derived.Test.YtpkghpljgjlmjaaRe1
/- Reduce of the reference, plain: it computes the elimination. -/
namespace Go.Proofs.Ytpkghpljgjlmjaa.K
open Go.RowKit Go.Proofs.YtpkghpljgjlmjaaW.PrintWords Go.Proofs.YtpkghpljgjlmjaaW.PrintLast Go.Proofs.YtpkghpljgjlmjaaW.PrintMore Kin
set_option linter.unusedVariables false
/-- A row of which the first k elements have been told anew. -/
def updR (r : List B) (g : Nat → B) (k : Nat) : List B := (List.range r.length).map fun j => if j < k then g j else r.getD j 0
theorem updR_length (r : List B) (g : Nat → B) (k : Nat) : (updR r g k).length = r.length := by simp [updR]
theorem updR_getD (r : List B) (g : Nat → B) (k : Nat) {j : Nat} (hj : j < r.length) : (updR r g k).getD j 0 = if j < k then g j else r.getD j 0 := by
  unfold updR
  rw [List.getD_eq_getElem?_getD, List.getElem?_map, List.getElem?_range hj]
  rfl
theorem row_ext {a b : List B} (h : a.length = b.length) (e : ∀ j, j < a.length → a.getD j 0 = b.getD j 0) : a = b := by
  refine List.ext_getElem h (fun j h1 h2 => ?_)
  have := e j h1
  rw [List.getD_eq_getElem?_getD, List.getD_eq_getElem?_getD, List.getElem?_eq_getElem h1, List.getElem?_eq_getElem h2] at this
  exact this
theorem updR_zero (r : List B) (g : Nat → B) : updR r g 0 = r :=
  row_ext (updR_length _ _ _) fun j hj => by
    rw [updR_length] at hj
    rw [updR_getD r g 0 hj, if_neg (by omega)]
theorem set_getD_eq (r : List B) (k : Nat) (x : B) (j : Nat) : (r.set k x).getD j 0 = if j = k ∧ k < r.length then x else r.getD j 0 := by
  rw [List.getD_eq_getElem?_getD, List.getElem?_set]
  by_cases h : k = j
  · subst h
    rw [if_pos rfl]
    by_cases h2 : k < r.length
    · rw [if_pos h2, if_pos ⟨rfl, h2⟩]; rfl
    · rw [if_neg h2, if_neg (by omega), List.getD_eq_getElem?_getD, List.getElem?_eq_none (by omega)]
  · rw [if_neg h, if_neg (by omega), List.getD_eq_getElem?_getD]
theorem updR_step (r : List B) (g : Nat → B) {k : Nat} (hk : k < r.length) : (updR r g k).set k (g k) = updR r g (k + 1) := by
  refine row_ext (by rw [List.length_set, updR_length, updR_length]) fun j hj => ?_
  rw [List.length_set, updR_length] at hj
  rw [set_getD_eq, updR_getD r g (k + 1) hj, updR_length]
  by_cases h : j = k
  · subst h
    rw [if_pos ⟨rfl, hk⟩, if_pos (by omega)]
  · rw [if_neg (by omega), updR_getD r g k hj]
    by_cases h2 : j < k
    · rw [if_pos h2, if_pos (by omega)]
    · rw [if_neg h2, if_neg (by omega)]
theorem set_row_at {R : List (List B)} {i : Nat} (hi : i < R.length) (r : List B) : (R.set i r).getD i [] = r := by
  rw [List.getD_eq_getElem?_getD, List.getElem?_set_self hi]; rfl
theorem set_row_ne {R : List (List B)} {i j : Nat} (h : j ≠ i) (r : List B) : (R.set i r).getD j [] = R.getD j [] := by
  rw [List.getD_eq_getElem?_getD, List.getElem?_set_ne (fun e => h e.symm), ← List.getD_eq_getElem?_getD]
theorem natInts_length (l : List Nat) : (natInts l).length = l.length := by simp [natInts]
section
variable {X0 : List (List Int)} {R : List (List Int) × List Int} {m : Nat} {piv : List Nat} {c : Nat}
theorem refred_l5 {S : List (List B)} (hS : ∀ r ∈ S, r.length = m) (hm : m ≤ 1000000) (hn : S.length ≤ 1000000) {i : Nat} (hi : i < S.length) (hp : piv.length < S.length) (hip : i ≠ piv.length) (x6 : List Int) (hx6 : x6.length = piv.length) (g : B)
    (next : Evt (fun K => refred.l4 K X0 (up2 (S.set i (updR (S.getD i []) (fun t => (S.getD i []).getD t 0 ^^^ gmul g ((S.getD piv.length []).getD t 0)) m))) x6 (c : Int) (piv.length : Int) ((i + 1 : Nat) : Int)) R) (n : Nat) :
    ∀ k, k + n = m → Evt (fun K => refred.l5 K X0 (up2 (S.set i (updR (S.getD i []) (fun t => (S.getD i []).getD t 0 ^^^ gmul g ((S.getD piv.length []).getD t 0)) k))) x6 (c : Int) (piv.length : Int) (i : Int) (b2i g) (k : Int)) R := by
  have l1 : (S.getD i []).length = m := hS _ (getD_mem' hi)
  have l2 : (S.getD piv.length []).length = m := hS _ (getD_mem' hp)
  induction n with
  | zero =>
    intro k hk
    obtain rfl : k = m := by omega
    refine next.succ fun K _ => ?_
    simp only [refred.l5]
    rw [if_neg (by omega), if_pos (by omega), if_pos (by rw [up2_length, List.length_set]; omega), rd_L1_up2, set_row_at hi, if_neg (by rw [up_length, updR_length]; omega), wrap_nx' _ (by omega)]
  | succ n ih =>
    intro k hk
    refine (ih (k + 1) (by omega)).succ fun K hK => ?_
    simp only [refred.l5]
    rw [if_neg (by omega), if_pos (by omega), if_pos (by rw [up2_length, List.length_set]; omega), rd_L1_up2, set_row_at hi, if_pos (by rw [up_length, updR_length]; omega), if_pos (by omega), if_pos (by omega), if_pos (by rw [up2_length, List.length_set]; omega), rd_L1_up2, set_row_ne (fun e => hip e.symm), if_pos (by rw [up_length]; omega), getD_up, getD_up, refmul_b _ _ (by omega)]
    simp only [Option.bind_some]
    rw [updR_getD _ _ _ (by omega), if_neg (by omega), xor_b2i, wrap_nx' _ (by omega), Int.toNat_natCast, Int.toNat_natCast, set_up, set_up2, List.set_set, updR_step (S.getD i []) (fun t => (S.getD i []).getD t 0 ^^^ gmul g ((S.getD piv.length []).getD t 0)) (by omega)]
theorem clearRow_upd {r pr : List B} (h : r.length = pr.length) (col : Nat) : updR r (fun t => r.getD t 0 ^^^ gmul (r.getD col 0) (pr.getD t 0)) r.length = clearRow pr col r := by
  have e : clearRow pr col r = addS r pr (r.getD col 0) ∨ (r.getD col 0 = 0 ∧ clearRow pr col r = r) := by
    unfold clearRow
    by_cases hz : r.getD col 0 = 0
    · rw [if_pos hz]; exact .inr ⟨hz, rfl⟩
    · rw [if_neg hz]; exact .inl rfl
  rcases e with e | ⟨hz, e⟩
  · rw [e]
    refine row_ext (by rw [updR_length, addS_length _ _ _ h]) fun j hj => ?_
    rw [updR_length] at hj
    rw [updR_getD _ _ _ hj, if_pos hj, getD_addS h, gmul_comm]
  · rw [e]
    refine row_ext (updR_length _ _ _) fun j hj => ?_
    rw [updR_length] at hj
    rw [updR_getD _ _ _ hj, if_pos hj, hz, zero_gmul, bx_zero]
theorem refred_l4 {S : List (List B)} (hS : ∀ r ∈ S, r.length = m) (hm : m ≤ 1000000) (hn : S.length ≤ 1000000) (hp : piv.length < S.length) (hc : c < m)
    (next : Evt (fun K => refred.l1 K X0 (up2 (clearRows S piv.length c)) (natInts (piv ++ [c])) ((c + 1 : Nat) : Int)) R) (n : Nat) :
    ∀ i, i + n = S.length → Evt (fun K => refred.l4 K X0 (up2 (clearUpto S piv.length c i)) (natInts piv) (c : Int) (piv.length : Int) (i : Int)) R := by
  induction n with
  | zero =>
    intro i hi
    obtain rfl : i = S.length := by omega
    refine next.succ fun K _ => ?_
    simp only [refred.l4]
    rw [if_neg (by rw [up2_length, clearUpto_length]; omega), if_pos (by rw [natInts_length]; omega), wrap_nx' _ (by omega), clearUpto_all]
    simp [natInts]
  | succ n ih =>
    intro i hi
    have hi' : i < S.length := by omega
    have hnext := ih (i + 1) (by omega)
    have hrows : ∀ r ∈ clearUpto S piv.length c i, r.length = m := by
      intro r hr
      unfold clearUpto at hr
      rw [List.mem_mapIdx] at hr
      obtain ⟨q, hq, rfl⟩ := hr
      split
      · exact clearRow_length (hS _ (getD_mem' hp)) (hS _ (List.getElem_mem hq)) c
      · exact hS _ (List.getElem_mem hq)
    have hri : (clearUpto S piv.length c i).getD i [] = S.getD i [] := by rw [clearUpto_get _ _ _ _ _ hi', if_neg (by omega)]
    have hrp : (clearUpto S piv.length c i).getD piv.length [] = S.getD piv.length [] := by rw [clearUpto_get _ _ _ _ _ hp, if_neg (by omega)]
    have hlen := clearUpto_length S piv.length c i
    have l1 : (S.getD i []).length = m := hS _ (getD_mem' hi')
    have l2 : (S.getD piv.length []).length = m := hS _ (getD_mem' hp)
    by_cases e : i = piv.length
    · refine (hnext.succ (F := fun K => refred.l5 K X0 (up2 (clearUpto S piv.length c i)) (natInts piv) (c : Int) (piv.length : Int) (i : Int) (b2i ((S.getD i []).getD c 0)) 0) fun K _ => ?_).succ fun K _ => ?_
      · simp only [refred.l5]
        rw [if_pos (by omega), wrap_nx' _ (by omega), clearUpto_succ S piv.length c i hi', if_neg (by simpa using e), ← hri, set_getD_self]
      · simp only [refred.l4]
        rw [if_pos (by rw [up2_length, hlen]; omega), if_pos (by omega), if_pos (by omega), rd_L1_up2, hri, if_pos (by rw [up_length]; omega), getD_up]
    · have hl := refred_l5 (X0 := X0) (R := R) (c := c) (piv := piv) hrows hm (by omega) (i := i) (by omega) (by omega) e (natInts piv) (natInts_length _) ((S.getD i []).getD c 0) (by
        rw [hri, hrp]
        have ee := clearRow_upd (r := S.getD i []) (pr := S.getD piv.length []) (by omega) c
        rw [l1] at ee
        rw [ee]
        rw [clearUpto_succ S piv.length c i hi', if_pos e] at hnext
        exact hnext) m 0 (by omega)
      rw [updR_zero, set_getD_self] at hl
      refine hl.succ fun K _ => ?_
      simp only [refred.l4]
      rw [if_pos (by rw [up2_length, hlen]; omega), if_pos (by omega), if_pos (by omega), rd_L1_up2, hri, if_pos (by rw [up_length]; omega), getD_up]
      rfl
theorem refred_l3 {S : List (List B)} (hS : ∀ r ∈ S, r.length = m) (hm : m ≤ 1000000) (hn : S.length ≤ 1000000) (hp : piv.length < S.length) (f : B)
    (next : Evt (fun K => refred.l4 K X0 (up2 (S.set piv.length (updR (S.getD piv.length []) (fun t => gmul ((S.getD piv.length []).getD t 0) f) m))) (natInts piv) (c : Int) (piv.length : Int) 0) R) (n : Nat) :
    ∀ k, k + n = m → Evt (fun K => refred.l3 K X0 (up2 (S.set piv.length (updR (S.getD piv.length []) (fun t => gmul ((S.getD piv.length []).getD t 0) f) k))) (natInts piv) (c : Int) (piv.length : Int) (b2i f) (k : Int)) R := by
  have l2 : (S.getD piv.length []).length = m := hS _ (getD_mem' hp)
  induction n with
  | zero =>
    intro k hk
    obtain rfl : k = m := by omega
    refine next.succ fun K _ => ?_
    simp only [refred.l3]
    rw [if_pos (by omega), if_pos (by rw [up2_length, List.length_set]; omega), rd_L1_up2, set_row_at hp, if_neg (by rw [up_length, updR_length]; omega)]
  | succ n ih =>
    intro k hk
    refine (ih (k + 1) (by omega)).succ fun K hK => ?_
    simp only [refred.l3]
    rw [if_pos (by omega), if_pos (by rw [up2_length, List.length_set]; omega), rd_L1_up2, set_row_at hp, if_pos (by rw [up_length, updR_length]; omega), if_pos (by omega), getD_up, refmul_b _ _ (by omega)]
    simp only [Option.bind_some]
    rw [updR_getD _ _ _ (by omega), if_neg (by omega), wrap_nx' _ (by omega), Int.toNat_natCast, Int.toNat_natCast, set_up, set_up2, List.set_set, updR_step (S.getD piv.length []) (fun t => gmul ((S.getD piv.length []).getD t 0) f) (by omega)]
theorem scaleRow_upd {S : List (List B)} {p c m : Nat} (l : (S.getD p []).length = m) : S.set p (updR (S.getD p []) (fun t => gmul ((S.getD p []).getD t 0) (ginv ((S.getD p []).getD c 0))) m) = scaleRow S p c := by
  unfold scaleRow
  congr 1
  refine row_ext (by rw [updR_length, List.length_map]) fun j hj => ?_
  rw [updR_length] at hj
  rw [updR_getD _ _ _ hj, if_pos (by omega), getD_map_zero (fun x => gmul x _) (zero_gmul _)]
theorem swL_up2 (S : List (List B)) (i j : Nat) : swL (up2 S) (i : Int) (j : Int) = up2 (swapRows S i j) := by
  unfold swL swapRows
  rw [rd_L1_up2, rd_L1_up2, Int.toNat_natCast, Int.toNat_natCast, set_up2, set_up2]
theorem refred_j3_some {S : List (List B)} (hS : ∀ r ∈ S, r.length = m) (hm : m ≤ 1000000) (hn : S.length ≤ 1000000) (hp : piv.length < S.length) (hc : c < m) {q : Nat} (hq : q < S.length)
    (next : Evt (fun K => refred.l1 K X0 (up2 (clearRows (scaleRow (swapRows S piv.length q) piv.length c) piv.length c)) (natInts (piv ++ [c])) ((c + 1 : Nat) : Int)) R) :
    Evt (fun K => refred.j3 K X0 (up2 S) (natInts piv) (c : Int) (piv.length : Int) (q : Int)) R := by
  have h1 := swapRows_rows hS hp hq
  have h2 := scaleRow_rows h1 (i := piv.length) c (by rw [swapRows_length]; exact hp)
  have hl := swapRows_length S piv.length q
  have hl2 := scaleRow_length (swapRows S piv.length q) piv.length c
  have l2 : ((swapRows S piv.length q).getD piv.length []).length = m := h1 _ (getD_mem' (by omega))
  have a4 := refred_l4 (X0 := X0) (R := R) h2 hm (by omega) (by omega) hc next _ 0 (Nat.zero_add _)
  rw [clearUpto_zero] at a4
  have g1 : (swapRows S piv.length q).length ≤ 1000000 := by omega
  have g2 : piv.length < (swapRows S piv.length q).length := by omega
  have a3 := refred_l3 (X0 := X0) (R := R) (piv := piv) (c := c) h1 hm g1 g2 (ginv (((swapRows S piv.length q).getD piv.length []).getD c 0)) (by rw [scaleRow_upd l2]; exact a4) m 0 (by omega)
  rw [updR_zero, set_getD_self] at a3
  refine (a3.succ (F := fun K => refred.j4 K X0 (up2 (swapRows S piv.length q)) (natInts piv) (c : Int) (piv.length : Int)) fun K hK => ?_).succ fun K _ => ?_
  · simp only [refred.j4]
    rw [if_pos (by omega), if_pos (by rw [up2_length]; omega), if_pos (by omega), rd_L1_up2, if_pos (by rw [up_length]; omega), getD_up, refinv_b _ (by omega)]
    rfl
  · simp only [refred.j3]
    rw [if_neg (by rw [up2_length]; omega), if_pos (by simp only [swOk, up2_length, Bool.and_eq_true, decide_eq_true_eq]; omega), swL_up2]
theorem refred_l2 {S : List (List B)} (hS : ∀ r ∈ S, r.length = m) (hn : S.length ≤ 1000000) (hc : c < m) (t : Nat) (ht : t ≤ S.length) (hz : t < S.length → (S.getD t []).getD c 0 ≠ 0)
    (next : Evt (fun K => refred.j3 K X0 (up2 S) (natInts piv) (c : Int) (piv.length : Int) (t : Int)) R) (n : Nat) :
    ∀ i, i + n = t → (∀ j, i ≤ j → j < t → (S.getD j []).getD c 0 = 0) → Evt (fun K => refred.l2 K X0 (up2 S) (natInts piv) (c : Int) (piv.length : Int) (i : Int)) R := by
  induction n with
  | zero =>
    intro i hi _
    obtain rfl : i = t := by omega
    refine next.succ fun K _ => ?_
    simp only [refred.l2]
    by_cases h : i < S.length
    · have l1 : (S.getD i []).length = m := hS _ (getD_mem' h)
      rw [if_pos (by rw [up2_length]; omega), if_pos (by omega), if_pos (by omega), rd_L1_up2, if_pos (by rw [up_length]; omega), getD_up, if_neg (fun e => hz h (b2i_eq_zero.1 e))]
    · rw [if_neg (by rw [up2_length]; omega)]
  | succ n ih =>
    intro i hi hz0
    refine (ih (i + 1) (by omega) (fun j h1 h2 => hz0 j (by omega) h2)).succ fun K _ => ?_
    have l1 : (S.getD i []).length = m := hS _ (getD_mem' (by omega))
    simp only [refred.l2]
    rw [if_pos (by rw [up2_length]; omega), if_pos (by omega), if_pos (by omega), rd_L1_up2, if_pos (by rw [up_length]; omega), getD_up, if_pos (b2i_eq_zero.2 (hz0 i (Nat.le_refl _) (by omega))), wrap_nx' _ (by omega)]
end
theorem findRow_first {R : List (List B)} {row col k : Nat} (h : findRow R row col = some k) {j : Nat} (h1 : row ≤ j) (h2 : j < k) : (R.getD j []).getD col 0 = 0 := by
  unfold findRow at h
  rw [List.find?_range_eq_some] at h
  obtain ⟨_, _, h3⟩ := h
  have := h3 j h2
  simp only [Bool.not_eq_true', Bool.and_eq_false_iff, decide_eq_false_iff_not] at this
  rcases this with e | e
  · exact absurd h1 e
  · exact Decidable.not_not.1 e
theorem refred_l1 {M : List (List B)} (hM : ∀ r ∈ M, r.length = colsN M) (hm : colsN M ≤ 1000000) (hn : M.length ≤ 1000000) (n : Nat) :
    ∀ c, c + n = colsN M → Evt (fun K => refred.l1 K (up2 M) (up2 (elimRun M c).1) (natInts (elimRun M c).2.1) (c : Int)) (up2 (elimRun M (colsN M)).1, natInts (elimRun M (colsN M)).2.1) := by
  induction n with
  | zero =>
    intro c hc
    obtain rfl : c = colsN M := by omega
    refine Evt.of 1 fun K hK => ?_
    obtain ⟨K, rfl⟩ : ∃ j, K = j + 1 := ⟨K - 1, by omega⟩
    simp only [refred.l1]
    rw [refcols_b, colsN_up2]
    simp only [Option.bind_some]
    rw [if_neg (by omega)]
  | succ n ih =>
    intro c hc
    have hnext := ih (c + 1) (by omega)
    rw [elimRun_succ] at hnext
    have hS := elimRun_rows hM c
    have hl := elimRun_length M c
    have hpl := elimRun_piv M c
    generalize elimRun M c = s at *
    obtain ⟨S, piv, d⟩ := s
    simp only at hS hl hpl hnext ⊢
    have go : ∀ t, t ≤ S.length → piv.length ≤ t → (t < S.length → (S.getD t []).getD c 0 ≠ 0) → (∀ j, piv.length ≤ j → j < t → (S.getD j []).getD c 0 = 0) →
        Evt (fun K => refred.j3 K (up2 M) (up2 S) (natInts piv) (c : Int) (piv.length : Int) (t : Int)) (up2 (elimRun M (colsN M)).1, natInts (elimRun M (colsN M)).2.1) →
        Evt (fun K => refred.l1 K (up2 M) (up2 S) (natInts piv) (c : Int)) (up2 (elimRun M (colsN M)).1, natInts (elimRun M (colsN M)).2.1) := by
      intro t h1 h2 h3 h4 h5
      refine (refred_l2 hS (by omega) (by omega) t h1 h3 h5 (t - piv.length) piv.length (by omega) h4).succ fun K _ => ?_
      simp only [refred.l1]
      rw [refcols_b, colsN_up2]
      simp only [Option.bind_some]
      rw [if_pos (by omega), natInts_length]
    cases hfind : findRow S piv.length c with
    | none =>
      have e : elimStep (S, piv, d) c = (S, piv, d) := by
        unfold elimStep
        simp only [hfind]
      rw [e] at hnext
      refine go S.length (Nat.le_refl _) (by omega) (fun h => absurd h (Nat.lt_irrefl _)) (fun j h1 h2 => findRow_none hfind h1 h2) ?_
      refine hnext.succ fun K _ => ?_
      simp only [refred.j3]
      rw [if_pos (by rw [up2_length]), wrap_nx' _ (by omega)]
    | some q =>
      have hq := findRow_some hfind
      have e : elimStep (S, piv, d) c = (clearRows (scaleRow (swapRows S piv.length q) piv.length c) piv.length c, piv ++ [c], gmul d (((swapRows S piv.length q).getD piv.length []).getD c 0)) := by
        unfold elimStep
        simp only [hfind]
      rw [e] at hnext
      exact go q (by omega) hq.1 (fun _ => hq.2.2) (fun j h1 h2 => findRow_first hfind h1 h2) (refred_j3_some hS hm (by omega) (by omega) (by omega) hq.2.1 hnext)
theorem refred_l0 {M : List (List B)} {R : List (List Int) × List Int} (hM : ∀ r ∈ M, r.length = colsN M) (hn : M.length ≤ 1000000)
    (next : Evt (fun K => refred.l1 K (up2 M) (up2 M) [] 0) R) (n : Nat) :
    ∀ i, i + n = M.length → Evt (fun K => refred.l0 K (up2 M) (up2 (M.take i ++ List.replicate (M.length - i) (List.replicate (colsN M) 0))) (i : Int)) R := by
  induction n with
  | zero =>
    intro i hi
    obtain rfl : i = M.length := by omega
    refine next.succ fun K _ => ?_
    simp only [refred.l0]
    rw [if_neg (by rw [up2_length]; omega), Nat.sub_self, List.take_length, List.replicate_zero, List.append_nil]
  | succ n ih =>
    intro i hi
    refine (ih (i + 1) (by omega)).succ fun K _ => ?_
    have hi' : i < M.length := by omega
    have hlen : (M.take i ++ List.replicate (M.length - i) (List.replicate (colsN M) (0 : B))).length = M.length := by simp; omega
    have hrow : (M.take i ++ List.replicate (M.length - i) (List.replicate (colsN M) (0 : B))).getD i [] = List.replicate (colsN M) 0 := by
      rw [List.getD_eq_getElem?_getD, List.getElem?_append_right (by simp; omega), List.getElem?_replicate, if_pos (by simp; omega)]
      rfl
    have hset : (M.take i ++ List.replicate (M.length - i) (List.replicate (colsN M) (0 : B))).set i (M.getD i []) = M.take (i + 1) ++ List.replicate (M.length - (i + 1)) (List.replicate (colsN M) 0) := by
      rw [List.set_append_right _ _ (by simp; omega), show i - (M.take i).length = 0 by simp; omega, show M.length - i = (M.length - (i + 1)) + 1 by omega, List.replicate_succ, List.set_cons_zero, row_at hi', show M.take (i + 1) = M.take i ++ [M[i]] from List.take_succ_eq_append_getElem hi', List.append_assoc]
      rfl
    simp only [refred.l0]
    rw [if_pos (by rw [up2_length]; omega), if_pos (by
      simp only [cpOk, Bool.and_eq_true, decide_eq_true_eq]
      rw [up2_length, hlen, rd_L1_up2, rd_L1_up2, up_length, up_length, hrow, hM _ (getD_mem' hi')]
      simp; omega), rd_L1_up2, Int.toNat_natCast, set_up2, hset, wrap_nx' _ (by omega)]
theorem refred_b {M : List (List B)} (hM : ∀ r ∈ M, r.length = colsN M) (hm : colsN M ≤ 1000000) (hn : M.length ≤ 1000000) : Evt (fun K => refred.f K (up2 M)) (up2 (elimRun M (colsN M)).1, natInts (elimRun M (colsN M)).2.1) := by
  have h1 := refred_l1 hM hm hn (colsN M) 0 (by omega)
  obtain ⟨K, h⟩ := refred_l0 hM hn h1 M.length 0 (by omega)
  refine ⟨K + M.length + 1, fun k hk => ?_⟩
  unfold refred.f
  rw [refcols_b, colsN_up2]
  simp only [Option.bind_some]
  rw [up2_length, refzero_b _ _ hn (by omega) (by omega)]
  simp only [Option.bind_some]
  have := h k (by omega)
  simp only [List.take_zero, List.nil_append, Nat.sub_zero] at this
  exact this
end Go.Proofs.Ytpkghpljgjlmjaa.K
/- Reduce of the reference: what it computes is the elimination. -/
namespace Go.Proofs.Ytpkghpljgjlmjaa.K
open Go.RowKit Go.Proofs.YtpkghpljgjlmjaaW.PrintWords Go.Proofs.YtpkghpljgjlmjaaW.PrintLast Go.Proofs.YtpkghpljgjlmjaaW.PrintMore Kin
set_option linter.unusedVariables false
def kinkeepref04_Reduce.f (l0 : List (List Int)) : Option ((List (List Int)) × List Int) :=
  if validB l0 = true then (if bytes2 l0 = true then some (up2 (elimRun (toB2 l0) (colsN l0)).1, natInts (elimRun (toB2 l0) (colsN l0)).2.1) else none) else none
theorem kinkeepref04_Reduce.calls (A0 : Option Addr) (c0 : Nat) (l0 : List (List Int)) (r1 : List (List Int)) (r2 : List Int) (w : World) (hr0 : Kd.C (Kd.slice 5 (Kd.int .u8)) w A0 l0.length l0) (hc0 : l0.length ≤ c0) (h : kinkeepref04_Reduce.f l0 = some (r1, r2)) :
    Calls Try.prog 20 #[.slice A0 l0.length c0] w fun e w' => ∃ v0_ v1_ : Value, e = .returned (.tuple #[v0_, v1_]) ∧ Kd.S (Kd.slice 5 (Kd.int .u8)) 34 w' w.heap.size (fun _ => True) v0_ r1 ∧ Kd.R (Kd.int .i64) 3 w' w.heap.size (fun _ => True) v1_ r2 ∧ Below w.heap.size w w' := by
  unfold kinkeepref04_Reduce.f at h
  split at h
  · rename_i hv
    split at h
    · rename_i hb
      obtain ⟨M, rfl⟩ := exists_bytes2 hb
      rw [validB_up2] at hv
      rw [toB2_up2, colsN_up2] at h
      obtain ⟨h1, h2, h3⟩ := validB_lim hv
      obtain ⟨K, hK⟩ := refred_b h3 (by omega) (by omega)
      exact refred.calls K A0 c0 (up2 M) r1 r2 w hr0 hc0 ((hK K (Nat.le_refl _)).trans h)
    · cases h
  · cases h
theorem refreduce_up (M : List (List B)) (hv : validB M = true) : kinkeepref04_Reduce.f (up2 M) = some (up2 (elimRun M (colsN M)).1, natInts (elimRun M (colsN M)).2.1) := by
  unfold kinkeepref04_Reduce.f
  rw [if_pos (by rw [validB_up2]; exact hv), if_pos (bytes2_up2 M), toB2_up2, colsN_up2]
end Go.Proofs.Ytpkghpljgjlmjaa.K
-- Lines of this claim, written by the session's own program kprint.py (it runs print.py).
namespace Go.Proofs.Ytpkghpljgjlmjaa.K
open Go.RowKit Go.Proofs.YtpkghpljgjlmjaaW.PrintWords Go.Proofs.YtpkghpljgjlmjaaW.PrintLast Go.Proofs.YtpkghpljgjlmjaaW.PrintMore
attribute [local go_sem] max2_int min2_int max_two min_two max_three min_three max_four min_four   -- for this text's walks alone
set_option linter.unusedVariables false
set_option linter.unusedSimpArgs false

/-! ### kinkeeplaw04_MatrixReduces: function 5 -/
def kinkeeplaw04_MatrixReduces.f (k : Nat) (l0 : List (List Int)) : Option (Bool) := (kinkeeplaw04_few.f k l0 8).bind fun t101 => (if t101 = true then ((matrix_Reduce.f l0).bind fun bt103 => ((kinkeepref04_Valid.f k l0).bind fun t110 => (if t110 = true then ((kinkeepref04_Reduce.f l0).bind fun bt113 => ((kinkeeplaw04_awake.f).bind fun t119 => (if t119 = true then (if bt103.2.2 = 0 then ((kinkeepref04_Same.f k bt103.1 bt113.1).bind fun t120 => (if t120 = true then ((kinkeepref04_Ints.f k bt103.2.1 bt113.2).bind fun t121 => (if t121 = true then ((matrix_Rank.f l0).bind fun t122 => (some (t122 == (bt113.2.length : Int)))) else (some false))) else (some false))) else (some false)) else (some false)))) else ((kinkeeplaw04_awake.f).bind fun t111 => (if t111 = true then (if bt103.2.2 = 1 then (if (bt103.1.length : Int) = 0 then (if (bt103.2.1.length : Int) = 0 then ((matrix_Rank.f l0).bind fun t112 => (some (t112 == (-1)))) else (some false)) else (some false)) else (some false)) else (some false)))))) else ((kinkeeplaw04_awake.f).bind fun t102 => (some t102)))
set_option maxHeartbeats 8000000 in
set_option maxRecDepth 100000 in
theorem kinkeeplaw04_MatrixReduces.calls (k : Nat) (A0 : Option Addr) (c0 : Nat) (l0 : List (List Int)) (r : Bool) (w : World) (hr0 : Kd.C (Kd.slice 5 (Kd.int .u8)) w A0 l0.length l0) (hc0 : l0.length ≤ c0) (h : kinkeeplaw04_MatrixReduces.f k l0 = some r) :
    Calls Try.prog 5 #[.slice A0 l0.length c0] w fun e w' => e = .returned (.bool r) ∧ Below w.heap.size w w' := by
  have HR0 := Aside0.mk hr0
  have HC0 := Aside0.mk hc0
  clear hr0 hc0
  have HB := Aside0.mk (Below.refl w.heap.size w)
  have H : ((kinkeeplaw04_few.f k l0 8).bind fun t101 => (if t101 = true then ((matrix_Reduce.f l0).bind fun bt103 => ((kinkeepref04_Valid.f k l0).bind fun t110 => (if t110 = true then ((kinkeepref04_Reduce.f l0).bind fun bt113 => ((kinkeeplaw04_awake.f).bind fun t119 => (if t119 = true then (if bt103.2.2 = 0 then ((kinkeepref04_Same.f k bt103.1 bt113.1).bind fun t120 => (if t120 = true then ((kinkeepref04_Ints.f k bt103.2.1 bt113.2).bind fun t121 => (if t121 = true then ((matrix_Rank.f l0).bind fun t122 => (some (t122 == (bt113.2.length : Int)))) else (some false))) else (some false))) else (some false)) else (some false)))) else ((kinkeeplaw04_awake.f).bind fun t111 => (if t111 = true then (if bt103.2.2 = 1 then (if (bt103.1.length : Int) = 0 then (if (bt103.2.1.length : Int) = 0 then ((matrix_Rank.f l0).bind fun t112 => (some (t112 == (-1)))) else (some false)) else (some false)) else (some false)) else (some false)))))) else ((kinkeeplaw04_awake.f).bind fun t102 => (some t102)))) = some r := h
  clear h
  replace H := Option.bind_eq_some_iff.mp H
  obtain ⟨t101, A20, H⟩ := H
  replace H : (if t101 = true then ((matrix_Reduce.f l0).bind fun bt103 => ((kinkeepref04_Valid.f k l0).bind fun t110 => (if t110 = true then ((kinkeepref04_Reduce.f l0).bind fun bt113 => ((kinkeeplaw04_awake.f).bind fun t119 => (if t119 = true then (if bt103.2.2 = 0 then ((kinkeepref04_Same.f k bt103.1 bt113.1).bind fun t120 => (if t120 = true then ((kinkeepref04_Ints.f k bt103.2.1 bt113.2).bind fun t121 => (if t121 = true then ((matrix_Rank.f l0).bind fun t122 => (some (t122 == (bt113.2.length : Int)))) else (some false))) else (some false))) else (some false)) else (some false)))) else ((kinkeeplaw04_awake.f).bind fun t111 => (if t111 = true then (if bt103.2.2 = 1 then (if (bt103.1.length : Int) = 0 then (if (bt103.2.1.length : Int) = 0 then ((matrix_Rank.f l0).bind fun t112 => (some (t112 == (-1)))) else (some false)) else (some false)) else (some false)) else (some false)))))) else ((kinkeeplaw04_awake.f).bind fun t102 => (some t102))) = some r := H
  have A2 := Aside0.mk A20
  clear A20
  by_cases c3 : t101 = true
  · subst c3
    have H1 : ((matrix_Reduce.f l0).bind fun bt103 => ((kinkeepref04_Valid.f k l0).bind fun t110 => (if t110 = true then ((kinkeepref04_Reduce.f l0).bind fun bt113 => ((kinkeeplaw04_awake.f).bind fun t119 => (if t119 = true then (if bt103.2.2 = 0 then ((kinkeepref04_Same.f k bt103.1 bt113.1).bind fun t120 => (if t120 = true then ((kinkeepref04_Ints.f k bt103.2.1 bt113.2).bind fun t121 => (if t121 = true then ((matrix_Rank.f l0).bind fun t122 => (some (t122 == (bt113.2.length : Int)))) else (some false))) else (some false))) else (some false)) else (some false)))) else ((kinkeeplaw04_awake.f).bind fun t111 => (if t111 = true then (if bt103.2.2 = 1 then (if (bt103.1.length : Int) = 0 then (if (bt103.2.1.length : Int) = 0 then ((matrix_Rank.f l0).bind fun t112 => (some (t112 == (-1)))) else (some false)) else (some false)) else (some false)) else (some false)))))) = some r := by rw [if_pos rfl] at H; exact H
    clear H
    have H := H1
    clear H1
    replace H := Option.bind_eq_some_iff.mp H
    obtain ⟨⟨t103, t104, t105⟩, A40, H⟩ := H
    replace H : ((kinkeepref04_Valid.f k l0).bind fun t110 => (if t110 = true then ((kinkeepref04_Reduce.f l0).bind fun bt113 => ((kinkeeplaw04_awake.f).bind fun t119 => (if t119 = true then (if t105 = 0 then ((kinkeepref04_Same.f k t103 bt113.1).bind fun t120 => (if t120 = true then ((kinkeepref04_Ints.f k t104 bt113.2).bind fun t121 => (if t121 = true then ((matrix_Rank.f l0).bind fun t122 => (some (t122 == (bt113.2.length : Int)))) else (some false))) else (some false))) else (some false)) else (some false)))) else ((kinkeeplaw04_awake.f).bind fun t111 => (if t111 = true then (if t105 = 1 then (if (t103.length : Int) = 0 then (if (t104.length : Int) = 0 then ((matrix_Rank.f l0).bind fun t112 => (some (t112 == (-1)))) else (some false)) else (some false)) else (some false)) else (some false))))) = some r := H
    have A4 := Aside0.mk A40
    clear A40
    replace H := Option.bind_eq_some_iff.mp H
    obtain ⟨t110, A50, H⟩ := H
    replace H : (if t110 = true then ((kinkeepref04_Reduce.f l0).bind fun bt113 => ((kinkeeplaw04_awake.f).bind fun t119 => (if t119 = true then (if t105 = 0 then ((kinkeepref04_Same.f k t103 bt113.1).bind fun t120 => (if t120 = true then ((kinkeepref04_Ints.f k t104 bt113.2).bind fun t121 => (if t121 = true then ((matrix_Rank.f l0).bind fun t122 => (some (t122 == (bt113.2.length : Int)))) else (some false))) else (some false))) else (some false)) else (some false)))) else ((kinkeeplaw04_awake.f).bind fun t111 => (if t111 = true then (if t105 = 1 then (if (t103.length : Int) = 0 then (if (t104.length : Int) = 0 then ((matrix_Rank.f l0).bind fun t112 => (some (t112 == (-1)))) else (some false)) else (some false)) else (some false)) else (some false)))) = some r := H
    have A5 := Aside0.mk A50
    clear A50
    by_cases c6 : t110 = true
    · subst c6
      have H1 : ((kinkeepref04_Reduce.f l0).bind fun bt113 => ((kinkeeplaw04_awake.f).bind fun t119 => (if t119 = true then (if t105 = 0 then ((kinkeepref04_Same.f k t103 bt113.1).bind fun t120 => (if t120 = true then ((kinkeepref04_Ints.f k t104 bt113.2).bind fun t121 => (if t121 = true then ((matrix_Rank.f l0).bind fun t122 => (some (t122 == (bt113.2.length : Int)))) else (some false))) else (some false))) else (some false)) else (some false)))) = some r := by rw [if_pos rfl] at H; exact H
      clear H
      have H := H1
      clear H1
      replace H := Option.bind_eq_some_iff.mp H
      obtain ⟨⟨t113, t114⟩, A70, H⟩ := H
      replace H : ((kinkeeplaw04_awake.f).bind fun t119 => (if t119 = true then (if t105 = 0 then ((kinkeepref04_Same.f k t103 t113).bind fun t120 => (if t120 = true then ((kinkeepref04_Ints.f k t104 t114).bind fun t121 => (if t121 = true then ((matrix_Rank.f l0).bind fun t122 => (some (t122 == (t114.length : Int)))) else (some false))) else (some false))) else (some false)) else (some false))) = some r := H
      have A7 := Aside0.mk A70
      clear A70
      replace H := Option.bind_eq_some_iff.mp H
      obtain ⟨t119, A80, H⟩ := H
      replace H : (if t119 = true then (if t105 = 0 then ((kinkeepref04_Same.f k t103 t113).bind fun t120 => (if t120 = true then ((kinkeepref04_Ints.f k t104 t114).bind fun t121 => (if t121 = true then ((matrix_Rank.f l0).bind fun t122 => (some (t122 == (t114.length : Int)))) else (some false))) else (some false))) else (some false)) else (some false)) = some r := H
      have A8 := Aside0.mk A80
      clear A80
      by_cases c9 : t119 = true
      · subst c9
        have H1 : (if t105 = 0 then ((kinkeepref04_Same.f k t103 t113).bind fun t120 => (if t120 = true then ((kinkeepref04_Ints.f k t104 t114).bind fun t121 => (if t121 = true then ((matrix_Rank.f l0).bind fun t122 => (some (t122 == (t114.length : Int)))) else (some false))) else (some false))) else (some false)) = some r := by rw [if_pos rfl] at H; exact H
        clear H
        have H := H1
        clear H1
        by_cases c10 : t105 = 0
        · rw [if_pos c10] at H
          have c10b0 : (t105 == 0) = true := beq_iff_eq.mpr c10
          have c10b1 : (t105 != 0) = false := bne_eq_false_iff_eq.mpr c10
          clear c10
          replace H := Option.bind_eq_some_iff.mp H
          obtain ⟨t120, A110, H⟩ := H
          replace H : (if t120 = true then ((kinkeepref04_Ints.f k t104 t114).bind fun t121 => (if t121 = true then ((matrix_Rank.f l0).bind fun t122 => (some (t122 == (t114.length : Int)))) else (some false))) else (some false)) = some r := H
          have A11 := Aside0.mk A110
          clear A110
          by_cases c12 : t120 = true
          · subst c12
            have H1 : ((kinkeepref04_Ints.f k t104 t114).bind fun t121 => (if t121 = true then ((matrix_Rank.f l0).bind fun t122 => (some (t122 == (t114.length : Int)))) else (some false))) = some r := by rw [if_pos rfl] at H; exact H
            clear H
            have H := H1
            clear H1
            replace H := Option.bind_eq_some_iff.mp H
            obtain ⟨t121, A130, H⟩ := H
            replace H : (if t121 = true then ((matrix_Rank.f l0).bind fun t122 => (some (t122 == (t114.length : Int)))) else (some false)) = some r := H
            have A13 := Aside0.mk A130
            clear A130
            by_cases c14 : t121 = true
            · subst c14
              have H1 : ((matrix_Rank.f l0).bind fun t122 => (some (t122 == (t114.length : Int)))) = some r := by rw [if_pos rfl] at H; exact H
              clear H
              have H := H1
              clear H1
              replace H := Option.bind_eq_some_iff.mp H
              obtain ⟨t122, A150, H⟩ := H
              replace H : (some (t122 == (t114.length : Int))) = some r := H
              have A15 := Aside0.mk A150
              clear A150
              obtain rfl := Option.some.inj H
              go_enter Try.func5, Try.ntmps5
              go_wp2_with (first | ((with_reducible refine gate_callee (f := 15) rfl ?_); refine goesL_ (some 9) rfl rfl Try.func15 (by kernel_rfl) rfl #[.slice A0 l0.length c0, .int .i64 8] rfl (by (try simp only [List.map_toArray, List.map_cons, List.map_nil]); first | done | rfl | (simp only [List.length_drop, List.length_take]; rfl)) ?_; (with_reducible refine (kinkeeplaw04_few.calls k _ _ l0 8 true _ ?side1 ?side2 A2.out).mono ?_); (case side1 => repeat (first | exact HR0.out | (with_reducible refine Kd.C_alloc ?_ _) | (with_reducible refine Kd.C_drewN ?_ _) | (with_reducible refine Kd.C_drew ?_))); (case side2 => exact HC0.out); rintro e w' ⟨rfl, ⟨nd, rfl⟩⟩; refine ⟨_, rfl, ?_⟩) | ((with_reducible refine gate_callee (f := 27) rfl ?_); refine goesL_ (some 14) rfl rfl Try.func27 (by kernel_rfl) rfl #[.slice A0 l0.length c0] rfl (by (try simp only [List.map_toArray, List.map_cons, List.map_nil]); first | done | rfl | (simp only [List.length_drop, List.length_take]; rfl)) ?_; (with_reducible refine (matrix_Reduce.calls _ _ l0 t103 t104 t105 _ ?side1 ?side2 A4.out).mono ?_); (case side1 => repeat (first | exact HR0.out | (with_reducible refine Kd.C_alloc ?_ _) | (with_reducible refine Kd.C_drewN ?_ _) | (with_reducible refine Kd.C_drew ?_))); (case side2 => exact HC0.out); rintro e w16 ⟨v106, v108, rfl, ho0, ho1, hb⟩; refine ⟨_, rfl, ?_⟩; have n0_ := Aside0.mk (Kd.S_lower ho0 (below_size (by repeat (first | (with_reducible first | exact HB.out | apply below_alloc | apply pw_below_drewN | apply below_drew1) | exact HB.out)))); have n1_ := Aside0.mk (Kd.R_lower ho1 (below_size (by repeat (first | (with_reducible first | exact HB.out | apply below_alloc | apply pw_below_drewN | apply below_drew1) | exact HB.out)))); have n2_ := Aside0.mk (below_step (by repeat (first | (with_reducible first | exact HB.out | apply below_alloc | apply pw_below_drewN | apply below_drew1) | exact HB.out)) hb); clear HB; have HO107 := n0_; have HO109 := n1_; have HB := n2_; clear n0_ n1_ n2_; (try clear hb); (try clear hb2); (try clear hk); (try clear hi); (try clear ho0); (try clear ho1)) | ((with_reducible refine gate_callee (f := 18) rfl ?_); refine goesL_ (some 19) rfl rfl Try.func18 (by kernel_rfl) rfl #[.slice A0 l0.length c0] rfl (by (try simp only [List.map_toArray, List.map_cons, List.map_nil]); first | done | rfl | (simp only [List.length_drop, List.length_take]; rfl)) ?_; (with_reducible refine (kinkeepref04_Valid.calls k _ _ l0 true _ ?side1 ?side2 A5.out).mono ?_); (case side1 => repeat (first | exact (Kd.C_below HR0.out HB.out) | (with_reducible refine Kd.C_alloc ?_ _) | (with_reducible refine Kd.C_drewN ?_ _) | (with_reducible refine Kd.C_drew ?_))); (case side2 => exact HC0.out); rintro e w' ⟨rfl, ⟨nd, rfl⟩⟩; refine ⟨_, rfl, ?_⟩) | ((with_reducible refine gate_callee (f := 20) rfl ?_); refine goesL_ (some 43) rfl rfl Try.func20 (by kernel_rfl) rfl #[.slice A0 l0.length c0] rfl (by (try simp only [List.map_toArray, List.map_cons, List.map_nil]); first | done | rfl | (simp only [List.length_drop, List.length_take]; rfl)) ?_; (with_reducible refine (kinkeepref04_Reduce.calls _ _ l0 t113 t114 _ ?side1 ?side2 A7.out).mono ?_); (case side1 => repeat (first | exact (Kd.C_below HR0.out (by repeat (first | (with_reducible first | exact HB.out | apply below_alloc | apply pw_below_drewN | apply below_drew1) | exact HB.out))) | (with_reducible refine Kd.C_alloc ?_ _) | (with_reducible refine Kd.C_drewN ?_ _) | (with_reducible refine Kd.C_drew ?_))); (case side2 => exact HC0.out); rintro e w17 ⟨v115, v117, rfl, ho0, ho1, hb⟩; refine ⟨_, rfl, ?_⟩; have n0_ := Aside0.mk (Kd.S_elder' (by (with_reducible repeat (first | apply Kd.S_alloc | apply Kd.S_drewN | apply Kd.S_drew)); exact HO107.out) (Kd.S_base ho0) hb); have n1_ := Aside0.mk (Kd.R_elder' (by (with_reducible repeat (first | apply Kd.R_alloc | apply Kd.R_drewN | apply Kd.R_drew)); exact HO109.out) (Kd.R_base ho1) hb); have n2_ := Aside0.mk (Kd.S_lower (Kd.S_new' ho0 (Kd.S_lt (by (with_reducible repeat (first | apply Kd.S_alloc | apply Kd.S_drewN | apply Kd.S_drew)); exact HO107.out))) (below_size (by repeat (first | (with_reducible first | exact HB.out | apply below_alloc | apply pw_below_drewN | apply below_drew1) | exact HB.out)))); have n3_ := Aside0.mk (Kd.R_lower (Kd.R_new' ho1 (Kd.R_lt (by (with_reducible repeat (first | apply Kd.R_alloc | apply Kd.R_drewN | apply Kd.R_drew)); exact HO109.out))) (below_size (by repeat (first | (with_reducible first | exact HB.out | apply below_alloc | apply pw_below_drewN | apply below_drew1) | exact HB.out)))); have n4_ := Aside0.mk (below_step (by repeat (first | (with_reducible first | exact HB.out | apply below_alloc | apply pw_below_drewN | apply below_drew1) | exact HB.out)) hb); clear HO107; clear HO109; clear HB; have HO107 := n0_; have HO109 := n1_; have HO116 := n2_; have HO118 := n3_; have HB := n4_; clear n0_ n1_ n2_ n3_ n4_; (try clear hb); (try clear hb2); (try clear hk); (try clear hi); (try clear ho0); (try clear ho1)) | ((with_reducible refine gate_callee (f := 16) rfl ?_); refine goesL_ (some 46) rfl rfl Try.func16 (by kernel_rfl) rfl #[] rfl (by (try simp only [List.map_toArray, List.map_cons, List.map_nil]); first | done | rfl | (simp only [List.length_drop, List.length_take]; rfl)) ?_; (with_reducible refine (kinkeeplaw04_awake.calls  true _ A8.out).mono ?_); rintro e w18 ⟨rfl, hb⟩; refine ⟨_, rfl, ?_⟩; have n0_ := Aside0.mk (Kd.S_below (by (with_reducible repeat (first | apply Kd.S_alloc | apply Kd.S_drewN | apply Kd.S_drew)); exact HO107.out) hb); have n1_ := Aside0.mk (Kd.R_below (by (with_reducible repeat (first | apply Kd.R_alloc | apply Kd.R_drewN | apply Kd.R_drew)); exact HO109.out) hb); have n2_ := Aside0.mk (Kd.S_below (by (with_reducible repeat (first | apply Kd.S_alloc | apply Kd.S_drewN | apply Kd.S_drew)); exact HO116.out) hb); have n3_ := Aside0.mk (Kd.R_below (by (with_reducible repeat (first | apply Kd.R_alloc | apply Kd.R_drewN | apply Kd.R_drew)); exact HO118.out) hb); have n4_ := Aside0.mk (below_step (by repeat (first | (with_reducible first | exact HB.out | apply below_alloc | apply pw_below_drewN | apply below_drew1) | exact HB.out)) hb); clear HO107; clear HO109; clear HO116; clear HO118; clear HB; have HO107 := n0_; have HO109 := n1_; have HO116 := n2_; have HO118 := n3_; have HB := n4_; clear n0_ n1_ n2_ n3_ n4_; (try clear hb); (try clear hb2); (try clear hk); (try clear hi); obtain ⟨Ao19, co19, eo19⟩ := Kd.S_slice HO107.out; subst eo19; obtain ⟨Ao20, co20, eo20⟩ := Kd.S_slice HO116.out; subst eo20) | (go_at_call 23; (with_reducible refine (kinkeepref04_Same.calls k _ _ t103 _ _ t113 true _ ?side1 ?side2 ?side3 ?side4 A11.out).mono ?_); (case side1 => repeat (first | exact (Kd.S_reads' HO107.out).2.2 | (with_reducible refine Kd.C_alloc ?_ _) | (with_reducible refine Kd.C_drewN ?_ _) | (with_reducible refine Kd.C_drew ?_))); (case side2 => exact (Kd.S_reads' HO107.out).2.1); (case side3 => repeat (first | exact (Kd.S_reads' HO116.out).2.2 | (with_reducible refine Kd.C_alloc ?_ _) | (with_reducible refine Kd.C_drewN ?_ _) | (with_reducible refine Kd.C_drew ?_))); (case side4 => exact (Kd.S_reads' HO116.out).2.1); rintro e w' ⟨rfl, ⟨nd, rfl⟩⟩; obtain ⟨Ao21, co21, eo21⟩ := Kd.R_slice HO109.out; subst eo21; obtain ⟨Ao22, co22, eo22⟩ := Kd.R_slice HO118.out; subst eo22) | (go_at_call 29; (with_reducible refine (kinkeepref04_Ints.calls k _ _ t104 _ _ t114 true _ ?side1 ?side2 ?side3 ?side4 A13.out).mono ?_); (case side1 => repeat (first | exact (Kd.R_reads' HO109.out).2.2 | (with_reducible refine Kd.C_alloc ?_ _) | (with_reducible refine Kd.C_drewN ?_ _) | (with_reducible refine Kd.C_drew ?_))); (case side2 => exact (Kd.R_reads' HO109.out).2.1); (case side3 => repeat (first | exact (Kd.R_reads' HO118.out).2.2 | (with_reducible refine Kd.C_alloc ?_ _) | (with_reducible refine Kd.C_drewN ?_ _) | (with_reducible refine Kd.C_drew ?_))); (case side4 => exact (Kd.R_reads' HO118.out).2.1); rintro e w' ⟨rfl, ⟨nd, rfl⟩⟩) | (go_at_call 28; (with_reducible refine (matrix_Rank.calls _ _ l0 t122 _ ?side1 ?side2 A15.out).mono ?_); (case side1 => repeat (first | exact (Kd.C_below HR0.out (by repeat (first | (with_reducible first | exact HB.out | apply below_alloc | apply pw_below_drewN | apply below_drew1) | exact HB.out))) | (with_reducible refine Kd.C_alloc ?_ _) | (with_reducible refine Kd.C_drewN ?_ _) | (with_reducible refine Kd.C_drew ?_))); (case side2 => exact HC0.out); rintro e w23 ⟨rfl, hb⟩; have n0_ := Aside0.mk (Kd.S_below (by (with_reducible repeat (first | apply Kd.S_alloc | apply Kd.S_drewN | apply Kd.S_drew)); exact HO107.out) hb); have n1_ := Aside0.mk (Kd.R_below (by (with_reducible repeat (first | apply Kd.R_alloc | apply Kd.R_drewN | apply Kd.R_drew)); exact HO109.out) hb); have n2_ := Aside0.mk (Kd.S_below (by (with_reducible repeat (first | apply Kd.S_alloc | apply Kd.S_drewN | apply Kd.S_drew)); exact HO116.out) hb); have n3_ := Aside0.mk (Kd.R_below (by (with_reducible repeat (first | apply Kd.R_alloc | apply Kd.R_drewN | apply Kd.R_drew)); exact HO118.out) hb); have n4_ := Aside0.mk (below_step (by repeat (first | (with_reducible first | exact HB.out | apply below_alloc | apply pw_below_drewN | apply below_drew1) | exact HB.out)) hb); clear HO107; clear HO109; clear HO116; clear HO118; clear HB; have HO107 := n0_; have HO109 := n1_; have HO116 := n2_; have HO118 := n3_; have HB := n4_; clear n0_ n1_ n2_ n3_ n4_; (try clear hb); (try clear hb2); (try clear hk); (try clear hi)))
              go_ret
              exact ⟨by first | rfl | (simp [errW_none, errW_some] <;> rfl) | (simp [*, errW_none, errW_some] <;> rfl), by repeat (first | (with_reducible first | exact HB.out | apply below_alloc | apply pw_below_drewN | apply below_drew1) | exact HB.out)⟩
            · replace c14 := Bool.eq_false_iff.mpr c14
              subst c14
              have H1 : (some false) = some r := by rw [if_neg (show ¬ (false = true) by decide)] at H; exact H
              clear H
              have H := H1
              clear H1
              obtain rfl := Option.some.inj H
              go_enter Try.func5, Try.ntmps5
              go_wp2_with (first | ((with_reducible refine gate_callee (f := 15) rfl ?_); refine goesL_ (some 9) rfl rfl Try.func15 (by kernel_rfl) rfl #[.slice A0 l0.length c0, .int .i64 8] rfl (by (try simp only [List.map_toArray, List.map_cons, List.map_nil]); first | done | rfl | (simp only [List.length_drop, List.length_take]; rfl)) ?_; (with_reducible refine (kinkeeplaw04_few.calls k _ _ l0 8 true _ ?side1 ?side2 A2.out).mono ?_); (case side1 => repeat (first | exact HR0.out | (with_reducible refine Kd.C_alloc ?_ _) | (with_reducible refine Kd.C_drewN ?_ _) | (with_reducible refine Kd.C_drew ?_))); (case side2 => exact HC0.out); rintro e w' ⟨rfl, ⟨nd, rfl⟩⟩; refine ⟨_, rfl, ?_⟩) | ((with_reducible refine gate_callee (f := 27) rfl ?_); refine goesL_ (some 14) rfl rfl Try.func27 (by kernel_rfl) rfl #[.slice A0 l0.length c0] rfl (by (try simp only [List.map_toArray, List.map_cons, List.map_nil]); first | done | rfl | (simp only [List.length_drop, List.length_take]; rfl)) ?_; (with_reducible refine (matrix_Reduce.calls _ _ l0 t103 t104 t105 _ ?side1 ?side2 A4.out).mono ?_); (case side1 => repeat (first | exact HR0.out | (with_reducible refine Kd.C_alloc ?_ _) | (with_reducible refine Kd.C_drewN ?_ _) | (with_reducible refine Kd.C_drew ?_))); (case side2 => exact HC0.out); rintro e w24 ⟨v106, v108, rfl, ho0, ho1, hb⟩; refine ⟨_, rfl, ?_⟩; have n0_ := Aside0.mk (Kd.S_lower ho0 (below_size (by repeat (first | (with_reducible first | exact HB.out | apply below_alloc | apply pw_below_drewN | apply below_drew1) | exact HB.out)))); have n1_ := Aside0.mk (Kd.R_lower ho1 (below_size (by repeat (first | (with_reducible first | exact HB.out | apply below_alloc | apply pw_below_drewN | apply below_drew1) | exact HB.out)))); have n2_ := Aside0.mk (below_step (by repeat (first | (with_reducible first | exact HB.out | apply below_alloc | apply pw_below_drewN | apply below_drew1) | exact HB.out)) hb); clear HB; have HO107 := n0_; have HO109 := n1_; have HB := n2_; clear n0_ n1_ n2_; (try clear hb); (try clear hb2); (try clear hk); (try clear hi); (try clear ho0); (try clear ho1)) | ((with_reducible refine gate_callee (f := 18) rfl ?_); refine goesL_ (some 19) rfl rfl Try.func18 (by kernel_rfl) rfl #[.slice A0 l0.length c0] rfl (by (try simp only [List.map_toArray, List.map_cons, List.map_nil]); first | done | rfl | (simp only [List.length_drop, List.length_take]; rfl)) ?_; (with_reducible refine (kinkeepref04_Valid.calls k _ _ l0 true _ ?side1 ?side2 A5.out).mono ?_); (case side1 => repeat (first | exact (Kd.C_below HR0.out HB.out) | (with_reducible refine Kd.C_alloc ?_ _) | (with_reducible refine Kd.C_drewN ?_ _) | (with_reducible refine Kd.C_drew ?_))); (case side2 => exact HC0.out); rintro e w' ⟨rfl, ⟨nd, rfl⟩⟩; refine ⟨_, rfl, ?_⟩) | ((with_reducible refine gate_callee (f := 20) rfl ?_); refine goesL_ (some 43) rfl rfl Try.func20 (by kernel_rfl) rfl #[.slice A0 l0.length c0] rfl (by (try simp only [List.map_toArray, List.map_cons, List.map_nil]); first | done | rfl | (simp only [List.length_drop, List.length_take]; rfl)) ?_; (with_reducible refine (kinkeepref04_Reduce.calls _ _ l0 t113 t114 _ ?side1 ?side2 A7.out).mono ?_); (case side1 => repeat (first | exact (Kd.C_below HR0.out (by repeat (first | (with_reducible first | exact HB.out | apply below_alloc | apply pw_below_drewN | apply below_drew1) | exact HB.out))) | (with_reducible refine Kd.C_alloc ?_ _) | (with_reducible refine Kd.C_drewN ?_ _) | (with_reducible refine Kd.C_drew ?_))); (case side2 => exact HC0.out); rintro e w25 ⟨v115, v117, rfl, ho0, ho1, hb⟩; refine ⟨_, rfl, ?_⟩; have n0_ := Aside0.mk (Kd.S_elder' (by (with_reducible repeat (first | apply Kd.S_alloc | apply Kd.S_drewN | apply Kd.S_drew)); exact HO107.out) (Kd.S_base ho0) hb); have n1_ := Aside0.mk (Kd.R_elder' (by (with_reducible repeat (first | apply Kd.R_alloc | apply Kd.R_drewN | apply Kd.R_drew)); exact HO109.out) (Kd.R_base ho1) hb); have n2_ := Aside0.mk (Kd.S_lower (Kd.S_new' ho0 (Kd.S_lt (by (with_reducible repeat (first | apply Kd.S_alloc | apply Kd.S_drewN | apply Kd.S_drew)); exact HO107.out))) (below_size (by repeat (first | (with_reducible first | exact HB.out | apply below_alloc | apply pw_below_drewN | apply below_drew1) | exact HB.out)))); have n3_ := Aside0.mk (Kd.R_lower (Kd.R_new' ho1 (Kd.R_lt (by (with_reducible repeat (first | apply Kd.R_alloc | apply Kd.R_drewN | apply Kd.R_drew)); exact HO109.out))) (below_size (by repeat (first | (with_reducible first | exact HB.out | apply below_alloc | apply pw_below_drewN | apply below_drew1) | exact HB.out)))); have n4_ := Aside0.mk (below_step (by repeat (first | (with_reducible first | exact HB.out | apply below_alloc | apply pw_below_drewN | apply below_drew1) | exact HB.out)) hb); clear HO107; clear HO109; clear HB; have HO107 := n0_; have HO109 := n1_; have HO116 := n2_; have HO118 := n3_; have HB := n4_; clear n0_ n1_ n2_ n3_ n4_; (try clear hb); (try clear hb2); (try clear hk); (try clear hi); (try clear ho0); (try clear ho1)) | ((with_reducible refine gate_callee (f := 16) rfl ?_); refine goesL_ (some 46) rfl rfl Try.func16 (by kernel_rfl) rfl #[] rfl (by (try simp only [List.map_toArray, List.map_cons, List.map_nil]); first | done | rfl | (simp only [List.length_drop, List.length_take]; rfl)) ?_; (with_reducible refine (kinkeeplaw04_awake.calls  true _ A8.out).mono ?_); rintro e w26 ⟨rfl, hb⟩; refine ⟨_, rfl, ?_⟩; have n0_ := Aside0.mk (Kd.S_below (by (with_reducible repeat (first | apply Kd.S_alloc | apply Kd.S_drewN | apply Kd.S_drew)); exact HO107.out) hb); have n1_ := Aside0.mk (Kd.R_below (by (with_reducible repeat (first | apply Kd.R_alloc | apply Kd.R_drewN | apply Kd.R_drew)); exact HO109.out) hb); have n2_ := Aside0.mk (Kd.S_below (by (with_reducible repeat (first | apply Kd.S_alloc | apply Kd.S_drewN | apply Kd.S_drew)); exact HO116.out) hb); have n3_ := Aside0.mk (Kd.R_below (by (with_reducible repeat (first | apply Kd.R_alloc | apply Kd.R_drewN | apply Kd.R_drew)); exact HO118.out) hb); have n4_ := Aside0.mk (below_step (by repeat (first | (with_reducible first | exact HB.out | apply below_alloc | apply pw_below_drewN | apply below_drew1) | exact HB.out)) hb); clear HO107; clear HO109; clear HO116; clear HO118; clear HB; have HO107 := n0_; have HO109 := n1_; have HO116 := n2_; have HO118 := n3_; have HB := n4_; clear n0_ n1_ n2_ n3_ n4_; (try clear hb); (try clear hb2); (try clear hk); (try clear hi); obtain ⟨Ao27, co27, eo27⟩ := Kd.S_slice HO107.out; subst eo27; obtain ⟨Ao28, co28, eo28⟩ := Kd.S_slice HO116.out; subst eo28) | (go_at_call 23; (with_reducible refine (kinkeepref04_Same.calls k _ _ t103 _ _ t113 true _ ?side1 ?side2 ?side3 ?side4 A11.out).mono ?_); (case side1 => repeat (first | exact (Kd.S_reads' HO107.out).2.2 | (with_reducible refine Kd.C_alloc ?_ _) | (with_reducible refine Kd.C_drewN ?_ _) | (with_reducible refine Kd.C_drew ?_))); (case side2 => exact (Kd.S_reads' HO107.out).2.1); (case side3 => repeat (first | exact (Kd.S_reads' HO116.out).2.2 | (with_reducible refine Kd.C_alloc ?_ _) | (with_reducible refine Kd.C_drewN ?_ _) | (with_reducible refine Kd.C_drew ?_))); (case side4 => exact (Kd.S_reads' HO116.out).2.1); rintro e w' ⟨rfl, ⟨nd, rfl⟩⟩; obtain ⟨Ao29, co29, eo29⟩ := Kd.R_slice HO109.out; subst eo29; obtain ⟨Ao30, co30, eo30⟩ := Kd.R_slice HO118.out; subst eo30) | (go_at_call 29; (with_reducible refine (kinkeepref04_Ints.calls k _ _ t104 _ _ t114 false _ ?side1 ?side2 ?side3 ?side4 A13.out).mono ?_); (case side1 => repeat (first | exact (Kd.R_reads' HO109.out).2.2 | (with_reducible refine Kd.C_alloc ?_ _) | (with_reducible refine Kd.C_drewN ?_ _) | (with_reducible refine Kd.C_drew ?_))); (case side2 => exact (Kd.R_reads' HO109.out).2.1); (case side3 => repeat (first | exact (Kd.R_reads' HO118.out).2.2 | (with_reducible refine Kd.C_alloc ?_ _) | (with_reducible refine Kd.C_drewN ?_ _) | (with_reducible refine Kd.C_drew ?_))); (case side4 => exact (Kd.R_reads' HO118.out).2.1); rintro e w' ⟨rfl, ⟨nd, rfl⟩⟩))
              go_ret
              exact ⟨by first | rfl | (simp [errW_none, errW_some] <;> rfl) | (simp [*, errW_none, errW_some] <;> rfl), by repeat (first | (with_reducible first | exact HB.out | apply below_alloc | apply pw_below_drewN | apply below_drew1) | exact HB.out)⟩
          · replace c12 := Bool.eq_false_iff.mpr c12
            subst c12
            have H1 : (some false) = some r := by rw [if_neg (show ¬ (false = true) by decide)] at H; exact H
            clear H
            have H := H1
            clear H1
            obtain rfl := Option.some.inj H
            go_enter Try.func5, Try.ntmps5
            go_wp2_with (first | ((with_reducible refine gate_callee (f := 15) rfl ?_); refine goesL_ (some 9) rfl rfl Try.func15 (by kernel_rfl) rfl #[.slice A0 l0.length c0, .int .i64 8] rfl (by (try simp only [List.map_toArray, List.map_cons, List.map_nil]); first | done | rfl | (simp only [List.length_drop, List.length_take]; rfl)) ?_; (with_reducible refine (kinkeeplaw04_few.calls k _ _ l0 8 true _ ?side1 ?side2 A2.out).mono ?_); (case side1 => repeat (first | exact HR0.out | (with_reducible refine Kd.C_alloc ?_ _) | (with_reducible refine Kd.C_drewN ?_ _) | (with_reducible refine Kd.C_drew ?_))); (case side2 => exact HC0.out); rintro e w' ⟨rfl, ⟨nd, rfl⟩⟩; refine ⟨_, rfl, ?_⟩) | ((with_reducible refine gate_callee (f := 27) rfl ?_); refine goesL_ (some 14) rfl rfl Try.func27 (by kernel_rfl) rfl #[.slice A0 l0.length c0] rfl (by (try simp only [List.map_toArray, List.map_cons, List.map_nil]); first | done | rfl | (simp only [List.length_drop, List.length_take]; rfl)) ?_; (with_reducible refine (matrix_Reduce.calls _ _ l0 t103 t104 t105 _ ?side1 ?side2 A4.out).mono ?_); (case side1 => repeat (first | exact HR0.out | (with_reducible refine Kd.C_alloc ?_ _) | (with_reducible refine Kd.C_drewN ?_ _) | (with_reducible refine Kd.C_drew ?_))); (case side2 => exact HC0.out); rintro e w31 ⟨v106, v108, rfl, ho0, ho1, hb⟩; refine ⟨_, rfl, ?_⟩; have n0_ := Aside0.mk (Kd.S_lower ho0 (below_size (by repeat (first | (with_reducible first | exact HB.out | apply below_alloc | apply pw_below_drewN | apply below_drew1) | exact HB.out)))); have n1_ := Aside0.mk (Kd.R_lower ho1 (below_size (by repeat (first | (with_reducible first | exact HB.out | apply below_alloc | apply pw_below_drewN | apply below_drew1) | exact HB.out)))); have n2_ := Aside0.mk (below_step (by repeat (first | (with_reducible first | exact HB.out | apply below_alloc | apply pw_below_drewN | apply below_drew1) | exact HB.out)) hb); clear HB; have HO107 := n0_; have HO109 := n1_; have HB := n2_; clear n0_ n1_ n2_; (try clear hb); (try clear hb2); (try clear hk); (try clear hi); (try clear ho0); (try clear ho1)) | ((with_reducible refine gate_callee (f := 18) rfl ?_); refine goesL_ (some 19) rfl rfl Try.func18 (by kernel_rfl) rfl #[.slice A0 l0.length c0] rfl (by (try simp only [List.map_toArray, List.map_cons, List.map_nil]); first | done | rfl | (simp only [List.length_drop, List.length_take]; rfl)) ?_; (with_reducible refine (kinkeepref04_Valid.calls k _ _ l0 true _ ?side1 ?side2 A5.out).mono ?_); (case side1 => repeat (first | exact (Kd.C_below HR0.out HB.out) | (with_reducible refine Kd.C_alloc ?_ _) | (with_reducible refine Kd.C_drewN ?_ _) | (with_reducible refine Kd.C_drew ?_))); (case side2 => exact HC0.out); rintro e w' ⟨rfl, ⟨nd, rfl⟩⟩; refine ⟨_, rfl, ?_⟩) | ((with_reducible refine gate_callee (f := 20) rfl ?_); refine goesL_ (some 43) rfl rfl Try.func20 (by kernel_rfl) rfl #[.slice A0 l0.length c0] rfl (by (try simp only [List.map_toArray, List.map_cons, List.map_nil]); first | done | rfl | (simp only [List.length_drop, List.length_take]; rfl)) ?_; (with_reducible refine (kinkeepref04_Reduce.calls _ _ l0 t113 t114 _ ?side1 ?side2 A7.out).mono ?_); (case side1 => repeat (first | exact (Kd.C_below HR0.out (by repeat (first | (with_reducible first | exact HB.out | apply below_alloc | apply pw_below_drewN | apply below_drew1) | exact HB.out))) | (with_reducible refine Kd.C_alloc ?_ _) | (with_reducible refine Kd.C_drewN ?_ _) | (with_reducible refine Kd.C_drew ?_))); (case side2 => exact HC0.out); rintro e w32 ⟨v115, v117, rfl, ho0, ho1, hb⟩; refine ⟨_, rfl, ?_⟩; have n0_ := Aside0.mk (Kd.S_elder' (by (with_reducible repeat (first | apply Kd.S_alloc | apply Kd.S_drewN | apply Kd.S_drew)); exact HO107.out) (Kd.S_base ho0) hb); have n1_ := Aside0.mk (Kd.R_elder' (by (with_reducible repeat (first | apply Kd.R_alloc | apply Kd.R_drewN | apply Kd.R_drew)); exact HO109.out) (Kd.R_base ho1) hb); have n2_ := Aside0.mk (Kd.S_lower (Kd.S_new' ho0 (Kd.S_lt (by (with_reducible repeat (first | apply Kd.S_alloc | apply Kd.S_drewN | apply Kd.S_drew)); exact HO107.out))) (below_size (by repeat (first | (with_reducible first | exact HB.out | apply below_alloc | apply pw_below_drewN | apply below_drew1) | exact HB.out)))); have n3_ := Aside0.mk (Kd.R_lower (Kd.R_new' ho1 (Kd.R_lt (by (with_reducible repeat (first | apply Kd.R_alloc | apply Kd.R_drewN | apply Kd.R_drew)); exact HO109.out))) (below_size (by repeat (first | (with_reducible first | exact HB.out | apply below_alloc | apply pw_below_drewN | apply below_drew1) | exact HB.out)))); have n4_ := Aside0.mk (below_step (by repeat (first | (with_reducible first | exact HB.out | apply below_alloc | apply pw_below_drewN | apply below_drew1) | exact HB.out)) hb); clear HO107; clear HO109; clear HB; have HO107 := n0_; have HO109 := n1_; have HO116 := n2_; have HO118 := n3_; have HB := n4_; clear n0_ n1_ n2_ n3_ n4_; (try clear hb); (try clear hb2); (try clear hk); (try clear hi); (try clear ho0); (try clear ho1)) | ((with_reducible refine gate_callee (f := 16) rfl ?_); refine goesL_ (some 46) rfl rfl Try.func16 (by kernel_rfl) rfl #[] rfl (by (try simp only [List.map_toArray, List.map_cons, List.map_nil]); first | done | rfl | (simp only [List.length_drop, List.length_take]; rfl)) ?_; (with_reducible refine (kinkeeplaw04_awake.calls  true _ A8.out).mono ?_); rintro e w33 ⟨rfl, hb⟩; refine ⟨_, rfl, ?_⟩; have n0_ := Aside0.mk (Kd.S_below (by (with_reducible repeat (first | apply Kd.S_alloc | apply Kd.S_drewN | apply Kd.S_drew)); exact HO107.out) hb); have n1_ := Aside0.mk (Kd.R_below (by (with_reducible repeat (first | apply Kd.R_alloc | apply Kd.R_drewN | apply Kd.R_drew)); exact HO109.out) hb); have n2_ := Aside0.mk (Kd.S_below (by (with_reducible repeat (first | apply Kd.S_alloc | apply Kd.S_drewN | apply Kd.S_drew)); exact HO116.out) hb); have n3_ := Aside0.mk (Kd.R_below (by (with_reducible repeat (first | apply Kd.R_alloc | apply Kd.R_drewN | apply Kd.R_drew)); exact HO118.out) hb); have n4_ := Aside0.mk (below_step (by repeat (first | (with_reducible first | exact HB.out | apply below_alloc | apply pw_below_drewN | apply below_drew1) | exact HB.out)) hb); clear HO107; clear HO109; clear HO116; clear HO118; clear HB; have HO107 := n0_; have HO109 := n1_; have HO116 := n2_; have HO118 := n3_; have HB := n4_; clear n0_ n1_ n2_ n3_ n4_; (try clear hb); (try clear hb2); (try clear hk); (try clear hi); obtain ⟨Ao34, co34, eo34⟩ := Kd.S_slice HO107.out; subst eo34; obtain ⟨Ao35, co35, eo35⟩ := Kd.S_slice HO116.out; subst eo35) | (go_at_call 23; (with_reducible refine (kinkeepref04_Same.calls k _ _ t103 _ _ t113 false _ ?side1 ?side2 ?side3 ?side4 A11.out).mono ?_); (case side1 => repeat (first | exact (Kd.S_reads' HO107.out).2.2 | (with_reducible refine Kd.C_alloc ?_ _) | (with_reducible refine Kd.C_drewN ?_ _) | (with_reducible refine Kd.C_drew ?_))); (case side2 => exact (Kd.S_reads' HO107.out).2.1); (case side3 => repeat (first | exact (Kd.S_reads' HO116.out).2.2 | (with_reducible refine Kd.C_alloc ?_ _) | (with_reducible refine Kd.C_drewN ?_ _) | (with_reducible refine Kd.C_drew ?_))); (case side4 => exact (Kd.S_reads' HO116.out).2.1); rintro e w' ⟨rfl, ⟨nd, rfl⟩⟩))
            go_ret
            exact ⟨by first | rfl | (simp [errW_none, errW_some] <;> rfl) | (simp [*, errW_none, errW_some] <;> rfl), by repeat (first | (with_reducible first | exact HB.out | apply below_alloc | apply pw_below_drewN | apply below_drew1) | exact HB.out)⟩
        · rw [if_neg c10] at H
          have c10b0 : (t105 == 0) = false := beq_eq_false_iff_ne.mpr c10
          have c10b1 : (t105 != 0) = true := bne_iff_ne.mpr c10
          obtain rfl := Option.some.inj H
          go_enter Try.func5, Try.ntmps5
          go_wp2_with (first | ((with_reducible refine gate_callee (f := 15) rfl ?_); refine goesL_ (some 9) rfl rfl Try.func15 (by kernel_rfl) rfl #[.slice A0 l0.length c0, .int .i64 8] rfl (by (try simp only [List.map_toArray, List.map_cons, List.map_nil]); first | done | rfl | (simp only [List.length_drop, List.length_take]; rfl)) ?_; (with_reducible refine (kinkeeplaw04_few.calls k _ _ l0 8 true _ ?side1 ?side2 A2.out).mono ?_); (case side1 => repeat (first | exact HR0.out | (with_reducible refine Kd.C_alloc ?_ _) | (with_reducible refine Kd.C_drewN ?_ _) | (with_reducible refine Kd.C_drew ?_))); (case side2 => exact HC0.out); rintro e w' ⟨rfl, ⟨nd, rfl⟩⟩; refine ⟨_, rfl, ?_⟩) | ((with_reducible refine gate_callee (f := 27) rfl ?_); refine goesL_ (some 14) rfl rfl Try.func27 (by kernel_rfl) rfl #[.slice A0 l0.length c0] rfl (by (try simp only [List.map_toArray, List.map_cons, List.map_nil]); first | done | rfl | (simp only [List.length_drop, List.length_take]; rfl)) ?_; (with_reducible refine (matrix_Reduce.calls _ _ l0 t103 t104 t105 _ ?side1 ?side2 A4.out).mono ?_); (case side1 => repeat (first | exact HR0.out | (with_reducible refine Kd.C_alloc ?_ _) | (with_reducible refine Kd.C_drewN ?_ _) | (with_reducible refine Kd.C_drew ?_))); (case side2 => exact HC0.out); rintro e w36 ⟨v106, v108, rfl, ho0, ho1, hb⟩; refine ⟨_, rfl, ?_⟩; have n0_ := Aside0.mk (Kd.S_lower ho0 (below_size (by repeat (first | (with_reducible first | exact HB.out | apply below_alloc | apply pw_below_drewN | apply below_drew1) | exact HB.out)))); have n1_ := Aside0.mk (Kd.R_lower ho1 (below_size (by repeat (first | (with_reducible first | exact HB.out | apply below_alloc | apply pw_below_drewN | apply below_drew1) | exact HB.out)))); have n2_ := Aside0.mk (below_step (by repeat (first | (with_reducible first | exact HB.out | apply below_alloc | apply pw_below_drewN | apply below_drew1) | exact HB.out)) hb); clear HB; have HO107 := n0_; have HO109 := n1_; have HB := n2_; clear n0_ n1_ n2_; (try clear hb); (try clear hb2); (try clear hk); (try clear hi); (try clear ho0); (try clear ho1)) | ((with_reducible refine gate_callee (f := 18) rfl ?_); refine goesL_ (some 19) rfl rfl Try.func18 (by kernel_rfl) rfl #[.slice A0 l0.length c0] rfl (by (try simp only [List.map_toArray, List.map_cons, List.map_nil]); first | done | rfl | (simp only [List.length_drop, List.length_take]; rfl)) ?_; (with_reducible refine (kinkeepref04_Valid.calls k _ _ l0 true _ ?side1 ?side2 A5.out).mono ?_); (case side1 => repeat (first | exact (Kd.C_below HR0.out HB.out) | (with_reducible refine Kd.C_alloc ?_ _) | (with_reducible refine Kd.C_drewN ?_ _) | (with_reducible refine Kd.C_drew ?_))); (case side2 => exact HC0.out); rintro e w' ⟨rfl, ⟨nd, rfl⟩⟩; refine ⟨_, rfl, ?_⟩) | ((with_reducible refine gate_callee (f := 20) rfl ?_); refine goesL_ (some 43) rfl rfl Try.func20 (by kernel_rfl) rfl #[.slice A0 l0.length c0] rfl (by (try simp only [List.map_toArray, List.map_cons, List.map_nil]); first | done | rfl | (simp only [List.length_drop, List.length_take]; rfl)) ?_; (with_reducible refine (kinkeepref04_Reduce.calls _ _ l0 t113 t114 _ ?side1 ?side2 A7.out).mono ?_); (case side1 => repeat (first | exact (Kd.C_below HR0.out (by repeat (first | (with_reducible first | exact HB.out | apply below_alloc | apply pw_below_drewN | apply below_drew1) | exact HB.out))) | (with_reducible refine Kd.C_alloc ?_ _) | (with_reducible refine Kd.C_drewN ?_ _) | (with_reducible refine Kd.C_drew ?_))); (case side2 => exact HC0.out); rintro e w37 ⟨v115, v117, rfl, ho0, ho1, hb⟩; refine ⟨_, rfl, ?_⟩; have n0_ := Aside0.mk (Kd.S_elder' (by (with_reducible repeat (first | apply Kd.S_alloc | apply Kd.S_drewN | apply Kd.S_drew)); exact HO107.out) (Kd.S_base ho0) hb); have n1_ := Aside0.mk (Kd.R_elder' (by (with_reducible repeat (first | apply Kd.R_alloc | apply Kd.R_drewN | apply Kd.R_drew)); exact HO109.out) (Kd.R_base ho1) hb); have n2_ := Aside0.mk (Kd.S_lower (Kd.S_new' ho0 (Kd.S_lt (by (with_reducible repeat (first | apply Kd.S_alloc | apply Kd.S_drewN | apply Kd.S_drew)); exact HO107.out))) (below_size (by repeat (first | (with_reducible first | exact HB.out | apply below_alloc | apply pw_below_drewN | apply below_drew1) | exact HB.out)))); have n3_ := Aside0.mk (Kd.R_lower (Kd.R_new' ho1 (Kd.R_lt (by (with_reducible repeat (first | apply Kd.R_alloc | apply Kd.R_drewN | apply Kd.R_drew)); exact HO109.out))) (below_size (by repeat (first | (with_reducible first | exact HB.out | apply below_alloc | apply pw_below_drewN | apply below_drew1) | exact HB.out)))); have n4_ := Aside0.mk (below_step (by repeat (first | (with_reducible first | exact HB.out | apply below_alloc | apply pw_below_drewN | apply below_drew1) | exact HB.out)) hb); clear HO107; clear HO109; clear HB; have HO107 := n0_; have HO109 := n1_; have HO116 := n2_; have HO118 := n3_; have HB := n4_; clear n0_ n1_ n2_ n3_ n4_; (try clear hb); (try clear hb2); (try clear hk); (try clear hi); (try clear ho0); (try clear ho1)) | ((with_reducible refine gate_callee (f := 16) rfl ?_); refine goesL_ (some 46) rfl rfl Try.func16 (by kernel_rfl) rfl #[] rfl (by (try simp only [List.map_toArray, List.map_cons, List.map_nil]); first | done | rfl | (simp only [List.length_drop, List.length_take]; rfl)) ?_; (with_reducible refine (kinkeeplaw04_awake.calls  true _ A8.out).mono ?_); rintro e w38 ⟨rfl, hb⟩; refine ⟨_, rfl, ?_⟩; have n0_ := Aside0.mk (Kd.S_below (by (with_reducible repeat (first | apply Kd.S_alloc | apply Kd.S_drewN | apply Kd.S_drew)); exact HO107.out) hb); have n1_ := Aside0.mk (Kd.R_below (by (with_reducible repeat (first | apply Kd.R_alloc | apply Kd.R_drewN | apply Kd.R_drew)); exact HO109.out) hb); have n2_ := Aside0.mk (Kd.S_below (by (with_reducible repeat (first | apply Kd.S_alloc | apply Kd.S_drewN | apply Kd.S_drew)); exact HO116.out) hb); have n3_ := Aside0.mk (Kd.R_below (by (with_reducible repeat (first | apply Kd.R_alloc | apply Kd.R_drewN | apply Kd.R_drew)); exact HO118.out) hb); have n4_ := Aside0.mk (below_step (by repeat (first | (with_reducible first | exact HB.out | apply below_alloc | apply pw_below_drewN | apply below_drew1) | exact HB.out)) hb); clear HO107; clear HO109; clear HO116; clear HO118; clear HB; have HO107 := n0_; have HO109 := n1_; have HO116 := n2_; have HO118 := n3_; have HB := n4_; clear n0_ n1_ n2_ n3_ n4_; (try clear hb); (try clear hb2); (try clear hk); (try clear hi)))
          go_ret
          exact ⟨by first | rfl | (simp [errW_none, errW_some] <;> rfl) | (simp [*, errW_none, errW_some] <;> rfl), by repeat (first | (with_reducible first | exact HB.out | apply below_alloc | apply pw_below_drewN | apply below_drew1) | exact HB.out)⟩
      · replace c9 := Bool.eq_false_iff.mpr c9
        subst c9
        have H1 : (some false) = some r := by rw [if_neg (show ¬ (false = true) by decide)] at H; exact H
        clear H
        have H := H1
        clear H1
        obtain rfl := Option.some.inj H
        go_enter Try.func5, Try.ntmps5
        go_wp2_with (first | ((with_reducible refine gate_callee (f := 15) rfl ?_); refine goesL_ (some 9) rfl rfl Try.func15 (by kernel_rfl) rfl #[.slice A0 l0.length c0, .int .i64 8] rfl (by (try simp only [List.map_toArray, List.map_cons, List.map_nil]); first | done | rfl | (simp only [List.length_drop, List.length_take]; rfl)) ?_; (with_reducible refine (kinkeeplaw04_few.calls k _ _ l0 8 true _ ?side1 ?side2 A2.out).mono ?_); (case side1 => repeat (first | exact HR0.out | (with_reducible refine Kd.C_alloc ?_ _) | (with_reducible refine Kd.C_drewN ?_ _) | (with_reducible refine Kd.C_drew ?_))); (case side2 => exact HC0.out); rintro e w' ⟨rfl, ⟨nd, rfl⟩⟩; refine ⟨_, rfl, ?_⟩) | ((with_reducible refine gate_callee (f := 27) rfl ?_); refine goesL_ (some 14) rfl rfl Try.func27 (by kernel_rfl) rfl #[.slice A0 l0.length c0] rfl (by (try simp only [List.map_toArray, List.map_cons, List.map_nil]); first | done | rfl | (simp only [List.length_drop, List.length_take]; rfl)) ?_; (with_reducible refine (matrix_Reduce.calls _ _ l0 t103 t104 t105 _ ?side1 ?side2 A4.out).mono ?_); (case side1 => repeat (first | exact HR0.out | (with_reducible refine Kd.C_alloc ?_ _) | (with_reducible refine Kd.C_drewN ?_ _) | (with_reducible refine Kd.C_drew ?_))); (case side2 => exact HC0.out); rintro e w39 ⟨v106, v108, rfl, ho0, ho1, hb⟩; refine ⟨_, rfl, ?_⟩; have n0_ := Aside0.mk (Kd.S_lower ho0 (below_size (by repeat (first | (with_reducible first | exact HB.out | apply below_alloc | apply pw_below_drewN | apply below_drew1) | exact HB.out)))); have n1_ := Aside0.mk (Kd.R_lower ho1 (below_size (by repeat (first | (with_reducible first | exact HB.out | apply below_alloc | apply pw_below_drewN | apply below_drew1) | exact HB.out)))); have n2_ := Aside0.mk (below_step (by repeat (first | (with_reducible first | exact HB.out | apply below_alloc | apply pw_below_drewN | apply below_drew1) | exact HB.out)) hb); clear HB; have HO107 := n0_; have HO109 := n1_; have HB := n2_; clear n0_ n1_ n2_; (try clear hb); (try clear hb2); (try clear hk); (try clear hi); (try clear ho0); (try clear ho1)) | ((with_reducible refine gate_callee (f := 18) rfl ?_); refine goesL_ (some 19) rfl rfl Try.func18 (by kernel_rfl) rfl #[.slice A0 l0.length c0] rfl (by (try simp only [List.map_toArray, List.map_cons, List.map_nil]); first | done | rfl | (simp only [List.length_drop, List.length_take]; rfl)) ?_; (with_reducible refine (kinkeepref04_Valid.calls k _ _ l0 true _ ?side1 ?side2 A5.out).mono ?_); (case side1 => repeat (first | exact (Kd.C_below HR0.out HB.out) | (with_reducible refine Kd.C_alloc ?_ _) | (with_reducible refine Kd.C_drewN ?_ _) | (with_reducible refine Kd.C_drew ?_))); (case side2 => exact HC0.out); rintro e w' ⟨rfl, ⟨nd, rfl⟩⟩; refine ⟨_, rfl, ?_⟩) | ((with_reducible refine gate_callee (f := 20) rfl ?_); refine goesL_ (some 43) rfl rfl Try.func20 (by kernel_rfl) rfl #[.slice A0 l0.length c0] rfl (by (try simp only [List.map_toArray, List.map_cons, List.map_nil]); first | done | rfl | (simp only [List.length_drop, List.length_take]; rfl)) ?_; (with_reducible refine (kinkeepref04_Reduce.calls _ _ l0 t113 t114 _ ?side1 ?side2 A7.out).mono ?_); (case side1 => repeat (first | exact (Kd.C_below HR0.out (by repeat (first | (with_reducible first | exact HB.out | apply below_alloc | apply pw_below_drewN | apply below_drew1) | exact HB.out))) | (with_reducible refine Kd.C_alloc ?_ _) | (with_reducible refine Kd.C_drewN ?_ _) | (with_reducible refine Kd.C_drew ?_))); (case side2 => exact HC0.out); rintro e w40 ⟨v115, v117, rfl, ho0, ho1, hb⟩; refine ⟨_, rfl, ?_⟩; have n0_ := Aside0.mk (Kd.S_elder' (by (with_reducible repeat (first | apply Kd.S_alloc | apply Kd.S_drewN | apply Kd.S_drew)); exact HO107.out) (Kd.S_base ho0) hb); have n1_ := Aside0.mk (Kd.R_elder' (by (with_reducible repeat (first | apply Kd.R_alloc | apply Kd.R_drewN | apply Kd.R_drew)); exact HO109.out) (Kd.R_base ho1) hb); have n2_ := Aside0.mk (Kd.S_lower (Kd.S_new' ho0 (Kd.S_lt (by (with_reducible repeat (first | apply Kd.S_alloc | apply Kd.S_drewN | apply Kd.S_drew)); exact HO107.out))) (below_size (by repeat (first | (with_reducible first | exact HB.out | apply below_alloc | apply pw_below_drewN | apply below_drew1) | exact HB.out)))); have n3_ := Aside0.mk (Kd.R_lower (Kd.R_new' ho1 (Kd.R_lt (by (with_reducible repeat (first | apply Kd.R_alloc | apply Kd.R_drewN | apply Kd.R_drew)); exact HO109.out))) (below_size (by repeat (first | (with_reducible first | exact HB.out | apply below_alloc | apply pw_below_drewN | apply below_drew1) | exact HB.out)))); have n4_ := Aside0.mk (below_step (by repeat (first | (with_reducible first | exact HB.out | apply below_alloc | apply pw_below_drewN | apply below_drew1) | exact HB.out)) hb); clear HO107; clear HO109; clear HB; have HO107 := n0_; have HO109 := n1_; have HO116 := n2_; have HO118 := n3_; have HB := n4_; clear n0_ n1_ n2_ n3_ n4_; (try clear hb); (try clear hb2); (try clear hk); (try clear hi); (try clear ho0); (try clear ho1)) | ((with_reducible refine gate_callee (f := 16) rfl ?_); refine goesL_ (some 46) rfl rfl Try.func16 (by kernel_rfl) rfl #[] rfl (by (try simp only [List.map_toArray, List.map_cons, List.map_nil]); first | done | rfl | (simp only [List.length_drop, List.length_take]; rfl)) ?_; (with_reducible refine (kinkeeplaw04_awake.calls  false _ A8.out).mono ?_); rintro e w41 ⟨rfl, hb⟩; refine ⟨_, rfl, ?_⟩; have n0_ := Aside0.mk (Kd.S_below (by (with_reducible repeat (first | apply Kd.S_alloc | apply Kd.S_drewN | apply Kd.S_drew)); exact HO107.out) hb); have n1_ := Aside0.mk (Kd.R_below (by (with_reducible repeat (first | apply Kd.R_alloc | apply Kd.R_drewN | apply Kd.R_drew)); exact HO109.out) hb); have n2_ := Aside0.mk (Kd.S_below (by (with_reducible repeat (first | apply Kd.S_alloc | apply Kd.S_drewN | apply Kd.S_drew)); exact HO116.out) hb); have n3_ := Aside0.mk (Kd.R_below (by (with_reducible repeat (first | apply Kd.R_alloc | apply Kd.R_drewN | apply Kd.R_drew)); exact HO118.out) hb); have n4_ := Aside0.mk (below_step (by repeat (first | (with_reducible first | exact HB.out | apply below_alloc | apply pw_below_drewN | apply below_drew1) | exact HB.out)) hb); clear HO107; clear HO109; clear HO116; clear HO118; clear HB; have HO107 := n0_; have HO109 := n1_; have HO116 := n2_; have HO118 := n3_; have HB := n4_; clear n0_ n1_ n2_ n3_ n4_; (try clear hb); (try clear hb2); (try clear hk); (try clear hi)))
        go_ret
        exact ⟨by first | rfl | (simp [errW_none, errW_some] <;> rfl) | (simp [*, errW_none, errW_some] <;> rfl), by repeat (first | (with_reducible first | exact HB.out | apply below_alloc | apply pw_below_drewN | apply below_drew1) | exact HB.out)⟩
    · replace c6 := Bool.eq_false_iff.mpr c6
      subst c6
      have H1 : ((kinkeeplaw04_awake.f).bind fun t111 => (if t111 = true then (if t105 = 1 then (if (t103.length : Int) = 0 then (if (t104.length : Int) = 0 then ((matrix_Rank.f l0).bind fun t112 => (some (t112 == (-1)))) else (some false)) else (some false)) else (some false)) else (some false))) = some r := by rw [if_neg (show ¬ (false = true) by decide)] at H; exact H
      clear H
      have H := H1
      clear H1
      replace H := Option.bind_eq_some_iff.mp H
      obtain ⟨t111, A420, H⟩ := H
      replace H : (if t111 = true then (if t105 = 1 then (if (t103.length : Int) = 0 then (if (t104.length : Int) = 0 then ((matrix_Rank.f l0).bind fun t112 => (some (t112 == (-1)))) else (some false)) else (some false)) else (some false)) else (some false)) = some r := H
      have A42 := Aside0.mk A420
      clear A420
      by_cases c43 : t111 = true
      · subst c43
        have H1 : (if t105 = 1 then (if (t103.length : Int) = 0 then (if (t104.length : Int) = 0 then ((matrix_Rank.f l0).bind fun t112 => (some (t112 == (-1)))) else (some false)) else (some false)) else (some false)) = some r := by rw [if_pos rfl] at H; exact H
        clear H
        have H := H1
        clear H1
        by_cases c44 : t105 = 1
        · rw [if_pos c44] at H
          have c44b0 : (t105 == 1) = true := beq_iff_eq.mpr c44
          have c44b1 : (t105 != 1) = false := bne_eq_false_iff_eq.mpr c44
          clear c44
          by_cases c45 : (t103.length : Int) = 0
          · rw [if_pos c45] at H
            have c45b0 : ((t103.length : Int) == 0) = true := beq_iff_eq.mpr c45
            have c45b1 : ((t103.length : Int) != 0) = false := bne_eq_false_iff_eq.mpr c45
            clear c45
            by_cases c46 : (t104.length : Int) = 0
            · rw [if_pos c46] at H
              have c46b0 : ((t104.length : Int) == 0) = true := beq_iff_eq.mpr c46
              have c46b1 : ((t104.length : Int) != 0) = false := bne_eq_false_iff_eq.mpr c46
              clear c46
              replace H := Option.bind_eq_some_iff.mp H
              obtain ⟨t112, A470, H⟩ := H
              replace H : (some (t112 == (-1))) = some r := H
              have A47 := Aside0.mk A470
              clear A470
              obtain rfl := Option.some.inj H
              go_enter Try.func5, Try.ntmps5
              go_wp2_with (first | ((with_reducible refine gate_callee (f := 15) rfl ?_); refine goesL_ (some 9) rfl rfl Try.func15 (by kernel_rfl) rfl #[.slice A0 l0.length c0, .int .i64 8] rfl (by (try simp only [List.map_toArray, List.map_cons, List.map_nil]); first | done | rfl | (simp only [List.length_drop, List.length_take]; rfl)) ?_; (with_reducible refine (kinkeeplaw04_few.calls k _ _ l0 8 true _ ?side1 ?side2 A2.out).mono ?_); (case side1 => repeat (first | exact HR0.out | (with_reducible refine Kd.C_alloc ?_ _) | (with_reducible refine Kd.C_drewN ?_ _) | (with_reducible refine Kd.C_drew ?_))); (case side2 => exact HC0.out); rintro e w' ⟨rfl, ⟨nd, rfl⟩⟩; refine ⟨_, rfl, ?_⟩) | ((with_reducible refine gate_callee (f := 27) rfl ?_); refine goesL_ (some 14) rfl rfl Try.func27 (by kernel_rfl) rfl #[.slice A0 l0.length c0] rfl (by (try simp only [List.map_toArray, List.map_cons, List.map_nil]); first | done | rfl | (simp only [List.length_drop, List.length_take]; rfl)) ?_; (with_reducible refine (matrix_Reduce.calls _ _ l0 t103 t104 t105 _ ?side1 ?side2 A4.out).mono ?_); (case side1 => repeat (first | exact HR0.out | (with_reducible refine Kd.C_alloc ?_ _) | (with_reducible refine Kd.C_drewN ?_ _) | (with_reducible refine Kd.C_drew ?_))); (case side2 => exact HC0.out); rintro e w48 ⟨v106, v108, rfl, ho0, ho1, hb⟩; refine ⟨_, rfl, ?_⟩; have n0_ := Aside0.mk (Kd.S_lower ho0 (below_size (by repeat (first | (with_reducible first | exact HB.out | apply below_alloc | apply pw_below_drewN | apply below_drew1) | exact HB.out)))); have n1_ := Aside0.mk (Kd.R_lower ho1 (below_size (by repeat (first | (with_reducible first | exact HB.out | apply below_alloc | apply pw_below_drewN | apply below_drew1) | exact HB.out)))); have n2_ := Aside0.mk (below_step (by repeat (first | (with_reducible first | exact HB.out | apply below_alloc | apply pw_below_drewN | apply below_drew1) | exact HB.out)) hb); clear HB; have HO107 := n0_; have HO109 := n1_; have HB := n2_; clear n0_ n1_ n2_; (try clear hb); (try clear hb2); (try clear hk); (try clear hi); (try clear ho0); (try clear ho1)) | ((with_reducible refine gate_callee (f := 18) rfl ?_); refine goesL_ (some 19) rfl rfl Try.func18 (by kernel_rfl) rfl #[.slice A0 l0.length c0] rfl (by (try simp only [List.map_toArray, List.map_cons, List.map_nil]); first | done | rfl | (simp only [List.length_drop, List.length_take]; rfl)) ?_; (with_reducible refine (kinkeepref04_Valid.calls k _ _ l0 false _ ?side1 ?side2 A5.out).mono ?_); (case side1 => repeat (first | exact (Kd.C_below HR0.out HB.out) | (with_reducible refine Kd.C_alloc ?_ _) | (with_reducible refine Kd.C_drewN ?_ _) | (with_reducible refine Kd.C_drew ?_))); (case side2 => exact HC0.out); rintro e w' ⟨rfl, ⟨nd, rfl⟩⟩; refine ⟨_, rfl, ?_⟩) | ((with_reducible refine gate_callee (f := 16) rfl ?_); refine goesL_ (some 21) rfl rfl Try.func16 (by kernel_rfl) rfl #[] rfl (by (try simp only [List.map_toArray, List.map_cons, List.map_nil]); first | done | rfl | (simp only [List.length_drop, List.length_take]; rfl)) ?_; (with_reducible refine (kinkeeplaw04_awake.calls  true _ A42.out).mono ?_); rintro e w49 ⟨rfl, hb⟩; refine ⟨_, rfl, ?_⟩; have n0_ := Aside0.mk (Kd.S_below (by (with_reducible repeat (first | apply Kd.S_alloc | apply Kd.S_drewN | apply Kd.S_drew)); exact HO107.out) hb); have n1_ := Aside0.mk (Kd.R_below (by (with_reducible repeat (first | apply Kd.R_alloc | apply Kd.R_drewN | apply Kd.R_drew)); exact HO109.out) hb); have n2_ := Aside0.mk (below_step (by repeat (first | (with_reducible first | exact HB.out | apply below_alloc | apply pw_below_drewN | apply below_drew1) | exact HB.out)) hb); clear HO107; clear HO109; clear HB; have HO107 := n0_; have HO109 := n1_; have HB := n2_; clear n0_ n1_ n2_; (try clear hb); (try clear hb2); (try clear hk); (try clear hi); obtain ⟨Ao50, co50, eo50⟩ := Kd.S_slice HO107.out; subst eo50; obtain ⟨Ao51, co51, eo51⟩ := Kd.R_slice HO109.out; subst eo51) | (go_at_call 28; (with_reducible refine (matrix_Rank.calls _ _ l0 t112 _ ?side1 ?side2 A47.out).mono ?_); (case side1 => repeat (first | exact (Kd.C_below HR0.out HB.out) | (with_reducible refine Kd.C_alloc ?_ _) | (with_reducible refine Kd.C_drewN ?_ _) | (with_reducible refine Kd.C_drew ?_))); (case side2 => exact HC0.out); rintro e w52 ⟨rfl, hb⟩; have n0_ := Aside0.mk (Kd.S_below (by (with_reducible repeat (first | apply Kd.S_alloc | apply Kd.S_drewN | apply Kd.S_drew)); exact HO107.out) hb); have n1_ := Aside0.mk (Kd.R_below (by (with_reducible repeat (first | apply Kd.R_alloc | apply Kd.R_drewN | apply Kd.R_drew)); exact HO109.out) hb); have n2_ := Aside0.mk (below_step (by repeat (first | (with_reducible first | exact HB.out | apply below_alloc | apply pw_below_drewN | apply below_drew1) | exact HB.out)) hb); clear HO107; clear HO109; clear HB; have HO107 := n0_; have HO109 := n1_; have HB := n2_; clear n0_ n1_ n2_; (try clear hb); (try clear hb2); (try clear hk); (try clear hi)))
              go_ret
              exact ⟨by first | rfl | (simp [errW_none, errW_some] <;> rfl) | (simp [*, errW_none, errW_some] <;> rfl), by repeat (first | (with_reducible first | exact HB.out | apply below_alloc | apply pw_below_drewN | apply below_drew1) | exact HB.out)⟩
            · rw [if_neg c46] at H
              have c46b0 : ((t104.length : Int) == 0) = false := beq_eq_false_iff_ne.mpr c46
              have c46b1 : ((t104.length : Int) != 0) = true := bne_iff_ne.mpr c46
              have c46b2 : ¬ (t104 = []) := fun h_ => c46 (by rw [h_]; rfl)
              obtain rfl := Option.some.inj H
              go_enter Try.func5, Try.ntmps5
              go_wp2_with (first | ((with_reducible refine gate_callee (f := 15) rfl ?_); refine goesL_ (some 9) rfl rfl Try.func15 (by kernel_rfl) rfl #[.slice A0 l0.length c0, .int .i64 8] rfl (by (try simp only [List.map_toArray, List.map_cons, List.map_nil]); first | done | rfl | (simp only [List.length_drop, List.length_take]; rfl)) ?_; (with_reducible refine (kinkeeplaw04_few.calls k _ _ l0 8 true _ ?side1 ?side2 A2.out).mono ?_); (case side1 => repeat (first | exact HR0.out | (with_reducible refine Kd.C_alloc ?_ _) | (with_reducible refine Kd.C_drewN ?_ _) | (with_reducible refine Kd.C_drew ?_))); (case side2 => exact HC0.out); rintro e w' ⟨rfl, ⟨nd, rfl⟩⟩; refine ⟨_, rfl, ?_⟩) | ((with_reducible refine gate_callee (f := 27) rfl ?_); refine goesL_ (some 14) rfl rfl Try.func27 (by kernel_rfl) rfl #[.slice A0 l0.length c0] rfl (by (try simp only [List.map_toArray, List.map_cons, List.map_nil]); first | done | rfl | (simp only [List.length_drop, List.length_take]; rfl)) ?_; (with_reducible refine (matrix_Reduce.calls _ _ l0 t103 t104 t105 _ ?side1 ?side2 A4.out).mono ?_); (case side1 => repeat (first | exact HR0.out | (with_reducible refine Kd.C_alloc ?_ _) | (with_reducible refine Kd.C_drewN ?_ _) | (with_reducible refine Kd.C_drew ?_))); (case side2 => exact HC0.out); rintro e w53 ⟨v106, v108, rfl, ho0, ho1, hb⟩; refine ⟨_, rfl, ?_⟩; have n0_ := Aside0.mk (Kd.S_lower ho0 (below_size (by repeat (first | (with_reducible first | exact HB.out | apply below_alloc | apply pw_below_drewN | apply below_drew1) | exact HB.out)))); have n1_ := Aside0.mk (Kd.R_lower ho1 (below_size (by repeat (first | (with_reducible first | exact HB.out | apply below_alloc | apply pw_below_drewN | apply below_drew1) | exact HB.out)))); have n2_ := Aside0.mk (below_step (by repeat (first | (with_reducible first | exact HB.out | apply below_alloc | apply pw_below_drewN | apply below_drew1) | exact HB.out)) hb); clear HB; have HO107 := n0_; have HO109 := n1_; have HB := n2_; clear n0_ n1_ n2_; (try clear hb); (try clear hb2); (try clear hk); (try clear hi); (try clear ho0); (try clear ho1)) | ((with_reducible refine gate_callee (f := 18) rfl ?_); refine goesL_ (some 19) rfl rfl Try.func18 (by kernel_rfl) rfl #[.slice A0 l0.length c0] rfl (by (try simp only [List.map_toArray, List.map_cons, List.map_nil]); first | done | rfl | (simp only [List.length_drop, List.length_take]; rfl)) ?_; (with_reducible refine (kinkeepref04_Valid.calls k _ _ l0 false _ ?side1 ?side2 A5.out).mono ?_); (case side1 => repeat (first | exact (Kd.C_below HR0.out HB.out) | (with_reducible refine Kd.C_alloc ?_ _) | (with_reducible refine Kd.C_drewN ?_ _) | (with_reducible refine Kd.C_drew ?_))); (case side2 => exact HC0.out); rintro e w' ⟨rfl, ⟨nd, rfl⟩⟩; refine ⟨_, rfl, ?_⟩) | ((with_reducible refine gate_callee (f := 16) rfl ?_); refine goesL_ (some 21) rfl rfl Try.func16 (by kernel_rfl) rfl #[] rfl (by (try simp only [List.map_toArray, List.map_cons, List.map_nil]); first | done | rfl | (simp only [List.length_drop, List.length_take]; rfl)) ?_; (with_reducible refine (kinkeeplaw04_awake.calls  true _ A42.out).mono ?_); rintro e w54 ⟨rfl, hb⟩; refine ⟨_, rfl, ?_⟩; have n0_ := Aside0.mk (Kd.S_below (by (with_reducible repeat (first | apply Kd.S_alloc | apply Kd.S_drewN | apply Kd.S_drew)); exact HO107.out) hb); have n1_ := Aside0.mk (Kd.R_below (by (with_reducible repeat (first | apply Kd.R_alloc | apply Kd.R_drewN | apply Kd.R_drew)); exact HO109.out) hb); have n2_ := Aside0.mk (below_step (by repeat (first | (with_reducible first | exact HB.out | apply below_alloc | apply pw_below_drewN | apply below_drew1) | exact HB.out)) hb); clear HO107; clear HO109; clear HB; have HO107 := n0_; have HO109 := n1_; have HB := n2_; clear n0_ n1_ n2_; (try clear hb); (try clear hb2); (try clear hk); (try clear hi); obtain ⟨Ao55, co55, eo55⟩ := Kd.S_slice HO107.out; subst eo55; obtain ⟨Ao56, co56, eo56⟩ := Kd.R_slice HO109.out; subst eo56))
              go_ret
              exact ⟨by first | rfl | (simp [errW_none, errW_some] <;> rfl) | (simp [*, errW_none, errW_some] <;> rfl), by repeat (first | (with_reducible first | exact HB.out | apply below_alloc | apply pw_below_drewN | apply below_drew1) | exact HB.out)⟩
          · rw [if_neg c45] at H
            have c45b0 : ((t103.length : Int) == 0) = false := beq_eq_false_iff_ne.mpr c45
            have c45b1 : ((t103.length : Int) != 0) = true := bne_iff_ne.mpr c45
            have c45b2 : ¬ (t103 = []) := fun h_ => c45 (by rw [h_]; rfl)
            obtain rfl := Option.some.inj H
            go_enter Try.func5, Try.ntmps5
            go_wp2_with (first | ((with_reducible refine gate_callee (f := 15) rfl ?_); refine goesL_ (some 9) rfl rfl Try.func15 (by kernel_rfl) rfl #[.slice A0 l0.length c0, .int .i64 8] rfl (by (try simp only [List.map_toArray, List.map_cons, List.map_nil]); first | done | rfl | (simp only [List.length_drop, List.length_take]; rfl)) ?_; (with_reducible refine (kinkeeplaw04_few.calls k _ _ l0 8 true _ ?side1 ?side2 A2.out).mono ?_); (case side1 => repeat (first | exact HR0.out | (with_reducible refine Kd.C_alloc ?_ _) | (with_reducible refine Kd.C_drewN ?_ _) | (with_reducible refine Kd.C_drew ?_))); (case side2 => exact HC0.out); rintro e w' ⟨rfl, ⟨nd, rfl⟩⟩; refine ⟨_, rfl, ?_⟩) | ((with_reducible refine gate_callee (f := 27) rfl ?_); refine goesL_ (some 14) rfl rfl Try.func27 (by kernel_rfl) rfl #[.slice A0 l0.length c0] rfl (by (try simp only [List.map_toArray, List.map_cons, List.map_nil]); first | done | rfl | (simp only [List.length_drop, List.length_take]; rfl)) ?_; (with_reducible refine (matrix_Reduce.calls _ _ l0 t103 t104 t105 _ ?side1 ?side2 A4.out).mono ?_); (case side1 => repeat (first | exact HR0.out | (with_reducible refine Kd.C_alloc ?_ _) | (with_reducible refine Kd.C_drewN ?_ _) | (with_reducible refine Kd.C_drew ?_))); (case side2 => exact HC0.out); rintro e w57 ⟨v106, v108, rfl, ho0, ho1, hb⟩; refine ⟨_, rfl, ?_⟩; have n0_ := Aside0.mk (Kd.S_lower ho0 (below_size (by repeat (first | (with_reducible first | exact HB.out | apply below_alloc | apply pw_below_drewN | apply below_drew1) | exact HB.out)))); have n1_ := Aside0.mk (Kd.R_lower ho1 (below_size (by repeat (first | (with_reducible first | exact HB.out | apply below_alloc | apply pw_below_drewN | apply below_drew1) | exact HB.out)))); have n2_ := Aside0.mk (below_step (by repeat (first | (with_reducible first | exact HB.out | apply below_alloc | apply pw_below_drewN | apply below_drew1) | exact HB.out)) hb); clear HB; have HO107 := n0_; have HO109 := n1_; have HB := n2_; clear n0_ n1_ n2_; (try clear hb); (try clear hb2); (try clear hk); (try clear hi); (try clear ho0); (try clear ho1)) | ((with_reducible refine gate_callee (f := 18) rfl ?_); refine goesL_ (some 19) rfl rfl Try.func18 (by kernel_rfl) rfl #[.slice A0 l0.length c0] rfl (by (try simp only [List.map_toArray, List.map_cons, List.map_nil]); first | done | rfl | (simp only [List.length_drop, List.length_take]; rfl)) ?_; (with_reducible refine (kinkeepref04_Valid.calls k _ _ l0 false _ ?side1 ?side2 A5.out).mono ?_); (case side1 => repeat (first | exact (Kd.C_below HR0.out HB.out) | (with_reducible refine Kd.C_alloc ?_ _) | (with_reducible refine Kd.C_drewN ?_ _) | (with_reducible refine Kd.C_drew ?_))); (case side2 => exact HC0.out); rintro e w' ⟨rfl, ⟨nd, rfl⟩⟩; refine ⟨_, rfl, ?_⟩) | ((with_reducible refine gate_callee (f := 16) rfl ?_); refine goesL_ (some 21) rfl rfl Try.func16 (by kernel_rfl) rfl #[] rfl (by (try simp only [List.map_toArray, List.map_cons, List.map_nil]); first | done | rfl | (simp only [List.length_drop, List.length_take]; rfl)) ?_; (with_reducible refine (kinkeeplaw04_awake.calls  true _ A42.out).mono ?_); rintro e w58 ⟨rfl, hb⟩; refine ⟨_, rfl, ?_⟩; have n0_ := Aside0.mk (Kd.S_below (by (with_reducible repeat (first | apply Kd.S_alloc | apply Kd.S_drewN | apply Kd.S_drew)); exact HO107.out) hb); have n1_ := Aside0.mk (Kd.R_below (by (with_reducible repeat (first | apply Kd.R_alloc | apply Kd.R_drewN | apply Kd.R_drew)); exact HO109.out) hb); have n2_ := Aside0.mk (below_step (by repeat (first | (with_reducible first | exact HB.out | apply below_alloc | apply pw_below_drewN | apply below_drew1) | exact HB.out)) hb); clear HO107; clear HO109; clear HB; have HO107 := n0_; have HO109 := n1_; have HB := n2_; clear n0_ n1_ n2_; (try clear hb); (try clear hb2); (try clear hk); (try clear hi); obtain ⟨Ao59, co59, eo59⟩ := Kd.S_slice HO107.out; subst eo59))
            go_ret
            exact ⟨by first | rfl | (simp [errW_none, errW_some] <;> rfl) | (simp [*, errW_none, errW_some] <;> rfl), by repeat (first | (with_reducible first | exact HB.out | apply below_alloc | apply pw_below_drewN | apply below_drew1) | exact HB.out)⟩
        · rw [if_neg c44] at H
          have c44b0 : (t105 == 1) = false := beq_eq_false_iff_ne.mpr c44
          have c44b1 : (t105 != 1) = true := bne_iff_ne.mpr c44
          obtain rfl := Option.some.inj H
          go_enter Try.func5, Try.ntmps5
          go_wp2_with (first | ((with_reducible refine gate_callee (f := 15) rfl ?_); refine goesL_ (some 9) rfl rfl Try.func15 (by kernel_rfl) rfl #[.slice A0 l0.length c0, .int .i64 8] rfl (by (try simp only [List.map_toArray, List.map_cons, List.map_nil]); first | done | rfl | (simp only [List.length_drop, List.length_take]; rfl)) ?_; (with_reducible refine (kinkeeplaw04_few.calls k _ _ l0 8 true _ ?side1 ?side2 A2.out).mono ?_); (case side1 => repeat (first | exact HR0.out | (with_reducible refine Kd.C_alloc ?_ _) | (with_reducible refine Kd.C_drewN ?_ _) | (with_reducible refine Kd.C_drew ?_))); (case side2 => exact HC0.out); rintro e w' ⟨rfl, ⟨nd, rfl⟩⟩; refine ⟨_, rfl, ?_⟩) | ((with_reducible refine gate_callee (f := 27) rfl ?_); refine goesL_ (some 14) rfl rfl Try.func27 (by kernel_rfl) rfl #[.slice A0 l0.length c0] rfl (by (try simp only [List.map_toArray, List.map_cons, List.map_nil]); first | done | rfl | (simp only [List.length_drop, List.length_take]; rfl)) ?_; (with_reducible refine (matrix_Reduce.calls _ _ l0 t103 t104 t105 _ ?side1 ?side2 A4.out).mono ?_); (case side1 => repeat (first | exact HR0.out | (with_reducible refine Kd.C_alloc ?_ _) | (with_reducible refine Kd.C_drewN ?_ _) | (with_reducible refine Kd.C_drew ?_))); (case side2 => exact HC0.out); rintro e w60 ⟨v106, v108, rfl, ho0, ho1, hb⟩; refine ⟨_, rfl, ?_⟩; have n0_ := Aside0.mk (Kd.S_lower ho0 (below_size (by repeat (first | (with_reducible first | exact HB.out | apply below_alloc | apply pw_below_drewN | apply below_drew1) | exact HB.out)))); have n1_ := Aside0.mk (Kd.R_lower ho1 (below_size (by repeat (first | (with_reducible first | exact HB.out | apply below_alloc | apply pw_below_drewN | apply below_drew1) | exact HB.out)))); have n2_ := Aside0.mk (below_step (by repeat (first | (with_reducible first | exact HB.out | apply below_alloc | apply pw_below_drewN | apply below_drew1) | exact HB.out)) hb); clear HB; have HO107 := n0_; have HO109 := n1_; have HB := n2_; clear n0_ n1_ n2_; (try clear hb); (try clear hb2); (try clear hk); (try clear hi); (try clear ho0); (try clear ho1)) | ((with_reducible refine gate_callee (f := 18) rfl ?_); refine goesL_ (some 19) rfl rfl Try.func18 (by kernel_rfl) rfl #[.slice A0 l0.length c0] rfl (by (try simp only [List.map_toArray, List.map_cons, List.map_nil]); first | done | rfl | (simp only [List.length_drop, List.length_take]; rfl)) ?_; (with_reducible refine (kinkeepref04_Valid.calls k _ _ l0 false _ ?side1 ?side2 A5.out).mono ?_); (case side1 => repeat (first | exact (Kd.C_below HR0.out HB.out) | (with_reducible refine Kd.C_alloc ?_ _) | (with_reducible refine Kd.C_drewN ?_ _) | (with_reducible refine Kd.C_drew ?_))); (case side2 => exact HC0.out); rintro e w' ⟨rfl, ⟨nd, rfl⟩⟩; refine ⟨_, rfl, ?_⟩) | ((with_reducible refine gate_callee (f := 16) rfl ?_); refine goesL_ (some 21) rfl rfl Try.func16 (by kernel_rfl) rfl #[] rfl (by (try simp only [List.map_toArray, List.map_cons, List.map_nil]); first | done | rfl | (simp only [List.length_drop, List.length_take]; rfl)) ?_; (with_reducible refine (kinkeeplaw04_awake.calls  true _ A42.out).mono ?_); rintro e w61 ⟨rfl, hb⟩; refine ⟨_, rfl, ?_⟩; have n0_ := Aside0.mk (Kd.S_below (by (with_reducible repeat (first | apply Kd.S_alloc | apply Kd.S_drewN | apply Kd.S_drew)); exact HO107.out) hb); have n1_ := Aside0.mk (Kd.R_below (by (with_reducible repeat (first | apply Kd.R_alloc | apply Kd.R_drewN | apply Kd.R_drew)); exact HO109.out) hb); have n2_ := Aside0.mk (below_step (by repeat (first | (with_reducible first | exact HB.out | apply below_alloc | apply pw_below_drewN | apply below_drew1) | exact HB.out)) hb); clear HO107; clear HO109; clear HB; have HO107 := n0_; have HO109 := n1_; have HB := n2_; clear n0_ n1_ n2_; (try clear hb); (try clear hb2); (try clear hk); (try clear hi)))
          go_ret
          exact ⟨by first | rfl | (simp [errW_none, errW_some] <;> rfl) | (simp [*, errW_none, errW_some] <;> rfl), by repeat (first | (with_reducible first | exact HB.out | apply below_alloc | apply pw_below_drewN | apply below_drew1) | exact HB.out)⟩
      · replace c43 := Bool.eq_false_iff.mpr c43
        subst c43
        have H1 : (some false) = some r := by rw [if_neg (show ¬ (false = true) by decide)] at H; exact H
        clear H
        have H := H1
        clear H1
        obtain rfl := Option.some.inj H
        go_enter Try.func5, Try.ntmps5
        go_wp2_with (first | ((with_reducible refine gate_callee (f := 15) rfl ?_); refine goesL_ (some 9) rfl rfl Try.func15 (by kernel_rfl) rfl #[.slice A0 l0.length c0, .int .i64 8] rfl (by (try simp only [List.map_toArray, List.map_cons, List.map_nil]); first | done | rfl | (simp only [List.length_drop, List.length_take]; rfl)) ?_; (with_reducible refine (kinkeeplaw04_few.calls k _ _ l0 8 true _ ?side1 ?side2 A2.out).mono ?_); (case side1 => repeat (first | exact HR0.out | (with_reducible refine Kd.C_alloc ?_ _) | (with_reducible refine Kd.C_drewN ?_ _) | (with_reducible refine Kd.C_drew ?_))); (case side2 => exact HC0.out); rintro e w' ⟨rfl, ⟨nd, rfl⟩⟩; refine ⟨_, rfl, ?_⟩) | ((with_reducible refine gate_callee (f := 27) rfl ?_); refine goesL_ (some 14) rfl rfl Try.func27 (by kernel_rfl) rfl #[.slice A0 l0.length c0] rfl (by (try simp only [List.map_toArray, List.map_cons, List.map_nil]); first | done | rfl | (simp only [List.length_drop, List.length_take]; rfl)) ?_; (with_reducible refine (matrix_Reduce.calls _ _ l0 t103 t104 t105 _ ?side1 ?side2 A4.out).mono ?_); (case side1 => repeat (first | exact HR0.out | (with_reducible refine Kd.C_alloc ?_ _) | (with_reducible refine Kd.C_drewN ?_ _) | (with_reducible refine Kd.C_drew ?_))); (case side2 => exact HC0.out); rintro e w62 ⟨v106, v108, rfl, ho0, ho1, hb⟩; refine ⟨_, rfl, ?_⟩; have n0_ := Aside0.mk (Kd.S_lower ho0 (below_size (by repeat (first | (with_reducible first | exact HB.out | apply below_alloc | apply pw_below_drewN | apply below_drew1) | exact HB.out)))); have n1_ := Aside0.mk (Kd.R_lower ho1 (below_size (by repeat (first | (with_reducible first | exact HB.out | apply below_alloc | apply pw_below_drewN | apply below_drew1) | exact HB.out)))); have n2_ := Aside0.mk (below_step (by repeat (first | (with_reducible first | exact HB.out | apply below_alloc | apply pw_below_drewN | apply below_drew1) | exact HB.out)) hb); clear HB; have HO107 := n0_; have HO109 := n1_; have HB := n2_; clear n0_ n1_ n2_; (try clear hb); (try clear hb2); (try clear hk); (try clear hi); (try clear ho0); (try clear ho1)) | ((with_reducible refine gate_callee (f := 18) rfl ?_); refine goesL_ (some 19) rfl rfl Try.func18 (by kernel_rfl) rfl #[.slice A0 l0.length c0] rfl (by (try simp only [List.map_toArray, List.map_cons, List.map_nil]); first | done | rfl | (simp only [List.length_drop, List.length_take]; rfl)) ?_; (with_reducible refine (kinkeepref04_Valid.calls k _ _ l0 false _ ?side1 ?side2 A5.out).mono ?_); (case side1 => repeat (first | exact (Kd.C_below HR0.out HB.out) | (with_reducible refine Kd.C_alloc ?_ _) | (with_reducible refine Kd.C_drewN ?_ _) | (with_reducible refine Kd.C_drew ?_))); (case side2 => exact HC0.out); rintro e w' ⟨rfl, ⟨nd, rfl⟩⟩; refine ⟨_, rfl, ?_⟩) | ((with_reducible refine gate_callee (f := 16) rfl ?_); refine goesL_ (some 21) rfl rfl Try.func16 (by kernel_rfl) rfl #[] rfl (by (try simp only [List.map_toArray, List.map_cons, List.map_nil]); first | done | rfl | (simp only [List.length_drop, List.length_take]; rfl)) ?_; (with_reducible refine (kinkeeplaw04_awake.calls  false _ A42.out).mono ?_); rintro e w63 ⟨rfl, hb⟩; refine ⟨_, rfl, ?_⟩; have n0_ := Aside0.mk (Kd.S_below (by (with_reducible repeat (first | apply Kd.S_alloc | apply Kd.S_drewN | apply Kd.S_drew)); exact HO107.out) hb); have n1_ := Aside0.mk (Kd.R_below (by (with_reducible repeat (first | apply Kd.R_alloc | apply Kd.R_drewN | apply Kd.R_drew)); exact HO109.out) hb); have n2_ := Aside0.mk (below_step (by repeat (first | (with_reducible first | exact HB.out | apply below_alloc | apply pw_below_drewN | apply below_drew1) | exact HB.out)) hb); clear HO107; clear HO109; clear HB; have HO107 := n0_; have HO109 := n1_; have HB := n2_; clear n0_ n1_ n2_; (try clear hb); (try clear hb2); (try clear hk); (try clear hi)))
        go_ret
        exact ⟨by first | rfl | (simp [errW_none, errW_some] <;> rfl) | (simp [*, errW_none, errW_some] <;> rfl), by repeat (first | (with_reducible first | exact HB.out | apply below_alloc | apply pw_below_drewN | apply below_drew1) | exact HB.out)⟩
  · replace c3 := Bool.eq_false_iff.mpr c3
    subst c3
    have H1 : ((kinkeeplaw04_awake.f).bind fun t102 => (some t102)) = some r := by rw [if_neg (show ¬ (false = true) by decide)] at H; exact H
    clear H
    have H := H1
    clear H1
    replace H := Option.bind_eq_some_iff.mp H
    obtain ⟨t102, A640, H⟩ := H
    replace H : (some t102) = some r := H
    have A64 := Aside0.mk A640
    clear A640
    obtain rfl := Option.some.inj H
    go_enter Try.func5, Try.ntmps5
    go_wp2_with (first | ((with_reducible refine gate_callee (f := 15) rfl ?_); refine goesL_ (some 9) rfl rfl Try.func15 (by kernel_rfl) rfl #[.slice A0 l0.length c0, .int .i64 8] rfl (by (try simp only [List.map_toArray, List.map_cons, List.map_nil]); first | done | rfl | (simp only [List.length_drop, List.length_take]; rfl)) ?_; (with_reducible refine (kinkeeplaw04_few.calls k _ _ l0 8 false _ ?side1 ?side2 A2.out).mono ?_); (case side1 => repeat (first | exact HR0.out | (with_reducible refine Kd.C_alloc ?_ _) | (with_reducible refine Kd.C_drewN ?_ _) | (with_reducible refine Kd.C_drew ?_))); (case side2 => exact HC0.out); rintro e w' ⟨rfl, ⟨nd, rfl⟩⟩; refine ⟨_, rfl, ?_⟩) | ((with_reducible refine gate_callee (f := 16) rfl ?_); refine goesL_ (some 11) rfl rfl Try.func16 (by kernel_rfl) rfl #[] rfl (by (try simp only [List.map_toArray, List.map_cons, List.map_nil]); first | done | rfl | (simp only [List.length_drop, List.length_take]; rfl)) ?_; (with_reducible refine (kinkeeplaw04_awake.calls  t102 _ A64.out).mono ?_); rintro e w65 ⟨rfl, hb⟩; refine ⟨_, rfl, ?_⟩; have n0_ := Aside0.mk (below_step (by repeat (first | (with_reducible first | exact HB.out | apply below_alloc | apply pw_below_drewN | apply below_drew1) | exact HB.out)) hb); clear HB; have HB := n0_; clear n0_; (try clear hb); (try clear hb2); (try clear hk); (try clear hi)))
    go_ret
    exact ⟨by first | rfl | (simp [errW_none, errW_some] <;> rfl) | (simp [*, errW_none, errW_some] <;> rfl), by repeat (first | (with_reducible first | exact HB.out | apply below_alloc | apply pw_below_drewN | apply below_drew1) | exact HB.out)⟩
end Go.Proofs.Ytpkghpljgjlmjaa.K
/- The plain law of MatrixReduces: what the printed function computes is true. -/
namespace Go.Proofs.Ytpkghpljgjlmjaa.Pure
open Go.RowKit Go.Proofs.Ytpkghpljgjlmjaa.K Kin
set_option linter.unusedVariables false
theorem MatrixReduces (M : List (List B)) (hM : (up2 M).length ≤ 9223372036854775807) : ∃ k, kinkeeplaw04_MatrixReduces.f k (up2 M) = some true := by
  refine ⟨(up2 M).length + 1000, ?_⟩
  unfold kinkeeplaw04_MatrixReduces.f
  rw [show (8 : Int) = ((8 : Nat) : Int) from rfl, few_b (up2 M) 8 hM (by omega), kinkeeplaw04_awake.f]
  simp only [Option.bind_some]
  cases hf : fewB (up2 M) 8 with
  | false => rfl
  | true =>
    rw [if_pos rfl, refvalid_b (up2 M) (by omega)]
    by_cases hv : validB M = true
    · obtain ⟨v1, v2, v3⟩ := validB_lim hv
      have l1 : (up2 (elimRun M (colsN M)).1).length = M.length := by rw [up2_length, elimRun_length]
      have l2 : (natInts (elimRun M (colsN M)).2.1).length ≤ M.length := by rw [natInts_length]; exact elimRun_piv M _
      rw [up2_length]
      rw [reduce_up M hv, refreduce_up M hv, rank_up M hv, validB_up2, hv]
      simp only [Option.bind_some, if_true]
      rw [same_self _ (by omega) (by omega)]
      simp only [Option.bind_some, if_true]
      rw [ints_self _ (by omega) (by omega), natInts_length]
      simp only [Option.bind_some, if_true, beq_self_eq_true]
    · have hv' : validB (up2 M) = false := by rw [validB_up2]; simpa using hv
      rw [hv', matrix_Reduce.f, matrix_Rank.f, hv']
      rfl
end Go.Proofs.Ytpkghpljgjlmjaa.Pure
