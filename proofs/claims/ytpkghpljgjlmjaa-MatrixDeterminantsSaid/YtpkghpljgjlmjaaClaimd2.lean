/- Walks and plain facts behind the laws of package matrix. No conditions. -/
import Derived.Test.YtpkghpljgjlmjaaClaimd1
/- The elimination, plain: its row operations, and the form that it gives. -/
namespace Go.Proofs.Ytpkghpljgjlmjaa.K
open Kin
set_option linter.unusedVariables false
/-- The elements of a list of rows, 0 outside. -/
def fn (R : List (List B)) : Mx := fun i j => (R.getD i []).getD j 0
theorem fn_out {R : List (List B)} {i : Nat} (h : R.length ≤ i) (j : Nat) : fn R i j = 0 := by
  have e : R.getD i [] = [] := by rw [List.getD_eq_getElem?_getD, List.getElem?_eq_none h]; rfl
  unfold fn
  rw [e]
  rfl
theorem fn_set (R : List (List B)) (a : Nat) (r : List B) (ha : a < R.length) : fn (R.set a r) = upd (fn R) a (fun j => r.getD j 0) := by
  funext i j
  by_cases h : i = a
  · subst h
    rw [upd_at]
    have e : (R.set i r).getD i [] = r := by rw [List.getD_eq_getElem?_getD, List.getElem?_set_self ha]; rfl
    unfold fn
    rw [e]
  · rw [upd_ne _ _ h]
    have e : (R.set a r).getD i [] = R.getD i [] := by rw [List.getD_eq_getElem?_getD, List.getElem?_set_ne (fun e => h e.symm), ← List.getD_eq_getElem?_getD]
    unfold fn
    rw [e]
theorem fn_swap (R : List (List B)) {a b : Nat} (ha : a < R.length) (hb : b < R.length) : fn (swapRows R a b) = swp (fn R) a b := by
  unfold swapRows
  rw [fn_set _ _ _ (by rw [List.length_set]; exact hb), fn_set _ _ _ ha]
  rfl
theorem getD_map_zero (f : B → B) (h0 : f 0 = 0) (l : List B) (j : Nat) : (l.map f).getD j 0 = f (l.getD j 0) := by
  rw [List.getD_eq_getElem?_getD, List.getD_eq_getElem?_getD, List.getElem?_map]
  cases l[j]? with
  | none => exact h0.symm
  | some x => rfl
theorem fn_scale (R : List (List B)) {r : Nat} (c : Nat) (hr : r < R.length) : fn (scaleRow R r c) = upd (fn R) r (fun j => gmul (fn R r j) (ginv (fn R r c))) := by
  unfold scaleRow
  rw [fn_set _ _ _ hr]
  congr 1
  funext j
  rw [getD_map_zero (fun x => gmul x _) (zero_gmul _)]
  rfl
theorem getD_addS {r pr : List B} (h : r.length = pr.length) (c : B) (j : Nat) : (addS r pr c).getD j 0 = r.getD j 0 ^^^ gmul (pr.getD j 0) c := by
  unfold addS
  rw [List.getD_eq_getElem?_getD, List.getElem?_zipWith, List.getD_eq_getElem?_getD, List.getD_eq_getElem?_getD]
  by_cases hj : j < r.length
  · rw [List.getElem?_eq_getElem hj, List.getElem?_eq_getElem (by omega)]
    rfl
  · rw [List.getElem?_eq_none (by omega), List.getElem?_eq_none (by omega)]
    simp [zero_gmul]
theorem fn_clear {R : List (List B)} {m : Nat} (hm : ∀ r ∈ R, r.length = m) {row : Nat} (col : Nat) (hr : row < R.length) : fn (clearRows R row col) = fun i j => if i = row then fn R row j else fn R i j ^^^ gmul (fn R row j) (fn R i col) := by
  funext i j
  by_cases hi : i < R.length
  · have e : (clearRows R row col).getD i [] = if i ≠ row then clearRow (R.getD row []) col (R.getD i []) else R.getD i [] := by
      unfold clearRows
      rw [List.getD_eq_getElem?_getD, List.getElem?_mapIdx, List.getElem?_eq_getElem hi, List.getD_eq_getElem?_getD, List.getD_eq_getElem?_getD, List.getElem?_eq_getElem hi]
      rfl
    show ((clearRows R row col).getD i []).getD j 0 = _
    rw [e]
    by_cases h : i = row
    · rw [if_neg (fun x => x h), if_pos h, h]; rfl
    · rw [if_pos h, if_neg h]
      unfold clearRow
      by_cases hz : (R.getD i []).getD col 0 = 0
      · rw [if_pos hz]
        show fn R i j = fn R i j ^^^ gmul (fn R row j) ((R.getD i []).getD col 0)
        rw [hz, gmul_zero, bx_zero]
      · rw [if_neg hz, getD_addS (by rw [hm _ (getD_mem' hi), hm _ (getD_mem' hr)])]
        rfl
  · rw [fn_out (by rw [clearRows_length]; omega), if_neg (by omega), fn_out (R := R) (i := i) (by omega), fn_out (R := R) (i := i) (by omega), gmul_zero, bx_zero]
theorem elimStep_fn {s : ES} {m : Nat} (hm : ∀ r ∈ s.1, r.length = m) {col q : Nat} (h : findRow s.1 s.2.1.length col = some q) :
    fn (elimStep s col).1 = rowop s.2.1.length q (ginv (fn s.1 q col)) (fun i => swp (fn s.1) s.2.1.length q i col) (fn s.1) ∧ (elimStep s col).2.1 = s.2.1 ++ [col] ∧ (elimStep s col).2.2 = gmul s.2.2 (fn s.1 q col) := by
  have hq := findRow_some h
  have hS := fn_swap s.1 (a := s.2.1.length) (b := q) (by omega) (by omega)
  have hp : swp (fn s.1) s.2.1.length q s.2.1.length col = fn s.1 q col := by
    rw [swp_row]
    by_cases e : s.2.1.length = q
    · rw [if_pos e, e]
    · rw [if_neg e, if_pos rfl]
  have e : elimStep s col = (clearRows (scaleRow (swapRows s.1 s.2.1.length q) s.2.1.length col) s.2.1.length col, s.2.1 ++ [col], gmul s.2.2 (((swapRows s.1 s.2.1.length q).getD s.2.1.length []).getD col 0)) := by
    unfold elimStep
    rw [h]
  rw [e]
  refine ⟨?_, rfl, ?_⟩
  · have h1 := swapRows_rows hm (i := s.2.1.length) (j := q) (by omega) (by omega)
    have h2 := scaleRow_rows h1 (i := s.2.1.length) col (by rw [swapRows_length]; omega)
    show fn (clearRows (scaleRow (swapRows s.1 s.2.1.length q) s.2.1.length col) s.2.1.length col) = _
    rw [fn_clear h2 col (by rw [scaleRow_length, swapRows_length]; omega), fn_scale _ col (by rw [swapRows_length]; omega), hS, hp]
    funext i j
    unfold rowop
    by_cases hi : i = s.2.1.length
    · rw [if_pos hi, if_pos hi, upd_at]
    · rw [if_neg hi, if_neg hi, upd_ne _ _ hi, upd_at]
  · show gmul s.2.2 (fn (swapRows s.1 s.2.1.length q) s.2.1.length col) = _
    rw [hS, hp]
theorem elim_ops {R : List (List B)} {m : Nat} (hm : ∀ r ∈ R, r.length = m) (cols : Nat) : ∃ F, Ops R.length (elimRun R cols).2.2 F ∧ fn (elimRun R cols).1 = F (fn R) := by
  induction cols with
  | zero => exact ⟨_, Ops.none _, rfl⟩
  | succ n ih =>
    obtain ⟨F, hF, hf⟩ := ih
    rw [elimRun_succ]
    have hl := elimRun_length R n
    cases hfind : findRow (elimRun R n).1 (elimRun R n).2.1.length n with
    | none =>
      have e : elimStep (elimRun R n) n = elimRun R n := by
        unfold elimStep
        rw [hfind]
      rw [e]
      exact ⟨F, hF, hf⟩
    | some q =>
      obtain ⟨h1, h2, h3⟩ := elimStep_fn (elimRun_rows hm n) hfind
      have hq := findRow_some hfind
      rw [h3, h1]
      refine ⟨_, hF.comp (Ops.one (k := (elimRun R n).2.1.length) (q := q) (by omega) (by omega) hq.2.2 (fun i => swp (fn (elimRun R n).1) (elimRun R n).2.1.length q i n)), ?_⟩
      rw [← hf]
      rfl
/-- The form that the elimination gives. -/
structure Form (A : Mx) (len cols : Nat) (piv : List Nat) : Prop where
  le : piv.length ≤ len
  inc : ∀ a b, a < b → b < piv.length → piv.getD a 0 < piv.getD b 0
  lt : ∀ a, a < piv.length → piv.getD a 0 < cols
  unit : ∀ a, a < piv.length → ∀ i, i < len → A i (piv.getD a 0) = if i = a then 1 else 0
  zero : ∀ i, piv.length ≤ i → i < len → ∀ j, j < cols → A i j = 0
theorem getD_append_left {l : List Nat} {x a : Nat} (h : a < l.length) : (l ++ [x]).getD a 0 = l.getD a 0 := by
  rw [List.getD_eq_getElem?_getD, List.getElem?_append_left h, ← List.getD_eq_getElem?_getD]
theorem getD_append_at (l : List Nat) (x : Nat) : (l ++ [x]).getD l.length 0 = x := by
  rw [List.getD_eq_getElem?_getD, List.getElem?_append_right (Nat.le_refl _)]
  simp
theorem findRow_none {R : List (List B)} {row col : Nat} (h : findRow R row col = none) {i : Nat} (h1 : row ≤ i) (h2 : i < R.length) : fn R i col = 0 := by
  unfold findRow at h
  rw [List.find?_range_eq_none] at h
  have := h i h2
  simp only [Bool.not_eq_true', Bool.and_eq_false_iff, decide_eq_false_iff_not] at this
  rcases this with e | e
  · exact absurd h1 e
  · exact Decidable.not_not.1 e
theorem elim_form {R : List (List B)} {m : Nat} (hm : ∀ r ∈ R, r.length = m) (cols : Nat) : Form (fn (elimRun R cols).1) R.length cols (elimRun R cols).2.1 := by
  induction cols with
  | zero => exact ⟨Nat.zero_le _, fun a b h hb => absurd hb (Nat.not_lt_zero _), fun a h => absurd h (Nat.not_lt_zero _), fun a h => absurd h (Nat.not_lt_zero _), fun _ _ _ j hj => absurd hj (Nat.not_lt_zero _)⟩
  | succ n ih =>
    rw [elimRun_succ]
    have hl := elimRun_length R n
    cases hfind : findRow (elimRun R n).1 (elimRun R n).2.1.length n with
    | none =>
      have e : elimStep (elimRun R n) n = elimRun R n := by
        unfold elimStep
        rw [hfind]
      rw [e]
      refine ⟨ih.le, ih.inc, fun a h => by have := ih.lt a h; omega, ih.unit, fun i h1 h2 j hj => ?_⟩
      by_cases ej : j = n
      · subst ej
        exact findRow_none hfind h1 (by omega)
      · exact ih.zero i h1 h2 j (by omega)
    | some q =>
      obtain ⟨h1, h2, h3⟩ := elimStep_fn (elimRun_rows hm n) hfind
      have hq := findRow_some hfind
      rw [h1, h2]
      generalize hk : (elimRun R n).2.1.length = k at *
      generalize hA : fn (elimRun R n).1 = A at *
      generalize hpv : (elimRun R n).2.1 = piv at *
      have hp : A q n ≠ 0 := by rw [← hA]; exact hq.2.2
      have hSk : ∀ j, swp A k q k j = A q j := by
        intro j
        rw [swp_row]
        by_cases e : k = q
        · rw [if_pos e, e]
        · rw [if_neg e, if_pos rfl]
      have hl1 : (piv ++ [n]).length = k + 1 := by simp; omega
      have unitn : ∀ i, i < R.length → rowop k q (ginv (A q n)) (fun i => swp A k q i n) A i n = if i = k then 1 else 0 := by
        intro i hi
        unfold rowop
        by_cases e : i = k
        · rw [if_pos e, if_pos e, hSk, gmul_ginv _ hp]
        · rw [if_neg e, if_neg e, hSk, gmul_ginv _ hp, one_gmul, bx_self]
      refine ⟨by omega, fun a b hab hb => ?_, fun a ha => ?_, fun a ha i hi => ?_, fun i g1 g2 j hj => ?_⟩
      · rw [hl1] at hb
        rw [getD_append_left (by omega)]
        by_cases e : b = k
        · subst e
          rw [show (piv ++ [n]).getD b 0 = n by rw [← hk]; exact getD_append_at piv n]
          exact ih.lt a (by omega)
        · rw [getD_append_left (by omega)]
          exact ih.inc a b hab (by omega)
      · rw [hl1] at ha
        by_cases e : a = k
        · subst e
          rw [show (piv ++ [n]).getD a 0 = n by rw [← hk]; exact getD_append_at piv n]
          omega
        · rw [getD_append_left (by omega)]
          have := ih.lt a (by omega)
          omega
      · rw [hl1] at ha
        by_cases e : a = k
        · subst e
          rw [show (piv ++ [n]).getD a 0 = n by rw [← hk]; exact getD_append_at piv n]
          exact unitn i hi
        · have hak : a < k := by omega
          rw [getD_append_left (by omega)]
          have hz : A q (piv.getD a 0) = 0 := by
            rw [ih.unit a (by omega) q (by omega), if_neg (by omega)]
          unfold rowop
          rw [hSk, hz, zero_gmul, zero_gmul]
          by_cases e1 : i = k
          · rw [if_pos e1, if_neg (by omega)]
          · rw [if_neg e1, bx_zero, swp_row]
            by_cases e2 : i = q
            · rw [if_pos e2, ih.unit a (by omega) k (by omega), if_neg (by omega), if_neg (by omega)]
            · rw [if_neg e2, if_neg e1]
              exact ih.unit a (by omega) i hi
      · rw [hl1] at g1
        by_cases e : j = n
        · subst e
          rw [unitn i g2, if_neg (by omega)]
        · have hz : A q j = 0 := ih.zero q (by omega) (by omega) j (by omega)
          unfold rowop
          rw [hSk, hz, zero_gmul, zero_gmul, if_neg (by omega), bx_zero, swp_row]
          refine ih.zero _ ?_ ?_ j (by omega)
          · split
            · omega
            · split <;> omega
          · split
            · omega
            · split <;> omega
end Go.Proofs.Ytpkghpljgjlmjaa.K
/- Products of the program and of the reference, plain: both are the sums of products. -/
namespace Go.Proofs.Ytpkghpljgjlmjaa.K
open Go.RowKit Go.Proofs.YtpkghpljgjlmjaaW.PrintWords Go.Proofs.YtpkghpljgjlmjaaW.PrintLast Go.Proofs.YtpkghpljgjlmjaaW.PrintMore Kin
set_option linter.unusedVariables false
/-- With rounds enough, F tells r. -/
def Evt {α : Type} (F : Nat → Option α) (r : α) : Prop := ∃ K, ∀ k, K ≤ k → F k = some r
theorem Evt.of {α : Type} {F : Nat → Option α} {r : α} (K : Nat) (h : ∀ k, K ≤ k → F k = some r) : Evt F r := ⟨K, h⟩
theorem Evt.succ {α : Type} {F G : Nat → Option α} {r : α} (h : Evt G r) (e : ∀ k, 300 ≤ k → F (k + 1) = G k) : Evt F r := by
  obtain ⟨K, h⟩ := h
  refine ⟨K + 301, fun k hk => ?_⟩
  obtain ⟨k, rfl⟩ : ∃ j, k = j + 1 := ⟨k - 1, by omega⟩
  rw [e k (by omega), h k (by omega)]
/-- The elements el i k in rows of cols. -/
def tabM (rows cols : Nat) (el : Nat → Nat → B) : List (List B) := (List.range rows).map fun i => (List.range cols).map fun k => el i k
theorem tabM_length (rows cols : Nat) (el : Nat → Nat → B) : (tabM rows cols el).length = rows := by simp [tabM]
theorem tabM_rows (rows cols : Nat) (el : Nat → Nat → B) : ∀ r ∈ tabM rows cols el, r.length = cols := by
  intro r hr
  obtain ⟨i, _, rfl⟩ := List.mem_map.1 hr
  simp
theorem tabM_fn {rows cols : Nat} (el : Nat → Nat → B) {i k : Nat} (hi : i < rows) (hk : k < cols) : fn (tabM rows cols el) i k = el i k := by
  have e : (tabM rows cols el).getD i [] = (List.range cols).map fun k => el i k := by
    unfold tabM
    rw [List.getD_eq_getElem?_getD, List.getElem?_map, List.getElem?_range hi]
    rfl
  unfold fn
  rw [e, List.getD_eq_getElem?_getD, List.getElem?_map, List.getElem?_range hk]
  rfl
theorem row_at {A : List (List B)} {i : Nat} (h : i < A.length) : A.getD i [] = A[i] := by
  rw [List.getD_eq_getElem?_getD, List.getElem?_eq_getElem h]; rfl
theorem mat_ext {A C : List (List B)} {r c : Nat} (h1 : A.length = r) (h2 : C.length = r) (hA : ∀ x ∈ A, x.length = c) (hC : ∀ x ∈ C, x.length = c) (h : ∀ i j, i < r → j < c → fn A i j = fn C i j) : A = C := by
  refine List.ext_getElem (by omega) (fun i g1 g2 => ?_)
  have a := hA _ (List.getElem_mem g1)
  have b := hC _ (List.getElem_mem g2)
  refine List.ext_getElem (by omega) (fun j g3 g4 => ?_)
  have := h i j (by omega) (by omega)
  unfold fn at this
  rw [row_at g1, row_at g2, List.getD_eq_getElem?_getD, List.getD_eq_getElem?_getD, List.getElem?_eq_getElem g3, List.getElem?_eq_getElem g4] at this
  exact this
def mulM (A C : List (List B)) (cols : Nat) : List (List B) := tabM A.length cols (mulF C.length (fn A) (fn C))
theorem applyPart_getD {n : Nat} {row : List B} {bs : List (List B)} (hb : ∀ b ∈ bs, b.length = n) (c : Nat) : ∀ k, k ≤ row.length → k ≤ bs.length → (applyPart n row bs k).getD c 0 = bsum k (fun j => gmul (row.getD j 0) (fn bs j c)) := by
  intro k
  induction k with
  | zero =>
    intro _ _
    rw [applyPart_zero, List.getD_eq_getElem?_getD]
    by_cases h : c < n
    · rw [List.getElem?_replicate, if_pos h]; rfl
    · rw [List.getElem?_replicate, if_neg h]; rfl
  | succ k ih =>
    intro h1 h2
    rw [applyPart_succ n row bs k (by omega) (by omega), getD_addS (by rw [applyPart_length n row bs hb, hb _ (getD_mem' (by omega))]), ih (by omega) (by omega), gmul_comm (((bs.getD k []).getD c 0)) (row.getD k 0)]
    rfl
theorem applyM_eq {n : Nat} {M Bs : List (List B)} (hM : ∀ r ∈ M, r.length = Bs.length) (hb : ∀ b ∈ Bs, b.length = n) : applyM n M Bs = mulM M Bs n := by
  have hl : ∀ r ∈ M, (applyRow n r Bs).length = n := by
    intro r hr
    rw [← applyPart_all n r Bs r.length (Nat.le_refl _)]
    exact applyPart_length n r Bs hb _
  refine mat_ext (r := M.length) (c := n) (by simp [applyM]) (tabM_length _ _ _) ?_ (tabM_rows _ _ _) (fun i j hi hj => ?_)
  · intro x hx
    obtain ⟨r, hr, rfl⟩ := List.mem_map.1 hx
    exact hl r hr
  · rw [mulM, tabM_fn _ hi hj]
    have e : (applyM n M Bs).getD i [] = applyRow n (M.getD i []) Bs := by
      unfold applyM
      rw [List.getD_eq_getElem?_getD, List.getElem?_map, List.getElem?_eq_getElem hi, row_at hi]
      rfl
    have hr := hM _ (getD_mem' hi)
    unfold fn
    rw [e, ← applyPart_all n _ Bs (M.getD i []).length (Nat.le_refl _), applyPart_getD hb j _ (Nat.le_refl _) (by omega), hr]
    rfl
section
variable {A C : List (List B)} {cols : Nat}
end
/-- What Mul answers: the product, or an error. -/
theorem mul_up (A C : List (List B)) (hA : validB A = true) (hC : validB C = true) (hl : colsN A = C.length) {k : Nat} (hk : 100 ≤ k) : matrix_Mul.f k (up2 A) (up2 C) = some (up2 (mulM A C (colsN C)), 0) := by
  obtain ⟨k, rfl⟩ : ∃ j, k = j + 1 := ⟨k - 1, by omega⟩
  obtain ⟨a1, a2, a3⟩ := validB_lim hA
  obtain ⟨b1, b2, b3⟩ := validB_lim hC
  unfold matrix_Mul.f
  rw [matrix_Valid.f, matrix_Valid.f, validB_up2, validB_up2, hA, hC, columns_eq, colsN_up2, hl, up2_length]
  simp only [Option.bind_some, if_pos, matrix_Mul.j0]
  rw [if_neg (by simp), up2_length, up2_length]
  by_cases h0 : C.length = 0
  · rw [if_pos (by omega)]
    have e : C = [] := List.eq_nil_of_length_eq_zero h0
    subst e
    have hz := zero_eq A.length 0 (by omega) (by omega) (k := k) (by omega)
    rw [show ((0 : Nat) : Int) = 0 from rfl] at hz
    rw [hz]
    simp only [Option.bind_some]
    rw [zeros_up2]
    congr 3
    refine mat_ext (r := A.length) (c := 0) (by simp) (tabM_length _ _ _) ?_ (tabM_rows _ _ _) (fun i j _ hj => absurd hj (by omega))
    intro x hx
    rw [List.eq_of_mem_replicate hx]; rfl
  · rw [if_neg (by omega), apply_up A C hA hl.symm b3 (by omega)]
    simp only [Option.bind_some]
    rw [applyM_eq (fun r hr => by rw [a3 r hr, hl]) b3]
end Go.Proofs.Ytpkghpljgjlmjaa.K
/- Transposed matrices and picked rows, plain. -/
namespace Go.Proofs.Ytpkghpljgjlmjaa.K
open Go.RowKit Go.Proofs.YtpkghpljgjlmjaaW.PrintWords Go.Proofs.YtpkghpljgjlmjaaW.PrintLast Go.Proofs.YtpkghpljgjlmjaaW.PrintMore Kin
set_option linter.unusedVariables false
section
variable {M : List (List B)} {n : Nat}
end
/-- An index of a row. -/
def okIx (n : Nat) (x : Int) : Prop := 0 ≤ x ∧ x < (n : Int)
instance (n : Nat) (x : Int) : Decidable (okIx n x) := inferInstanceAs (Decidable (_ ∧ _))
section
variable {M : List (List B)} {l : List Int} {n : Nat}
end
end Go.Proofs.Ytpkghpljgjlmjaa.K
/- Inverse of package matrix: what it computes; its contract. -/
namespace Go.Proofs.Ytpkghpljgjlmjaa.K
open Go.RowKit Go.Proofs.YtpkghpljgjlmjaaW.PrintWords Go.Proofs.YtpkghpljgjlmjaaW.PrintLast Go.Proofs.YtpkghpljgjlmjaaW.PrintMore Kin
set_option linter.unusedVariables false
theorem concat2_b (a b : List B) (ha : a.length ≤ 1000) (hb : b.length ≤ 1000) {k : Nat} (hk : 10 ≤ k) : slices_Concat_byte_byte.f k [up a, up b] = some (up (a ++ b)) := by
  obtain ⟨k, rfl⟩ : ∃ j, k = j + 10 := ⟨k - 10, by omega⟩
  have la := up_length a
  have lb := up_length b
  unfold slices_Concat_byte_byte.f
  have e0 : rd_L1 [up a, up b] 0 = up a := rfl
  have e1 : rd_L1 [up a, up b] 1 = up b := rfl
  have w1 : wrap64 (0 + ((up a).length : Int)) = (a.length : Int) := by rw [wrap_small _ (by omega) (by omega)]; omega
  have w2 : wrap64 ((a.length : Int) + ((up b).length : Int)) = ((a.length + b.length : Nat) : Int) := by rw [wrap_small _ (by omega) (by omega)]; omega
  have s1 : wrap64 (0 + 1) = 1 := by rw [wrap_small _ (by omega) (by omega)]; rfl
  have s2 : wrap64 (1 + 1) = 2 := by rw [wrap_small _ (by omega) (by omega)]; rfl
  simp only [slices_Concat_byte_byte.l0]
  rw [if_pos (by simp), if_pos (by omega), if_pos (by simp), e0, w1, if_neg (by omega), s1, if_pos (by simp), if_pos (by omega), if_pos (by simp), e1, w2, if_neg (by omega), s2, if_neg (by simp), slices_Grow_byte_byte.f, if_pos ⟨rfl, by omega, by omega⟩]
  simp only [Option.bind_some, slices_Concat_byte_byte.l1]
  rw [if_pos (by simp), if_pos (by omega), if_pos (by simp), e0, if_pos (by simp; omega), s1, if_pos (by simp), if_pos (by omega), if_pos (by simp), e1, if_pos (by simp; omega), s2, if_neg (by simp), up_append]
  rfl
/-- M beside the identity. -/
def wideI (M : List (List B)) (n : Nat) : List (List B) := (List.range n).map fun a => M.getD a [] ++ (idM n).getD a []
def wiU (M : List (List B)) (n i : Nat) : List (List B) := (List.range n).map fun a => if a < i then M.getD a [] ++ (idM n).getD a [] else []
theorem wiU_length (M : List (List B)) (n i : Nat) : (wiU M n i).length = n := by simp [wiU]
theorem wiU_zero (M : List (List B)) (n : Nat) : wiU M n 0 = List.replicate n [] := by
  refine List.ext_getElem (by simp [wiU]) (fun a h1 h2 => ?_)
  simp [wiU]
theorem wiU_all (M : List (List B)) (n : Nat) : wiU M n n = wideI M n := by
  unfold wiU wideI
  refine List.map_congr_left fun a ha => ?_
  rw [List.mem_range] at ha
  rw [if_pos ha]
theorem wiU_step (M : List (List B)) (n i : Nat) (hi : i < n) : (wiU M n i).set i (M.getD i [] ++ (idM n).getD i []) = wiU M n (i + 1) := by
  refine List.ext_getElem (by rw [List.length_set, wiU_length, wiU_length]) (fun a h1 h2 => ?_)
  rw [List.getElem_set]
  simp only [wiU, List.getElem_map, List.getElem_range]
  by_cases ha : i = a
  · subst ha
    rw [if_pos rfl, if_pos (by omega)]
  · rw [if_neg ha]
    by_cases h : a < i
    · rw [if_pos h, if_pos (by omega)]
    · rw [if_neg h, if_neg (by omega)]
theorem idM_length (n : Nat) : (idM n).length = n := by simp [idM]
theorem idM_rows (n : Nat) : ∀ r ∈ idM n, r.length = n := by
  intro r hr
  obtain ⟨a, _, rfl⟩ := List.mem_map.1 hr
  simp
theorem wideI_rows {M : List (List B)} {n : Nat} (hl : M.length = n) (hM : ∀ r ∈ M, r.length = n) : ∀ r ∈ wideI M n, r.length = n + n := by
  intro r hr
  obtain ⟨a, ha, rfl⟩ := List.mem_map.1 hr
  rw [List.mem_range] at ha
  rw [List.length_append, hM _ (getD_mem' (by omega)), idM_rows n _ (getD_mem' (by rw [idM_length]; exact ha))]
theorem winv_l0 {M : List (List B)} {n : Nat} (hl : M.length = n) (hM : ∀ r ∈ M, r.length = n) (hn : n ≤ 64) (m : Nat) :
    ∀ i, i + m = n → Evt (fun K => winv.l0 K (up2 M) (up2 (wiU M n i)) (up2 (idM n)) (n : Int) (i : Int)) (up2 (wideI M n), 0) := by
  induction m with
  | zero =>
    intro i hi
    obtain rfl : i = n := by omega
    refine Evt.of 1 fun K hK => ?_
    obtain ⟨K, rfl⟩ : ∃ j, K = j + 1 := ⟨K - 1, by omega⟩
    simp only [winv.l0]
    rw [if_neg (by omega), wiU_all]
  | succ m ih =>
    intro i hi
    refine (ih (i + 1) (by omega)).succ fun K hK => ?_
    have l1 : (M.getD i []).length = n := hM _ (getD_mem' (by omega))
    have l2 : ((idM n).getD i []).length = n := idM_rows n _ (getD_mem' (by rw [idM_length]; omega))
    simp only [winv.l0]
    rw [if_pos (by omega), if_pos (by omega), if_pos (by rw [up2_length, idM_length]; omega), if_pos (by rw [up2_length]; omega), rd_L1_up2, rd_L1_up2, concat2_b _ _ (by omega) (by omega) (by omega)]
    simp only [Option.bind_some]
    rw [if_pos (by rw [up2_length, wiU_length]; omega), Int.toNat_natCast, set_up2, wiU_step M n i (by omega), wrap_nx' _ (by omega)]
theorem winv_good {M : List (List B)} (hs : squareB M = true) : Evt (fun K => winv.f K (up2 M)) (up2 (wideI M M.length), 0) := by
  obtain ⟨h1, h2⟩ := squareB_lim hs
  obtain ⟨K, h⟩ := winv_l0 (M := M) rfl h2 h1 M.length 0 (by omega)
  refine ⟨K + 100, fun k hk => ?_⟩
  unfold winv.f
  rw [square_eq, squareB_up2, hs, up2_length]
  simp only [Option.bind_some, if_true]
  rw [if_pos (by omega), if_pos (by rw [Int.toNat_natCast]; omega), identity_b M.length h1 (by omega)]
  simp only [Option.bind_some]
  rw [Int.toNat_natCast, up2_length, idM_length, show List.replicate M.length ([] : List Int) = up2 (wiU M M.length 0) by rw [wiU_zero, ← up2_replicate]; rfl]
  exact h k (by omega)
/-- The inverse by elimination, with the code. -/
def invM (M : List (List B)) : List (List B) × Int := if (elimRun (wideI M M.length) M.length).2.1.length < M.length then ([], 4) else (invU (elimRun (wideI M M.length) M.length).1 M.length M.length, 0)
def matrix_Inverse.f (l0 : List (List Int)) : Option ((List (List Int)) × Int) :=
  if squareB l0 = true then (if bytes2 l0 = true ∧ l0.length ≤ 32 then some (up2 (invM (toB2 l0)).1, (invM (toB2 l0)).2) else none) else some ([], 1)
theorem inverse_up (M : List (List B)) (hv : squareB M = true) (hn : M.length ≤ 32) : matrix_Inverse.f (up2 M) = some (up2 (invM M).1, (invM M).2) := by
  unfold matrix_Inverse.f
  rw [if_pos (by rw [squareB_up2]; exact hv), if_pos ⟨bytes2_up2 M, by rw [up2_length]; exact hn⟩, toB2_up2]
theorem matrix_Inverse.calls (A0 : Option Addr) (c0 : Nat) (l0 : List (List Int)) (r1 : List (List Int)) (r2 : Int) (w : World) (hr0 : Kd.C (Kd.slice 5 (Kd.int .u8)) w A0 l0.length l0) (hc0 : l0.length ≤ c0) (h : matrix_Inverse.f l0 = some (r1, r2)) :
    Calls Try.prog 42 #[.slice A0 l0.length c0] w fun e w' => ∃ v0_ : Value, e = .returned (.tuple #[v0_, .int .i64 r2]) ∧ Kd.S (Kd.slice 5 (Kd.int .u8)) 34 w' w.heap.size (fun _ => True) v0_ r1 ∧ Below w.heap.size w w' := by
  have hV := V_of_C hr0 hc0 w.heap.size
  unfold matrix_Inverse.f at h
  by_cases hs : squareB l0 = true
  · rw [if_pos hs] at h
    split at h
    · rename_i hb
      obtain ⟨M, rfl⟩ := exists_bytes2 hb.1
      have hsM : squareB M = true := by rw [← squareB_up2]; exact hs
      have hn : M.length ≤ 32 := by have := hb.2; rwa [up2_length] at this
      obtain ⟨h1, h2⟩ := squareB_lim hsM
      obtain ⟨K, hK⟩ := winv_good hsM
      rw [toB2_up2] at h
      have hc := inverse_calls K (fun _ => True) A0 c0 (up2 M) (up2 (wideI M M.length)) 0 w hV (fun _ => ⟨wideI M M.length, rfl, by rw [up2_length]; simp [wideI], by rw [up2_length]; exact hn, by rw [up2_length]; exact wideI_rows rfl h2⟩) (hK K (Nat.le_refl _))
      have e1 : invCode (up2 (wideI M M.length)) 0 (up2 M).length = r2 ∧ invVal (up2 (wideI M M.length)) 0 (up2 M).length = r1 := by
        simp only [Option.some.injEq, Prod.mk.injEq] at h
        rw [← h.1, ← h.2, up2_length]
        unfold invCode invVal invE invM
        rw [toB2_up2, if_pos rfl, if_pos rfl]
        by_cases hlt : (elimRun (wideI M M.length) M.length).2.1.length < M.length
        · rw [if_pos hlt, if_pos hlt, if_pos hlt]; exact ⟨rfl, rfl⟩
        · rw [if_neg hlt, if_neg hlt, if_neg hlt]; exact ⟨rfl, rfl⟩
      rw [e1.1, e1.2] at hc
      exact hc
    · cases h
  · rw [if_neg hs] at h
    simp only [Option.some.injEq, Prod.mk.injEq] at h
    obtain ⟨rfl, rfl⟩ := h
    have hw : winv.f 0 l0 = some ([], 1) := by
      unfold winv.f
      rw [square_eq, show squareB l0 = false by simpa using hs]
      rfl
    have hc := inverse_calls 0 (fun _ => True) A0 c0 l0 [] 1 w hV (fun e => by cases e) hw
    exact hc
end Go.Proofs.Ytpkghpljgjlmjaa.K
-- Lines of this claim, written by the session's own program kprint.py (it runs print.py).
namespace Go.Proofs.Ytpkghpljgjlmjaa.K
open Go.RowKit Go.Proofs.YtpkghpljgjlmjaaW.PrintWords Go.Proofs.YtpkghpljgjlmjaaW.PrintLast Go.Proofs.YtpkghpljgjlmjaaW.PrintMore
attribute [local go_sem] max2_int min2_int max_two min_two max_three min_three max_four min_four   -- for this text's walks alone
set_option linter.unusedVariables false
set_option linter.unusedSimpArgs false

/-! ### kinkeeplaw04_MatrixDeterminants: function 14 -/
mutual
def kinkeeplaw04_MatrixDeterminants.j0 : Nat → List (List Int) → Int → Int → List (List Int) → Int → Bool → Option (Bool)
  | 0, _, _, _, _, _, _ => none
  | k + 1, x0, x3, x4, x5, x6, x34 => if x34 = true then ((kinkeeplaw04_awake.f).bind fun t136 => (if t136 = true then (if x4 = 1 then (if x6 = 1 then (if x3 = 0 then (some ((x5.length : Int) == 0)) else (some false)) else (some false)) else (some false)) else (some false))) else (if x4 = 0 then ((kinkeepref04_Determinant.f k x0).bind fun t137 => (kinkeeplaw04_MatrixDeterminants.j1 k x0 x3 x5 x6 (x3 != t137))) else (kinkeeplaw04_MatrixDeterminants.j1 k x0 x3 x5 x6 true))
def kinkeeplaw04_MatrixDeterminants.j1 : Nat → List (List Int) → Int → List (List Int) → Int → Bool → Option (Bool)
  | 0, _, _, _, _, _ => none
  | k + 1, x0, x3, x5, x6, x60 => if x60 = true then (some false) else (if x3 = 0 then ((kinkeeplaw04_awake.f).bind fun t138 => (if t138 = true then (if x6 = 4 then (some ((x5.length : Int) == 0)) else (some false)) else (some false))) else ((matrix_Mul.f k x0 x5).bind fun bt139 => ((matrix_Mul.f k x5 x0).bind fun bt143 => ((kinkeeplaw04_awake.f).bind fun t147 => (if t147 = true then (if x6 = 0 then (if bt139.2 = 0 then (if bt143.2 = 0 then ((kinkeepref04_Identity.f k (x0.length : Int)).bind fun t148 => ((kinkeepref04_Same.f k bt139.1 t148).bind fun t151 => (if t151 = true then ((kinkeepref04_Identity.f k (x0.length : Int)).bind fun t152 => ((kinkeepref04_Same.f k bt143.1 t152).bind fun t155 => (some t155))) else (some false)))) else (some false)) else (some false)) else (some false)) else (some false))))))
end
def kinkeeplaw04_MatrixDeterminants.f (k : Nat) (l0 : List (List Int)) : Option (Bool) := (kinkeeplaw04_few.f k l0 6).bind fun t126 => (if t126 = true then ((matrix_Determinant.f l0).bind fun bt128 => ((matrix_Inverse.f l0).bind fun bt130 => ((kinkeepref04_Valid.f k l0).bind fun t134 => (if t134 = true then ((kinkeepref04_Cols.f l0).bind fun t135 => (kinkeeplaw04_MatrixDeterminants.j0 k l0 bt128.1 bt128.2 bt130.1 bt130.2 (t135 != (l0.length : Int)))) else (kinkeeplaw04_MatrixDeterminants.j0 k l0 bt128.1 bt128.2 bt130.1 bt130.2 true))))) else ((kinkeeplaw04_awake.f).bind fun t127 => (some t127)))
set_option maxHeartbeats 8000000 in
set_option maxRecDepth 100000 in
theorem kinkeeplaw04_MatrixDeterminants.calls (k : Nat) (A0 : Option Addr) (c0 : Nat) (l0 : List (List Int)) (r : Bool) (w : World) (hr0 : Kd.C (Kd.slice 5 (Kd.int .u8)) w A0 l0.length l0) (hc0 : l0.length ≤ c0) (h : kinkeeplaw04_MatrixDeterminants.f k l0 = some r) :
    Calls Try.prog 14 #[.slice A0 l0.length c0] w fun e w' => e = .returned (.bool r) ∧ Below w.heap.size w w' := by
  have HR0 := Aside0.mk hr0
  have HC0 := Aside0.mk hc0
  clear hr0 hc0
  have HB := Aside0.mk (Below.refl w.heap.size w)
  have H : ((kinkeeplaw04_few.f k l0 6).bind fun t126 => (if t126 = true then ((matrix_Determinant.f l0).bind fun bt128 => ((matrix_Inverse.f l0).bind fun bt130 => ((kinkeepref04_Valid.f k l0).bind fun t134 => (if t134 = true then ((kinkeepref04_Cols.f l0).bind fun t135 => (kinkeeplaw04_MatrixDeterminants.j0 k l0 bt128.1 bt128.2 bt130.1 bt130.2 (t135 != (l0.length : Int)))) else (kinkeeplaw04_MatrixDeterminants.j0 k l0 bt128.1 bt128.2 bt130.1 bt130.2 true))))) else ((kinkeeplaw04_awake.f).bind fun t127 => (some t127)))) = some r := h
  clear h
  replace H := Option.bind_eq_some_iff.mp H
  obtain ⟨t126, A20, H⟩ := H
  replace H : (if t126 = true then ((matrix_Determinant.f l0).bind fun bt128 => ((matrix_Inverse.f l0).bind fun bt130 => ((kinkeepref04_Valid.f k l0).bind fun t134 => (if t134 = true then ((kinkeepref04_Cols.f l0).bind fun t135 => (kinkeeplaw04_MatrixDeterminants.j0 k l0 bt128.1 bt128.2 bt130.1 bt130.2 (t135 != (l0.length : Int)))) else (kinkeeplaw04_MatrixDeterminants.j0 k l0 bt128.1 bt128.2 bt130.1 bt130.2 true))))) else ((kinkeeplaw04_awake.f).bind fun t127 => (some t127))) = some r := H
  have A2 := Aside0.mk A20
  clear A20
  by_cases c3 : t126 = true
  · subst c3
    have H1 : ((matrix_Determinant.f l0).bind fun bt128 => ((matrix_Inverse.f l0).bind fun bt130 => ((kinkeepref04_Valid.f k l0).bind fun t134 => (if t134 = true then ((kinkeepref04_Cols.f l0).bind fun t135 => (kinkeeplaw04_MatrixDeterminants.j0 k l0 bt128.1 bt128.2 bt130.1 bt130.2 (t135 != (l0.length : Int)))) else (kinkeeplaw04_MatrixDeterminants.j0 k l0 bt128.1 bt128.2 bt130.1 bt130.2 true))))) = some r := by rw [if_pos rfl] at H; exact H
    clear H
    have H := H1
    clear H1
    replace H := Option.bind_eq_some_iff.mp H
    obtain ⟨⟨t128, t129⟩, A40, H⟩ := H
    replace H : ((matrix_Inverse.f l0).bind fun bt130 => ((kinkeepref04_Valid.f k l0).bind fun t134 => (if t134 = true then ((kinkeepref04_Cols.f l0).bind fun t135 => (kinkeeplaw04_MatrixDeterminants.j0 k l0 t128 t129 bt130.1 bt130.2 (t135 != (l0.length : Int)))) else (kinkeeplaw04_MatrixDeterminants.j0 k l0 t128 t129 bt130.1 bt130.2 true)))) = some r := H
    have A4 := Aside0.mk A40
    clear A40
    replace H := Option.bind_eq_some_iff.mp H
    obtain ⟨⟨t130, t131⟩, A50, H⟩ := H
    replace H : ((kinkeepref04_Valid.f k l0).bind fun t134 => (if t134 = true then ((kinkeepref04_Cols.f l0).bind fun t135 => (kinkeeplaw04_MatrixDeterminants.j0 k l0 t128 t129 t130 t131 (t135 != (l0.length : Int)))) else (kinkeeplaw04_MatrixDeterminants.j0 k l0 t128 t129 t130 t131 true))) = some r := H
    have A5 := Aside0.mk A50
    clear A50
    have HC6 := Aside0.mk H
    clear H
    go_enter Try.func14, Try.ntmps14
    go_upto_region 5 with (first | ((with_reducible refine gate_callee (f := 15) rfl ?_); refine goesL_ (some 12) rfl rfl Try.func15 (by kernel_rfl) rfl #[.slice A0 l0.length c0, .int .i64 6] rfl (by (try simp only [List.map_toArray, List.map_cons, List.map_nil]); first | done | rfl | (simp only [List.length_drop, List.length_take]; rfl)) ?_; (with_reducible refine (kinkeeplaw04_few.calls k _ _ l0 6 true _ ?side1 ?side2 A2.out).mono ?_); (case side1 => repeat (first | exact HR0.out | (with_reducible refine Kd.C_alloc ?_ _) | (with_reducible refine Kd.C_drewN ?_ _) | (with_reducible refine Kd.C_drew ?_))); (case side2 => exact HC0.out); rintro e w' ⟨rfl, ⟨nd, rfl⟩⟩; refine ⟨_, rfl, ?_⟩) | ((with_reducible refine gate_callee (f := 34) rfl ?_); refine goesL_ (some 17) rfl rfl Try.func34 (by kernel_rfl) rfl #[.slice A0 l0.length c0] rfl (by (try simp only [List.map_toArray, List.map_cons, List.map_nil]); first | done | rfl | (simp only [List.length_drop, List.length_take]; rfl)) ?_; (with_reducible refine (matrix_Determinant.calls _ _ l0 t128 t129 _ ?side1 ?side2 A4.out).mono ?_); (case side1 => repeat (first | exact HR0.out | (with_reducible refine Kd.C_alloc ?_ _) | (with_reducible refine Kd.C_drewN ?_ _) | (with_reducible refine Kd.C_drew ?_))); (case side2 => exact HC0.out); rintro e w7 ⟨rfl, hb⟩; refine ⟨_, rfl, ?_⟩; have n0_ := Aside0.mk (below_step (by repeat (first | (with_reducible first | exact HB.out | apply below_alloc | apply pw_below_drewN | apply below_drew1) | exact HB.out)) hb); clear HB; have HB := n0_; clear n0_; (try clear hb); (try clear hb2); (try clear hk); (try clear hi)) | ((with_reducible refine gate_callee (f := 42) rfl ?_); refine goesL_ (some 22) rfl rfl Try.func42 (by kernel_rfl) rfl #[.slice A0 l0.length c0] rfl (by (try simp only [List.map_toArray, List.map_cons, List.map_nil]); first | done | rfl | (simp only [List.length_drop, List.length_take]; rfl)) ?_; (with_reducible refine (matrix_Inverse.calls _ _ l0 t130 t131 _ ?side1 ?side2 A5.out).mono ?_); (case side1 => repeat (first | exact (Kd.C_below HR0.out HB.out) | (with_reducible refine Kd.C_alloc ?_ _) | (with_reducible refine Kd.C_drewN ?_ _) | (with_reducible refine Kd.C_drew ?_))); (case side2 => exact HC0.out); rintro e w8 ⟨v132, rfl, ho0, hb⟩; refine ⟨_, rfl, ?_⟩; have n0_ := Aside0.mk (Kd.S_lower ho0 (below_size (by repeat (first | (with_reducible first | exact HB.out | apply below_alloc | apply pw_below_drewN | apply below_drew1) | exact HB.out)))); have n1_ := Aside0.mk (below_step (by repeat (first | (with_reducible first | exact HB.out | apply below_alloc | apply pw_below_drewN | apply below_drew1) | exact HB.out)) hb); clear HB; have HO133 := n0_; have HB := n1_; clear n0_ n1_; (try clear hb); (try clear hb2); (try clear hk); (try clear hi); (try clear ho0)))
    (try simp only [Act.put, List.setIfInBounds_toArray, List.set_cons_zero, List.set_cons_succ])
    go_cut [34] (fun v34 wc => ∃ (kq : Nat) (x34_5 : Bool), v34 = .bool x34_5 ∧ Aside0 (kinkeeplaw04_MatrixDeterminants.j0 kq l0 t128 t129 t130 t131 x34_5 = some r) ∧ Aside0 (kq ≤ k) ∧ Aside0 (Kd.S (Kd.slice 5 (Kd.int .u8)) 34 wc w.heap.size (fun _ => True) v132 t130) ∧ Aside0 (Below w.heap.size w wc))
    case first =>
      have H := HC6.out
      clear HC6
      replace H := Option.bind_eq_some_iff.mp H
      obtain ⟨t134, A90, H⟩ := H
      replace H : (if t134 = true then ((kinkeepref04_Cols.f l0).bind fun t135 => (kinkeeplaw04_MatrixDeterminants.j0 k l0 t128 t129 t130 t131 (t135 != (l0.length : Int)))) else (kinkeeplaw04_MatrixDeterminants.j0 k l0 t128 t129 t130 t131 true)) = some r := H
      have A9 := Aside0.mk A90
      clear A90
      by_cases c10 : t134 = true
      · subst c10
        have H1 : ((kinkeepref04_Cols.f l0).bind fun t135 => (kinkeeplaw04_MatrixDeterminants.j0 k l0 t128 t129 t130 t131 (t135 != (l0.length : Int)))) = some r := by rw [if_pos rfl] at H; exact H
        clear H
        have H := H1
        clear H1
        replace H := Option.bind_eq_some_iff.mp H
        obtain ⟨t135, A110, H⟩ := H
        replace H : (kinkeeplaw04_MatrixDeterminants.j0 k l0 t128 t129 t130 t131 (t135 != (l0.length : Int))) = some r := H
        have A11 := Aside0.mk A110
        clear A110
        have H' := Aside0.mk H
        clear H
        go_wp2_with (first | ((with_reducible refine gate_callee (f := 18) rfl ?_); refine goesL_ (some 26) rfl rfl Try.func18 (by kernel_rfl) rfl #[.slice A0 l0.length c0] rfl (by (try simp only [List.map_toArray, List.map_cons, List.map_nil]); first | done | rfl | (simp only [List.length_drop, List.length_take]; rfl)) ?_; (with_reducible refine (kinkeepref04_Valid.calls k _ _ l0 true _ ?side1 ?side2 A9.out).mono ?_); (case side1 => repeat (first | exact (Kd.C_below HR0.out HB.out) | (with_reducible refine Kd.C_alloc ?_ _) | (with_reducible refine Kd.C_drewN ?_ _) | (with_reducible refine Kd.C_drew ?_))); (case side2 => exact HC0.out); rintro e w' ⟨rfl, ⟨nd, rfl⟩⟩; refine ⟨_, rfl, ?_⟩) | (go_at_call 21; (with_reducible refine (kinkeepref04_Cols.calls _ _ l0 t135 _ ?side1 ?side2 A11.out).mono ?_); (case side1 => repeat (first | exact (Kd.C_below HR0.out (by repeat (first | (with_reducible first | exact HB.out | apply below_alloc | apply pw_below_drewN | apply below_drew1) | exact HB.out))) | (with_reducible refine Kd.C_alloc ?_ _) | (with_reducible refine Kd.C_drewN ?_ _) | (with_reducible refine Kd.C_drew ?_))); (case side2 => exact HC0.out); rintro e w' ⟨rfl, ⟨nd, rfl⟩⟩))
        go_meet
        case rel => exact ⟨_, ((t135 != (l0.length : Int))), (by first | rfl | (simp; done) | (simp [*]; done)), H', ⟨by first | omega | exact Nat.le_refl _⟩, ⟨by (with_reducible repeat (first | apply Kd.S_alloc | apply Kd.S_drewN | apply Kd.S_drew)); exact HO133.out⟩, ⟨by repeat (first | (with_reducible first | exact HB.out | apply below_alloc | apply pw_below_drewN | apply below_drew1) | exact HB.out)⟩⟩
      · replace c10 := Bool.eq_false_iff.mpr c10
        subst c10
        have H1 : (kinkeeplaw04_MatrixDeterminants.j0 k l0 t128 t129 t130 t131 true) = some r := by rw [if_neg (show ¬ (false = true) by decide)] at H; exact H
        clear H
        have H := H1
        clear H1
        have H' := Aside0.mk H
        clear H
        go_wp2_with (first | ((with_reducible refine gate_callee (f := 18) rfl ?_); refine goesL_ (some 26) rfl rfl Try.func18 (by kernel_rfl) rfl #[.slice A0 l0.length c0] rfl (by (try simp only [List.map_toArray, List.map_cons, List.map_nil]); first | done | rfl | (simp only [List.length_drop, List.length_take]; rfl)) ?_; (with_reducible refine (kinkeepref04_Valid.calls k _ _ l0 false _ ?side1 ?side2 A9.out).mono ?_); (case side1 => repeat (first | exact (Kd.C_below HR0.out HB.out) | (with_reducible refine Kd.C_alloc ?_ _) | (with_reducible refine Kd.C_drewN ?_ _) | (with_reducible refine Kd.C_drew ?_))); (case side2 => exact HC0.out); rintro e w' ⟨rfl, ⟨nd, rfl⟩⟩; refine ⟨_, rfl, ?_⟩))
        go_meet
        case rel => exact ⟨_, (true), (by first | rfl | (simp; done) | (simp [*]; done)), H', ⟨by first | omega | exact Nat.le_refl _⟩, ⟨by (with_reducible repeat (first | apply Kd.S_alloc | apply Kd.S_drewN | apply Kd.S_drew)); exact HO133.out⟩, ⟨by repeat (first | (with_reducible first | exact HB.out | apply below_alloc | apply pw_below_drewN | apply below_drew1) | exact HB.out)⟩⟩
    case rest =>
      clear HC6; (try clear c1); (try clear p2); (try clear c3); (try clear c4); (try clear c10)
      obtain ⟨kq, x34_5, rfl, HA, HJ5, HO_5, HB⟩ := hcut
      cases kq with
      | zero => exact absurd HA.out (by simp [kinkeeplaw04_MatrixDeterminants.j0])
      | succ kj5 =>
        have H := HA.out
        clear HA
        simp only [kinkeeplaw04_MatrixDeterminants.j0] at H
        by_cases c12 : x34_5 = true
        · subst c12
          have H1 : ((kinkeeplaw04_awake.f).bind fun t136 => (if t136 = true then (if t129 = 1 then (if t131 = 1 then (if t128 = 0 then (some ((t130.length : Int) == 0)) else (some false)) else (some false)) else (some false)) else (some false))) = some r := by rw [if_pos rfl] at H; exact H
          clear H
          have H := H1
          clear H1
          replace H := Option.bind_eq_some_iff.mp H
          obtain ⟨t136, A130, H⟩ := H
          replace H : (if t136 = true then (if t129 = 1 then (if t131 = 1 then (if t128 = 0 then (some ((t130.length : Int) == 0)) else (some false)) else (some false)) else (some false)) else (some false)) = some r := H
          have A13 := Aside0.mk A130
          clear A130
          by_cases c14 : t136 = true
          · subst c14
            have H1 : (if t129 = 1 then (if t131 = 1 then (if t128 = 0 then (some ((t130.length : Int) == 0)) else (some false)) else (some false)) else (some false)) = some r := by rw [if_pos rfl] at H; exact H
            clear H
            have H := H1
            clear H1
            by_cases c15 : t129 = 1
            · rw [if_pos c15] at H
              have c15b0 : (t129 == 1) = true := beq_iff_eq.mpr c15
              have c15b1 : (t129 != 1) = false := bne_eq_false_iff_eq.mpr c15
              clear c15
              by_cases c16 : t131 = 1
              · rw [if_pos c16] at H
                have c16b0 : (t131 == 1) = true := beq_iff_eq.mpr c16
                have c16b1 : (t131 != 1) = false := bne_eq_false_iff_eq.mpr c16
                clear c16
                by_cases c17 : t128 = 0
                · rw [if_pos c17] at H
                  have c17b0 : (t128 == 0) = true := beq_iff_eq.mpr c17
                  have c17b1 : (t128 != 0) = false := bne_eq_false_iff_eq.mpr c17
                  clear c17
                  obtain rfl := Option.some.inj H
                  go_wp2_with (first | ((with_reducible refine gate_callee (f := 16) rfl ?_); refine goesL_ (some 35) rfl rfl Try.func16 (by kernel_rfl) rfl #[] rfl (by (try simp only [List.map_toArray, List.map_cons, List.map_nil]); first | done | rfl | (simp only [List.length_drop, List.length_take]; rfl)) ?_; (with_reducible refine (kinkeeplaw04_awake.calls  true _ A13.out).mono ?_); rintro e w18 ⟨rfl, hb⟩; refine ⟨_, rfl, ?_⟩; have n0_ := Aside0.mk (Kd.S_below (by (with_reducible repeat (first | apply Kd.S_alloc | apply Kd.S_drewN | apply Kd.S_drew)); exact HO_5.out) hb); have n1_ := Aside0.mk (below_step (by repeat (first | (with_reducible first | exact HB.out | apply below_alloc | apply pw_below_drewN | apply below_drew1) | exact HB.out)) hb); clear HO_5; clear HB; have HO_5 := n0_; have HB := n1_; clear n0_ n1_; (try clear hb); (try clear hb2); (try clear hk); (try clear hi); obtain ⟨Ao19, co19, eo19⟩ := Kd.S_slice HO_5.out; subst eo19))
                  go_ret
                  exact ⟨by first | rfl | (simp [errW_none, errW_some] <;> rfl) | (simp [*, errW_none, errW_some] <;> rfl), by repeat (first | (with_reducible first | exact HB.out | apply below_alloc | apply pw_below_drewN | apply below_drew1) | exact HB.out)⟩
                · rw [if_neg c17] at H
                  have c17b0 : (t128 == 0) = false := beq_eq_false_iff_ne.mpr c17
                  have c17b1 : (t128 != 0) = true := bne_iff_ne.mpr c17
                  obtain rfl := Option.some.inj H
                  go_wp2_with (first | ((with_reducible refine gate_callee (f := 16) rfl ?_); refine goesL_ (some 35) rfl rfl Try.func16 (by kernel_rfl) rfl #[] rfl (by (try simp only [List.map_toArray, List.map_cons, List.map_nil]); first | done | rfl | (simp only [List.length_drop, List.length_take]; rfl)) ?_; (with_reducible refine (kinkeeplaw04_awake.calls  true _ A13.out).mono ?_); rintro e w20 ⟨rfl, hb⟩; refine ⟨_, rfl, ?_⟩; have n0_ := Aside0.mk (Kd.S_below (by (with_reducible repeat (first | apply Kd.S_alloc | apply Kd.S_drewN | apply Kd.S_drew)); exact HO_5.out) hb); have n1_ := Aside0.mk (below_step (by repeat (first | (with_reducible first | exact HB.out | apply below_alloc | apply pw_below_drewN | apply below_drew1) | exact HB.out)) hb); clear HO_5; clear HB; have HO_5 := n0_; have HB := n1_; clear n0_ n1_; (try clear hb); (try clear hb2); (try clear hk); (try clear hi)))
                  go_ret
                  exact ⟨by first | rfl | (simp [errW_none, errW_some] <;> rfl) | (simp [*, errW_none, errW_some] <;> rfl), by repeat (first | (with_reducible first | exact HB.out | apply below_alloc | apply pw_below_drewN | apply below_drew1) | exact HB.out)⟩
              · rw [if_neg c16] at H
                have c16b0 : (t131 == 1) = false := beq_eq_false_iff_ne.mpr c16
                have c16b1 : (t131 != 1) = true := bne_iff_ne.mpr c16
                obtain rfl := Option.some.inj H
                go_wp2_with (first | ((with_reducible refine gate_callee (f := 16) rfl ?_); refine goesL_ (some 35) rfl rfl Try.func16 (by kernel_rfl) rfl #[] rfl (by (try simp only [List.map_toArray, List.map_cons, List.map_nil]); first | done | rfl | (simp only [List.length_drop, List.length_take]; rfl)) ?_; (with_reducible refine (kinkeeplaw04_awake.calls  true _ A13.out).mono ?_); rintro e w21 ⟨rfl, hb⟩; refine ⟨_, rfl, ?_⟩; have n0_ := Aside0.mk (Kd.S_below (by (with_reducible repeat (first | apply Kd.S_alloc | apply Kd.S_drewN | apply Kd.S_drew)); exact HO_5.out) hb); have n1_ := Aside0.mk (below_step (by repeat (first | (with_reducible first | exact HB.out | apply below_alloc | apply pw_below_drewN | apply below_drew1) | exact HB.out)) hb); clear HO_5; clear HB; have HO_5 := n0_; have HB := n1_; clear n0_ n1_; (try clear hb); (try clear hb2); (try clear hk); (try clear hi)))
                go_ret
                exact ⟨by first | rfl | (simp [errW_none, errW_some] <;> rfl) | (simp [*, errW_none, errW_some] <;> rfl), by repeat (first | (with_reducible first | exact HB.out | apply below_alloc | apply pw_below_drewN | apply below_drew1) | exact HB.out)⟩
            · rw [if_neg c15] at H
              have c15b0 : (t129 == 1) = false := beq_eq_false_iff_ne.mpr c15
              have c15b1 : (t129 != 1) = true := bne_iff_ne.mpr c15
              obtain rfl := Option.some.inj H
              go_wp2_with (first | ((with_reducible refine gate_callee (f := 16) rfl ?_); refine goesL_ (some 35) rfl rfl Try.func16 (by kernel_rfl) rfl #[] rfl (by (try simp only [List.map_toArray, List.map_cons, List.map_nil]); first | done | rfl | (simp only [List.length_drop, List.length_take]; rfl)) ?_; (with_reducible refine (kinkeeplaw04_awake.calls  true _ A13.out).mono ?_); rintro e w22 ⟨rfl, hb⟩; refine ⟨_, rfl, ?_⟩; have n0_ := Aside0.mk (Kd.S_below (by (with_reducible repeat (first | apply Kd.S_alloc | apply Kd.S_drewN | apply Kd.S_drew)); exact HO_5.out) hb); have n1_ := Aside0.mk (below_step (by repeat (first | (with_reducible first | exact HB.out | apply below_alloc | apply pw_below_drewN | apply below_drew1) | exact HB.out)) hb); clear HO_5; clear HB; have HO_5 := n0_; have HB := n1_; clear n0_ n1_; (try clear hb); (try clear hb2); (try clear hk); (try clear hi)))
              go_ret
              exact ⟨by first | rfl | (simp [errW_none, errW_some] <;> rfl) | (simp [*, errW_none, errW_some] <;> rfl), by repeat (first | (with_reducible first | exact HB.out | apply below_alloc | apply pw_below_drewN | apply below_drew1) | exact HB.out)⟩
          · replace c14 := Bool.eq_false_iff.mpr c14
            subst c14
            have H1 : (some false) = some r := by rw [if_neg (show ¬ (false = true) by decide)] at H; exact H
            clear H
            have H := H1
            clear H1
            obtain rfl := Option.some.inj H
            go_wp2_with (first | ((with_reducible refine gate_callee (f := 16) rfl ?_); refine goesL_ (some 35) rfl rfl Try.func16 (by kernel_rfl) rfl #[] rfl (by (try simp only [List.map_toArray, List.map_cons, List.map_nil]); first | done | rfl | (simp only [List.length_drop, List.length_take]; rfl)) ?_; (with_reducible refine (kinkeeplaw04_awake.calls  false _ A13.out).mono ?_); rintro e w23 ⟨rfl, hb⟩; refine ⟨_, rfl, ?_⟩; have n0_ := Aside0.mk (Kd.S_below (by (with_reducible repeat (first | apply Kd.S_alloc | apply Kd.S_drewN | apply Kd.S_drew)); exact HO_5.out) hb); have n1_ := Aside0.mk (below_step (by repeat (first | (with_reducible first | exact HB.out | apply below_alloc | apply pw_below_drewN | apply below_drew1) | exact HB.out)) hb); clear HO_5; clear HB; have HO_5 := n0_; have HB := n1_; clear n0_ n1_; (try clear hb); (try clear hb2); (try clear hk); (try clear hi)))
            go_ret
            exact ⟨by first | rfl | (simp [errW_none, errW_some] <;> rfl) | (simp [*, errW_none, errW_some] <;> rfl), by repeat (first | (with_reducible first | exact HB.out | apply below_alloc | apply pw_below_drewN | apply below_drew1) | exact HB.out)⟩
        · replace c12 := Bool.eq_false_iff.mpr c12
          subst c12
          have H1 : (if t129 = 0 then ((kinkeepref04_Determinant.f kj5 l0).bind fun t137 => (kinkeeplaw04_MatrixDeterminants.j1 kj5 l0 t128 t130 t131 (t128 != t137))) else (kinkeeplaw04_MatrixDeterminants.j1 kj5 l0 t128 t130 t131 true)) = some r := by rw [if_neg (show ¬ (false = true) by decide)] at H; exact H
          clear H
          have H := H1
          clear H1
          have HC24 := Aside0.mk H
          clear H
          go_upto_region 7 with (fail)
          go_cut [60] (fun v60 wc => ∃ (kq : Nat) (x60_23 : Bool), v60 = .bool x60_23 ∧ Aside0 (kinkeeplaw04_MatrixDeterminants.j1 kq l0 t128 t130 t131 x60_23 = some r) ∧ Aside0 (kq ≤ kj5) ∧ Aside0 (Kd.S (Kd.slice 5 (Kd.int .u8)) 34 wc w.heap.size (fun _ => True) v132 t130) ∧ Aside0 (Below w.heap.size w wc))
          case first =>
            have H := HC24.out
            clear HC24
            by_cases c25 : t129 = 0
            · rw [if_pos c25] at H
              have c25b0 : (t129 == 0) = true := beq_iff_eq.mpr c25
              have c25b1 : (t129 != 0) = false := bne_eq_false_iff_eq.mpr c25
              clear c25
              (first | rw [c25b0] | rw [c25b1] | rw [c25b2] | (simp only [i64_w, i32_w]; rw [c25b0]) | skip)
              replace H := Option.bind_eq_some_iff.mp H
              obtain ⟨t137, A260, H⟩ := H
              replace H : (kinkeeplaw04_MatrixDeterminants.j1 kj5 l0 t128 t130 t131 (t128 != t137)) = some r := H
              have A26 := Aside0.mk A260
              clear A260
              have H' := Aside0.mk H
              clear H
              go_wp2_with (first | (go_at_call 55; (with_reducible refine (kinkeepref04_Determinant.calls kj5 _ _ l0 t137 _ ?side1 ?side2 A26.out).mono ?_); (case side1 => repeat (first | exact (Kd.C_below HR0.out HB.out) | (with_reducible refine Kd.C_alloc ?_ _) | (with_reducible refine Kd.C_drewN ?_ _) | (with_reducible refine Kd.C_drew ?_))); (case side2 => exact HC0.out); rintro e w27 ⟨rfl, hb⟩; have n0_ := Aside0.mk (Kd.S_below (by (with_reducible repeat (first | apply Kd.S_alloc | apply Kd.S_drewN | apply Kd.S_drew)); exact HO_5.out) hb); have n1_ := Aside0.mk (below_step (by repeat (first | (with_reducible first | exact HB.out | apply below_alloc | apply pw_below_drewN | apply below_drew1) | exact HB.out)) hb); clear HO_5; clear HB; have HO_5 := n0_; have HB := n1_; clear n0_ n1_; (try clear hb); (try clear hb2); (try clear hk); (try clear hi)))
              go_meet
              case rel => exact ⟨_, ((t128 != t137)), (by first | rfl | (simp; done) | (simp [*]; done)), H', ⟨by have := HJ5.out; first | omega | exact Nat.le_refl _⟩, ⟨by (with_reducible repeat (first | apply Kd.S_alloc | apply Kd.S_drewN | apply Kd.S_drew)); exact HO_5.out⟩, ⟨by repeat (first | (with_reducible first | exact HB.out | apply below_alloc | apply pw_below_drewN | apply below_drew1) | exact HB.out)⟩⟩
            · rw [if_neg c25] at H
              have c25b0 : (t129 == 0) = false := beq_eq_false_iff_ne.mpr c25
              have c25b1 : (t129 != 0) = true := bne_iff_ne.mpr c25
              (first | rw [c25b0] | rw [c25b1] | rw [c25b2] | (simp only [i64_w, i32_w]; rw [c25b0]) | skip)
              have H' := Aside0.mk H
              clear H
              go_wp2
              go_meet
              case rel => exact ⟨_, (true), (by first | rfl | (simp; done) | (simp [*]; done)), H', ⟨by have := HJ5.out; first | omega | exact Nat.le_refl _⟩, ⟨by (with_reducible repeat (first | apply Kd.S_alloc | apply Kd.S_drewN | apply Kd.S_drew)); exact HO_5.out⟩, ⟨by repeat (first | (with_reducible first | exact HB.out | apply below_alloc | apply pw_below_drewN | apply below_drew1) | exact HB.out)⟩⟩
          case rest =>
            clear HC24; (try clear c1); (try clear c2); (try clear p2); (try clear c3); (try clear c4); (try clear c10); (try clear c12); (try clear c14); (try clear c15); (try clear c15b0); (try clear c15b1); (try clear c16); (try clear c16b0); (try clear c16b1); (try clear c17); (try clear c17b0); (try clear c17b1); (try clear c18); (try clear c25); (try clear c25b0); (try clear c25b1); (try clear p2)
            obtain ⟨kq, x60_23, rfl, HA, HJ23, HO_5, HB⟩ := hcut
            cases kq with
            | zero => exact absurd HA.out (by simp [kinkeeplaw04_MatrixDeterminants.j1])
            | succ kj23 =>
              have H := HA.out
              clear HA
              simp only [kinkeeplaw04_MatrixDeterminants.j1] at H
              by_cases c28 : x60_23 = true
              · subst c28
                have H1 : (some false) = some r := by rw [if_pos rfl] at H; exact H
                clear H
                have H := H1
                clear H1
                obtain rfl := Option.some.inj H
                go_wp2
                go_ret
                exact ⟨by first | rfl | (simp [errW_none, errW_some] <;> rfl) | (simp [*, errW_none, errW_some] <;> rfl), by repeat (first | (with_reducible first | exact HB.out | apply below_alloc | apply pw_below_drewN | apply below_drew1) | exact HB.out)⟩
              · replace c28 := Bool.eq_false_iff.mpr c28
                subst c28
                have H1 : (if t128 = 0 then ((kinkeeplaw04_awake.f).bind fun t138 => (if t138 = true then (if t131 = 4 then (some ((t130.length : Int) == 0)) else (some false)) else (some false))) else ((matrix_Mul.f kj23 l0 t130).bind fun bt139 => ((matrix_Mul.f kj23 t130 l0).bind fun bt143 => ((kinkeeplaw04_awake.f).bind fun t147 => (if t147 = true then (if t131 = 0 then (if bt139.2 = 0 then (if bt143.2 = 0 then ((kinkeepref04_Identity.f kj23 (l0.length : Int)).bind fun t148 => ((kinkeepref04_Same.f kj23 bt139.1 t148).bind fun t151 => (if t151 = true then ((kinkeepref04_Identity.f kj23 (l0.length : Int)).bind fun t152 => ((kinkeepref04_Same.f kj23 bt143.1 t152).bind fun t155 => (some t155))) else (some false)))) else (some false)) else (some false)) else (some false)) else (some false)))))) = some r := by rw [if_neg (show ¬ (false = true) by decide)] at H; exact H
                clear H
                have H := H1
                clear H1
                by_cases c29 : t128 = 0
                · rw [if_pos c29] at H
                  have c29b0 : (t128 == 0) = true := beq_iff_eq.mpr c29
                  have c29b1 : (t128 != 0) = false := bne_eq_false_iff_eq.mpr c29
                  clear c29
                  replace H := Option.bind_eq_some_iff.mp H
                  obtain ⟨t138, A300, H⟩ := H
                  replace H : (if t138 = true then (if t131 = 4 then (some ((t130.length : Int) == 0)) else (some false)) else (some false)) = some r := H
                  have A30 := Aside0.mk A300
                  clear A300
                  by_cases c31 : t138 = true
                  · subst c31
                    have H1 : (if t131 = 4 then (some ((t130.length : Int) == 0)) else (some false)) = some r := by rw [if_pos rfl] at H; exact H
                    clear H
                    have H := H1
                    clear H1
                    by_cases c32 : t131 = 4
                    · rw [if_pos c32] at H
                      have c32b0 : (t131 == 4) = true := beq_iff_eq.mpr c32
                      have c32b1 : (t131 != 4) = false := bne_eq_false_iff_eq.mpr c32
                      clear c32
                      obtain rfl := Option.some.inj H
                      go_wp2_with (first | ((with_reducible refine gate_callee (f := 16) rfl ?_); refine goesL_ (some 63) rfl rfl Try.func16 (by kernel_rfl) rfl #[] rfl (by (try simp only [List.map_toArray, List.map_cons, List.map_nil]); first | done | rfl | (simp only [List.length_drop, List.length_take]; rfl)) ?_; (with_reducible refine (kinkeeplaw04_awake.calls  true _ A30.out).mono ?_); rintro e w33 ⟨rfl, hb⟩; refine ⟨_, rfl, ?_⟩; have n0_ := Aside0.mk (Kd.S_below (by (with_reducible repeat (first | apply Kd.S_alloc | apply Kd.S_drewN | apply Kd.S_drew)); exact HO_5.out) hb); have n1_ := Aside0.mk (below_step (by repeat (first | (with_reducible first | exact HB.out | apply below_alloc | apply pw_below_drewN | apply below_drew1) | exact HB.out)) hb); clear HO_5; clear HB; have HO_5 := n0_; have HB := n1_; clear n0_ n1_; (try clear hb); (try clear hb2); (try clear hk); (try clear hi); obtain ⟨Ao34, co34, eo34⟩ := Kd.S_slice HO_5.out; subst eo34))
                      go_ret
                      exact ⟨by first | rfl | (simp [errW_none, errW_some] <;> rfl) | (simp [*, errW_none, errW_some] <;> rfl), by repeat (first | (with_reducible first | exact HB.out | apply below_alloc | apply pw_below_drewN | apply below_drew1) | exact HB.out)⟩
                    · rw [if_neg c32] at H
                      have c32b0 : (t131 == 4) = false := beq_eq_false_iff_ne.mpr c32
                      have c32b1 : (t131 != 4) = true := bne_iff_ne.mpr c32
                      obtain rfl := Option.some.inj H
                      go_wp2_with (first | ((with_reducible refine gate_callee (f := 16) rfl ?_); refine goesL_ (some 63) rfl rfl Try.func16 (by kernel_rfl) rfl #[] rfl (by (try simp only [List.map_toArray, List.map_cons, List.map_nil]); first | done | rfl | (simp only [List.length_drop, List.length_take]; rfl)) ?_; (with_reducible refine (kinkeeplaw04_awake.calls  true _ A30.out).mono ?_); rintro e w35 ⟨rfl, hb⟩; refine ⟨_, rfl, ?_⟩; have n0_ := Aside0.mk (Kd.S_below (by (with_reducible repeat (first | apply Kd.S_alloc | apply Kd.S_drewN | apply Kd.S_drew)); exact HO_5.out) hb); have n1_ := Aside0.mk (below_step (by repeat (first | (with_reducible first | exact HB.out | apply below_alloc | apply pw_below_drewN | apply below_drew1) | exact HB.out)) hb); clear HO_5; clear HB; have HO_5 := n0_; have HB := n1_; clear n0_ n1_; (try clear hb); (try clear hb2); (try clear hk); (try clear hi)))
                      go_ret
                      exact ⟨by first | rfl | (simp [errW_none, errW_some] <;> rfl) | (simp [*, errW_none, errW_some] <;> rfl), by repeat (first | (with_reducible first | exact HB.out | apply below_alloc | apply pw_below_drewN | apply below_drew1) | exact HB.out)⟩
                  · replace c31 := Bool.eq_false_iff.mpr c31
                    subst c31
                    have H1 : (some false) = some r := by rw [if_neg (show ¬ (false = true) by decide)] at H; exact H
                    clear H
                    have H := H1
                    clear H1
                    obtain rfl := Option.some.inj H
                    go_wp2_with (first | ((with_reducible refine gate_callee (f := 16) rfl ?_); refine goesL_ (some 63) rfl rfl Try.func16 (by kernel_rfl) rfl #[] rfl (by (try simp only [List.map_toArray, List.map_cons, List.map_nil]); first | done | rfl | (simp only [List.length_drop, List.length_take]; rfl)) ?_; (with_reducible refine (kinkeeplaw04_awake.calls  false _ A30.out).mono ?_); rintro e w36 ⟨rfl, hb⟩; refine ⟨_, rfl, ?_⟩; have n0_ := Aside0.mk (Kd.S_below (by (with_reducible repeat (first | apply Kd.S_alloc | apply Kd.S_drewN | apply Kd.S_drew)); exact HO_5.out) hb); have n1_ := Aside0.mk (below_step (by repeat (first | (with_reducible first | exact HB.out | apply below_alloc | apply pw_below_drewN | apply below_drew1) | exact HB.out)) hb); clear HO_5; clear HB; have HO_5 := n0_; have HB := n1_; clear n0_ n1_; (try clear hb); (try clear hb2); (try clear hk); (try clear hi)))
                    go_ret
                    exact ⟨by first | rfl | (simp [errW_none, errW_some] <;> rfl) | (simp [*, errW_none, errW_some] <;> rfl), by repeat (first | (with_reducible first | exact HB.out | apply below_alloc | apply pw_below_drewN | apply below_drew1) | exact HB.out)⟩
                · rw [if_neg c29] at H
                  have c29b0 : (t128 == 0) = false := beq_eq_false_iff_ne.mpr c29
                  have c29b1 : (t128 != 0) = true := bne_iff_ne.mpr c29
                  replace H := Option.bind_eq_some_iff.mp H
                  obtain ⟨⟨t139, t140⟩, A370, H⟩ := H
                  replace H : ((matrix_Mul.f kj23 t130 l0).bind fun bt143 => ((kinkeeplaw04_awake.f).bind fun t147 => (if t147 = true then (if t131 = 0 then (if t140 = 0 then (if bt143.2 = 0 then ((kinkeepref04_Identity.f kj23 (l0.length : Int)).bind fun t148 => ((kinkeepref04_Same.f kj23 t139 t148).bind fun t151 => (if t151 = true then ((kinkeepref04_Identity.f kj23 (l0.length : Int)).bind fun t152 => ((kinkeepref04_Same.f kj23 bt143.1 t152).bind fun t155 => (some t155))) else (some false)))) else (some false)) else (some false)) else (some false)) else (some false)))) = some r := H
                  have A37 := Aside0.mk A370
                  clear A370
                  replace H := Option.bind_eq_some_iff.mp H
                  obtain ⟨⟨t143, t144⟩, A380, H⟩ := H
                  replace H : ((kinkeeplaw04_awake.f).bind fun t147 => (if t147 = true then (if t131 = 0 then (if t140 = 0 then (if t144 = 0 then ((kinkeepref04_Identity.f kj23 (l0.length : Int)).bind fun t148 => ((kinkeepref04_Same.f kj23 t139 t148).bind fun t151 => (if t151 = true then ((kinkeepref04_Identity.f kj23 (l0.length : Int)).bind fun t152 => ((kinkeepref04_Same.f kj23 t143 t152).bind fun t155 => (some t155))) else (some false)))) else (some false)) else (some false)) else (some false)) else (some false))) = some r := H
                  have A38 := Aside0.mk A380
                  clear A380
                  replace H := Option.bind_eq_some_iff.mp H
                  obtain ⟨t147, A390, H⟩ := H
                  replace H : (if t147 = true then (if t131 = 0 then (if t140 = 0 then (if t144 = 0 then ((kinkeepref04_Identity.f kj23 (l0.length : Int)).bind fun t148 => ((kinkeepref04_Same.f kj23 t139 t148).bind fun t151 => (if t151 = true then ((kinkeepref04_Identity.f kj23 (l0.length : Int)).bind fun t152 => ((kinkeepref04_Same.f kj23 t143 t152).bind fun t155 => (some t155))) else (some false)))) else (some false)) else (some false)) else (some false)) else (some false)) = some r := H
                  have A39 := Aside0.mk A390
                  clear A390
                  by_cases c40 : t147 = true
                  · subst c40
                    have H1 : (if t131 = 0 then (if t140 = 0 then (if t144 = 0 then ((kinkeepref04_Identity.f kj23 (l0.length : Int)).bind fun t148 => ((kinkeepref04_Same.f kj23 t139 t148).bind fun t151 => (if t151 = true then ((kinkeepref04_Identity.f kj23 (l0.length : Int)).bind fun t152 => ((kinkeepref04_Same.f kj23 t143 t152).bind fun t155 => (some t155))) else (some false)))) else (some false)) else (some false)) else (some false)) = some r := by rw [if_pos rfl] at H; exact H
                    clear H
                    have H := H1
                    clear H1
                    by_cases c41 : t131 = 0
                    · rw [if_pos c41] at H
                      have c41b0 : (t131 == 0) = true := beq_iff_eq.mpr c41
                      have c41b1 : (t131 != 0) = false := bne_eq_false_iff_eq.mpr c41
                      clear c41
                      by_cases c42 : t140 = 0
                      · rw [if_pos c42] at H
                        have c42b0 : (t140 == 0) = true := beq_iff_eq.mpr c42
                        have c42b1 : (t140 != 0) = false := bne_eq_false_iff_eq.mpr c42
                        clear c42
                        by_cases c43 : t144 = 0
                        · rw [if_pos c43] at H
                          have c43b0 : (t144 == 0) = true := beq_iff_eq.mpr c43
                          have c43b1 : (t144 != 0) = false := bne_eq_false_iff_eq.mpr c43
                          clear c43
                          replace H := Option.bind_eq_some_iff.mp H
                          obtain ⟨t148, A440, H⟩ := H
                          replace H : ((kinkeepref04_Same.f kj23 t139 t148).bind fun t151 => (if t151 = true then ((kinkeepref04_Identity.f kj23 (l0.length : Int)).bind fun t152 => ((kinkeepref04_Same.f kj23 t143 t152).bind fun t155 => (some t155))) else (some false))) = some r := H
                          have A44 := Aside0.mk A440
                          clear A440
                          replace H := Option.bind_eq_some_iff.mp H
                          obtain ⟨t151, A450, H⟩ := H
                          replace H : (if t151 = true then ((kinkeepref04_Identity.f kj23 (l0.length : Int)).bind fun t152 => ((kinkeepref04_Same.f kj23 t143 t152).bind fun t155 => (some t155))) else (some false)) = some r := H
                          have A45 := Aside0.mk A450
                          clear A450
                          by_cases c46 : t151 = true
                          · subst c46
                            have H1 : ((kinkeepref04_Identity.f kj23 (l0.length : Int)).bind fun t152 => ((kinkeepref04_Same.f kj23 t143 t152).bind fun t155 => (some t155))) = some r := by rw [if_pos rfl] at H; exact H
                            clear H
                            have H := H1
                            clear H1
                            replace H := Option.bind_eq_some_iff.mp H
                            obtain ⟨t152, A470, H⟩ := H
                            replace H : ((kinkeepref04_Same.f kj23 t143 t152).bind fun t155 => (some t155)) = some r := H
                            have A47 := Aside0.mk A470
                            clear A470
                            replace H := Option.bind_eq_some_iff.mp H
                            obtain ⟨t155, A480, H⟩ := H
                            replace H : (some t155) = some r := H
                            have A48 := Aside0.mk A480
                            clear A480
                            obtain rfl := Option.some.inj H
                            obtain ⟨Ao49, co49, eo49⟩ := Kd.S_slice HO_5.out
                            subst eo49
                            go_wp2_with (first | ((with_reducible refine gate_callee (f := 31) rfl ?_); refine goesL_ (some 76) rfl rfl Try.func31 (by kernel_rfl) rfl #[.slice A0 l0.length c0, .slice Ao49 t130.length co49] rfl (by (try simp only [List.map_toArray, List.map_cons, List.map_nil]); first | done | rfl | (simp only [List.length_drop, List.length_take]; rfl)) ?_; (with_reducible refine (matrix_Mul.calls kj23 _ _ l0 _ _ t130 t139 t140 _ ?side1 ?side2 ?side3 ?side4 A37.out).mono ?_); (case side1 => repeat (first | exact (Kd.C_below HR0.out HB.out) | (with_reducible refine Kd.C_alloc ?_ _) | (with_reducible refine Kd.C_drewN ?_ _) | (with_reducible refine Kd.C_drew ?_))); (case side2 => exact HC0.out); (case side3 => repeat (first | exact (Kd.S_reads' HO_5.out).2.2 | (with_reducible refine Kd.C_alloc ?_ _) | (with_reducible refine Kd.C_drewN ?_ _) | (with_reducible refine Kd.C_drew ?_))); (case side4 => exact (Kd.S_reads' HO_5.out).2.1); rintro e w50 ⟨v141, rfl, ho0, hb⟩; refine ⟨_, rfl, ?_⟩; have n0_ := Aside0.mk (Kd.S_elder' (by (with_reducible repeat (first | apply Kd.S_alloc | apply Kd.S_drewN | apply Kd.S_drew)); exact HO_5.out) (Kd.S_base ho0) hb); have n1_ := Aside0.mk (Kd.S_lower (Kd.S_new' ho0 (Kd.S_lt (by (with_reducible repeat (first | apply Kd.S_alloc | apply Kd.S_drewN | apply Kd.S_drew)); exact HO_5.out))) (below_size (by repeat (first | (with_reducible first | exact HB.out | apply below_alloc | apply pw_below_drewN | apply below_drew1) | exact HB.out)))); have n2_ := Aside0.mk (below_step (by repeat (first | (with_reducible first | exact HB.out | apply below_alloc | apply pw_below_drewN | apply below_drew1) | exact HB.out)) hb); clear HO_5; clear HB; have HO_5 := n0_; have HO142 := n1_; have HB := n2_; clear n0_ n1_ n2_; (try clear hb); (try clear hb2); (try clear hk); (try clear hi); (try clear ho0)) | ((with_reducible refine gate_callee (f := 31) rfl ?_); refine goesL_ (some 82) rfl rfl Try.func31 (by kernel_rfl) rfl #[.slice Ao49 t130.length co49, .slice A0 l0.length c0] rfl (by (try simp only [List.map_toArray, List.map_cons, List.map_nil]); first | done | rfl | (simp only [List.length_drop, List.length_take]; rfl)) ?_; (with_reducible refine (matrix_Mul.calls kj23 _ _ t130 _ _ l0 t143 t144 _ ?side1 ?side2 ?side3 ?side4 A38.out).mono ?_); (case side1 => repeat (first | exact (Kd.S_reads' HO_5.out).2.2 | (with_reducible refine Kd.C_alloc ?_ _) | (with_reducible refine Kd.C_drewN ?_ _) | (with_reducible refine Kd.C_drew ?_))); (case side2 => exact (Kd.S_reads' HO_5.out).2.1); (case side3 => repeat (first | exact (Kd.C_below HR0.out HB.out) | (with_reducible refine Kd.C_alloc ?_ _) | (with_reducible refine Kd.C_drewN ?_ _) | (with_reducible refine Kd.C_drew ?_))); (case side4 => exact HC0.out); rintro e w51 ⟨v145, rfl, ho0, hb⟩; refine ⟨_, rfl, ?_⟩; have n0_ := Aside0.mk (Kd.S_elder' (by (with_reducible repeat (first | apply Kd.S_alloc | apply Kd.S_drewN | apply Kd.S_drew)); exact HO_5.out) (Kd.S_base ho0) hb); have n1_ := Aside0.mk (Kd.S_elder' (by (with_reducible repeat (first | apply Kd.S_alloc | apply Kd.S_drewN | apply Kd.S_drew)); exact HO142.out) (Kd.S_base ho0) hb); have n2_ := Aside0.mk (Kd.S_lower (Kd.S_new' (Kd.S_new' ho0 (Kd.S_lt (by (with_reducible repeat (first | apply Kd.S_alloc | apply Kd.S_drewN | apply Kd.S_drew)); exact HO_5.out))) (Kd.S_lt (by (with_reducible repeat (first | apply Kd.S_alloc | apply Kd.S_drewN | apply Kd.S_drew)); exact HO142.out))) (below_size (by repeat (first | (with_reducible first | exact HB.out | apply below_alloc | apply pw_below_drewN | apply below_drew1) | exact HB.out)))); have n3_ := Aside0.mk (below_step (by repeat (first | (with_reducible first | exact HB.out | apply below_alloc | apply pw_below_drewN | apply below_drew1) | exact HB.out)) hb); clear HO_5; clear HO142; clear HB; have HO_5 := n0_; have HO142 := n1_; have HO146 := n2_; have HB := n3_; clear n0_ n1_ n2_ n3_; (try clear hb); (try clear hb2); (try clear hk); (try clear hi); (try clear ho0)) | ((with_reducible refine gate_callee (f := 16) rfl ?_); refine goesL_ (some 85) rfl rfl Try.func16 (by kernel_rfl) rfl #[] rfl (by (try simp only [List.map_toArray, List.map_cons, List.map_nil]); first | done | rfl | (simp only [List.length_drop, List.length_take]; rfl)) ?_; (with_reducible refine (kinkeeplaw04_awake.calls  true _ A39.out).mono ?_); rintro e w52 ⟨rfl, hb⟩; refine ⟨_, rfl, ?_⟩; have n0_ := Aside0.mk (Kd.S_below (by (with_reducible repeat (first | apply Kd.S_alloc | apply Kd.S_drewN | apply Kd.S_drew)); exact HO_5.out) hb); have n1_ := Aside0.mk (Kd.S_below (by (with_reducible repeat (first | apply Kd.S_alloc | apply Kd.S_drewN | apply Kd.S_drew)); exact HO142.out) hb); have n2_ := Aside0.mk (Kd.S_below (by (with_reducible repeat (first | apply Kd.S_alloc | apply Kd.S_drewN | apply Kd.S_drew)); exact HO146.out) hb); have n3_ := Aside0.mk (below_step (by repeat (first | (with_reducible first | exact HB.out | apply below_alloc | apply pw_below_drewN | apply below_drew1) | exact HB.out)) hb); clear HO_5; clear HO142; clear HO146; clear HB; have HO_5 := n0_; have HO142 := n1_; have HO146 := n2_; have HB := n3_; clear n0_ n1_ n2_ n3_; (try clear hb); (try clear hb2); (try clear hk); (try clear hi)) | (go_at_call 51; (with_reducible refine (kinkeepref04_Identity.calls kj23 (l0.length : Int) t148 _ A44.out).mono ?_); rintro e w53 ⟨v149, rfl, ho0, hb⟩; have n0_ := Aside0.mk (Kd.S_elder' (by (with_reducible repeat (first | apply Kd.S_alloc | apply Kd.S_drewN | apply Kd.S_drew)); exact HO_5.out) (Kd.S_base ho0) hb); have n1_ := Aside0.mk (Kd.S_elder' (by (with_reducible repeat (first | apply Kd.S_alloc | apply Kd.S_drewN | apply Kd.S_drew)); exact HO142.out) (Kd.S_base ho0) hb); have n2_ := Aside0.mk (Kd.S_elder' (by (with_reducible repeat (first | apply Kd.S_alloc | apply Kd.S_drewN | apply Kd.S_drew)); exact HO146.out) (Kd.S_base ho0) hb); have n3_ := Aside0.mk (Kd.S_lower (Kd.S_new' (Kd.S_new' (Kd.S_new' ho0 (Kd.S_lt (by (with_reducible repeat (first | apply Kd.S_alloc | apply Kd.S_drewN | apply Kd.S_drew)); exact HO_5.out))) (Kd.S_lt (by (with_reducible repeat (first | apply Kd.S_alloc | apply Kd.S_drewN | apply Kd.S_drew)); exact HO142.out))) (Kd.S_lt (by (with_reducible repeat (first | apply Kd.S_alloc | apply Kd.S_drewN | apply Kd.S_drew)); exact HO146.out))) (below_size (by repeat (first | (with_reducible first | exact HB.out | apply below_alloc | apply pw_below_drewN | apply below_drew1) | exact HB.out)))); have n4_ := Aside0.mk (below_step (by repeat (first | (with_reducible first | exact HB.out | apply below_alloc | apply pw_below_drewN | apply below_drew1) | exact HB.out)) hb); clear HO_5; clear HO142; clear HO146; clear HB; have HO_5 := n0_; have HO142 := n1_; have HO146 := n2_; have HO150 := n3_; have HB := n4_; clear n0_ n1_ n2_ n3_ n4_; (try clear hb); (try clear hb2); (try clear hk); (try clear hi); (try clear ho0); obtain ⟨Ao54, co54, eo54⟩ := Kd.S_slice HO142.out; subst eo54; obtain ⟨Ao55, co55, eo55⟩ := Kd.S_slice HO150.out; subst eo55) | (go_at_call 23; (with_reducible refine (kinkeepref04_Same.calls kj23 _ _ t139 _ _ t148 true _ ?side1 ?side2 ?side3 ?side4 A45.out).mono ?_); (case side1 => repeat (first | exact (Kd.S_reads' HO142.out).2.2 | (with_reducible refine Kd.C_alloc ?_ _) | (with_reducible refine Kd.C_drewN ?_ _) | (with_reducible refine Kd.C_drew ?_))); (case side2 => exact (Kd.S_reads' HO142.out).2.1); (case side3 => repeat (first | exact (Kd.S_reads' HO150.out).2.2 | (with_reducible refine Kd.C_alloc ?_ _) | (with_reducible refine Kd.C_drewN ?_ _) | (with_reducible refine Kd.C_drew ?_))); (case side4 => exact (Kd.S_reads' HO150.out).2.1); rintro e w' ⟨rfl, ⟨nd, rfl⟩⟩) | (go_at_call 51; (with_reducible refine (kinkeepref04_Identity.calls kj23 (l0.length : Int) t152 _ A47.out).mono ?_); rintro e w56 ⟨v153, rfl, ho0, hb⟩; have n0_ := Aside0.mk (Kd.S_elder' (by (with_reducible repeat (first | apply Kd.S_alloc | apply Kd.S_drewN | apply Kd.S_drew)); exact HO_5.out) (Kd.S_base ho0) hb); have n1_ := Aside0.mk (Kd.S_elder' (by (with_reducible repeat (first | apply Kd.S_alloc | apply Kd.S_drewN | apply Kd.S_drew)); exact HO142.out) (Kd.S_base ho0) hb); have n2_ := Aside0.mk (Kd.S_elder' (by (with_reducible repeat (first | apply Kd.S_alloc | apply Kd.S_drewN | apply Kd.S_drew)); exact HO146.out) (Kd.S_base ho0) hb); have n3_ := Aside0.mk (Kd.S_elder' (by (with_reducible repeat (first | apply Kd.S_alloc | apply Kd.S_drewN | apply Kd.S_drew)); exact HO150.out) (Kd.S_base ho0) hb); have n4_ := Aside0.mk (Kd.S_lower (Kd.S_new' (Kd.S_new' (Kd.S_new' (Kd.S_new' ho0 (Kd.S_lt (by (with_reducible repeat (first | apply Kd.S_alloc | apply Kd.S_drewN | apply Kd.S_drew)); exact HO_5.out))) (Kd.S_lt (by (with_reducible repeat (first | apply Kd.S_alloc | apply Kd.S_drewN | apply Kd.S_drew)); exact HO142.out))) (Kd.S_lt (by (with_reducible repeat (first | apply Kd.S_alloc | apply Kd.S_drewN | apply Kd.S_drew)); exact HO146.out))) (Kd.S_lt (by (with_reducible repeat (first | apply Kd.S_alloc | apply Kd.S_drewN | apply Kd.S_drew)); exact HO150.out))) (below_size (by repeat (first | (with_reducible first | exact HB.out | apply below_alloc | apply pw_below_drewN | apply below_drew1) | exact HB.out)))); have n5_ := Aside0.mk (below_step (by repeat (first | (with_reducible first | exact HB.out | apply below_alloc | apply pw_below_drewN | apply below_drew1) | exact HB.out)) hb); clear HO_5; clear HO142; clear HO146; clear HO150; clear HB; have HO_5 := n0_; have HO142 := n1_; have HO146 := n2_; have HO150 := n3_; have HO154 := n4_; have HB := n5_; clear n0_ n1_ n2_ n3_ n4_ n5_; (try clear hb); (try clear hb2); (try clear hk); (try clear hi); (try clear ho0); obtain ⟨Ao57, co57, eo57⟩ := Kd.S_slice HO146.out; subst eo57; obtain ⟨Ao58, co58, eo58⟩ := Kd.S_slice HO154.out; subst eo58) | (go_at_call 23; (with_reducible refine (kinkeepref04_Same.calls kj23 _ _ t143 _ _ t152 t155 _ ?side1 ?side2 ?side3 ?side4 A48.out).mono ?_); (case side1 => repeat (first | exact (Kd.S_reads' HO146.out).2.2 | (with_reducible refine Kd.C_alloc ?_ _) | (with_reducible refine Kd.C_drewN ?_ _) | (with_reducible refine Kd.C_drew ?_))); (case side2 => exact (Kd.S_reads' HO146.out).2.1); (case side3 => repeat (first | exact (Kd.S_reads' HO154.out).2.2 | (with_reducible refine Kd.C_alloc ?_ _) | (with_reducible refine Kd.C_drewN ?_ _) | (with_reducible refine Kd.C_drew ?_))); (case side4 => exact (Kd.S_reads' HO154.out).2.1); rintro e w' ⟨rfl, ⟨nd, rfl⟩⟩))
                            go_ret
                            exact ⟨by first | rfl | (simp [errW_none, errW_some] <;> rfl) | (simp [*, errW_none, errW_some] <;> rfl), by repeat (first | (with_reducible first | exact HB.out | apply below_alloc | apply pw_below_drewN | apply below_drew1) | exact HB.out)⟩
                          · replace c46 := Bool.eq_false_iff.mpr c46
                            subst c46
                            have H1 : (some false) = some r := by rw [if_neg (show ¬ (false = true) by decide)] at H; exact H
                            clear H
                            have H := H1
                            clear H1
                            obtain rfl := Option.some.inj H
                            obtain ⟨Ao59, co59, eo59⟩ := Kd.S_slice HO_5.out
                            subst eo59
                            go_wp2_with (first | ((with_reducible refine gate_callee (f := 31) rfl ?_); refine goesL_ (some 76) rfl rfl Try.func31 (by kernel_rfl) rfl #[.slice A0 l0.length c0, .slice Ao59 t130.length co59] rfl (by (try simp only [List.map_toArray, List.map_cons, List.map_nil]); first | done | rfl | (simp only [List.length_drop, List.length_take]; rfl)) ?_; (with_reducible refine (matrix_Mul.calls kj23 _ _ l0 _ _ t130 t139 t140 _ ?side1 ?side2 ?side3 ?side4 A37.out).mono ?_); (case side1 => repeat (first | exact (Kd.C_below HR0.out HB.out) | (with_reducible refine Kd.C_alloc ?_ _) | (with_reducible refine Kd.C_drewN ?_ _) | (with_reducible refine Kd.C_drew ?_))); (case side2 => exact HC0.out); (case side3 => repeat (first | exact (Kd.S_reads' HO_5.out).2.2 | (with_reducible refine Kd.C_alloc ?_ _) | (with_reducible refine Kd.C_drewN ?_ _) | (with_reducible refine Kd.C_drew ?_))); (case side4 => exact (Kd.S_reads' HO_5.out).2.1); rintro e w60 ⟨v141, rfl, ho0, hb⟩; refine ⟨_, rfl, ?_⟩; have n0_ := Aside0.mk (Kd.S_elder' (by (with_reducible repeat (first | apply Kd.S_alloc | apply Kd.S_drewN | apply Kd.S_drew)); exact HO_5.out) (Kd.S_base ho0) hb); have n1_ := Aside0.mk (Kd.S_lower (Kd.S_new' ho0 (Kd.S_lt (by (with_reducible repeat (first | apply Kd.S_alloc | apply Kd.S_drewN | apply Kd.S_drew)); exact HO_5.out))) (below_size (by repeat (first | (with_reducible first | exact HB.out | apply below_alloc | apply pw_below_drewN | apply below_drew1) | exact HB.out)))); have n2_ := Aside0.mk (below_step (by repeat (first | (with_reducible first | exact HB.out | apply below_alloc | apply pw_below_drewN | apply below_drew1) | exact HB.out)) hb); clear HO_5; clear HB; have HO_5 := n0_; have HO142 := n1_; have HB := n2_; clear n0_ n1_ n2_; (try clear hb); (try clear hb2); (try clear hk); (try clear hi); (try clear ho0)) | ((with_reducible refine gate_callee (f := 31) rfl ?_); refine goesL_ (some 82) rfl rfl Try.func31 (by kernel_rfl) rfl #[.slice Ao59 t130.length co59, .slice A0 l0.length c0] rfl (by (try simp only [List.map_toArray, List.map_cons, List.map_nil]); first | done | rfl | (simp only [List.length_drop, List.length_take]; rfl)) ?_; (with_reducible refine (matrix_Mul.calls kj23 _ _ t130 _ _ l0 t143 t144 _ ?side1 ?side2 ?side3 ?side4 A38.out).mono ?_); (case side1 => repeat (first | exact (Kd.S_reads' HO_5.out).2.2 | (with_reducible refine Kd.C_alloc ?_ _) | (with_reducible refine Kd.C_drewN ?_ _) | (with_reducible refine Kd.C_drew ?_))); (case side2 => exact (Kd.S_reads' HO_5.out).2.1); (case side3 => repeat (first | exact (Kd.C_below HR0.out HB.out) | (with_reducible refine Kd.C_alloc ?_ _) | (with_reducible refine Kd.C_drewN ?_ _) | (with_reducible refine Kd.C_drew ?_))); (case side4 => exact HC0.out); rintro e w61 ⟨v145, rfl, ho0, hb⟩; refine ⟨_, rfl, ?_⟩; have n0_ := Aside0.mk (Kd.S_elder' (by (with_reducible repeat (first | apply Kd.S_alloc | apply Kd.S_drewN | apply Kd.S_drew)); exact HO_5.out) (Kd.S_base ho0) hb); have n1_ := Aside0.mk (Kd.S_elder' (by (with_reducible repeat (first | apply Kd.S_alloc | apply Kd.S_drewN | apply Kd.S_drew)); exact HO142.out) (Kd.S_base ho0) hb); have n2_ := Aside0.mk (Kd.S_lower (Kd.S_new' (Kd.S_new' ho0 (Kd.S_lt (by (with_reducible repeat (first | apply Kd.S_alloc | apply Kd.S_drewN | apply Kd.S_drew)); exact HO_5.out))) (Kd.S_lt (by (with_reducible repeat (first | apply Kd.S_alloc | apply Kd.S_drewN | apply Kd.S_drew)); exact HO142.out))) (below_size (by repeat (first | (with_reducible first | exact HB.out | apply below_alloc | apply pw_below_drewN | apply below_drew1) | exact HB.out)))); have n3_ := Aside0.mk (below_step (by repeat (first | (with_reducible first | exact HB.out | apply below_alloc | apply pw_below_drewN | apply below_drew1) | exact HB.out)) hb); clear HO_5; clear HO142; clear HB; have HO_5 := n0_; have HO142 := n1_; have HO146 := n2_; have HB := n3_; clear n0_ n1_ n2_ n3_; (try clear hb); (try clear hb2); (try clear hk); (try clear hi); (try clear ho0)) | ((with_reducible refine gate_callee (f := 16) rfl ?_); refine goesL_ (some 85) rfl rfl Try.func16 (by kernel_rfl) rfl #[] rfl (by (try simp only [List.map_toArray, List.map_cons, List.map_nil]); first | done | rfl | (simp only [List.length_drop, List.length_take]; rfl)) ?_; (with_reducible refine (kinkeeplaw04_awake.calls  true _ A39.out).mono ?_); rintro e w62 ⟨rfl, hb⟩; refine ⟨_, rfl, ?_⟩; have n0_ := Aside0.mk (Kd.S_below (by (with_reducible repeat (first | apply Kd.S_alloc | apply Kd.S_drewN | apply Kd.S_drew)); exact HO_5.out) hb); have n1_ := Aside0.mk (Kd.S_below (by (with_reducible repeat (first | apply Kd.S_alloc | apply Kd.S_drewN | apply Kd.S_drew)); exact HO142.out) hb); have n2_ := Aside0.mk (Kd.S_below (by (with_reducible repeat (first | apply Kd.S_alloc | apply Kd.S_drewN | apply Kd.S_drew)); exact HO146.out) hb); have n3_ := Aside0.mk (below_step (by repeat (first | (with_reducible first | exact HB.out | apply below_alloc | apply pw_below_drewN | apply below_drew1) | exact HB.out)) hb); clear HO_5; clear HO142; clear HO146; clear HB; have HO_5 := n0_; have HO142 := n1_; have HO146 := n2_; have HB := n3_; clear n0_ n1_ n2_ n3_; (try clear hb); (try clear hb2); (try clear hk); (try clear hi)) | (go_at_call 51; (with_reducible refine (kinkeepref04_Identity.calls kj23 (l0.length : Int) t148 _ A44.out).mono ?_); rintro e w63 ⟨v149, rfl, ho0, hb⟩; have n0_ := Aside0.mk (Kd.S_elder' (by (with_reducible repeat (first | apply Kd.S_alloc | apply Kd.S_drewN | apply Kd.S_drew)); exact HO_5.out) (Kd.S_base ho0) hb); have n1_ := Aside0.mk (Kd.S_elder' (by (with_reducible repeat (first | apply Kd.S_alloc | apply Kd.S_drewN | apply Kd.S_drew)); exact HO142.out) (Kd.S_base ho0) hb); have n2_ := Aside0.mk (Kd.S_elder' (by (with_reducible repeat (first | apply Kd.S_alloc | apply Kd.S_drewN | apply Kd.S_drew)); exact HO146.out) (Kd.S_base ho0) hb); have n3_ := Aside0.mk (Kd.S_lower (Kd.S_new' (Kd.S_new' (Kd.S_new' ho0 (Kd.S_lt (by (with_reducible repeat (first | apply Kd.S_alloc | apply Kd.S_drewN | apply Kd.S_drew)); exact HO_5.out))) (Kd.S_lt (by (with_reducible repeat (first | apply Kd.S_alloc | apply Kd.S_drewN | apply Kd.S_drew)); exact HO142.out))) (Kd.S_lt (by (with_reducible repeat (first | apply Kd.S_alloc | apply Kd.S_drewN | apply Kd.S_drew)); exact HO146.out))) (below_size (by repeat (first | (with_reducible first | exact HB.out | apply below_alloc | apply pw_below_drewN | apply below_drew1) | exact HB.out)))); have n4_ := Aside0.mk (below_step (by repeat (first | (with_reducible first | exact HB.out | apply below_alloc | apply pw_below_drewN | apply below_drew1) | exact HB.out)) hb); clear HO_5; clear HO142; clear HO146; clear HB; have HO_5 := n0_; have HO142 := n1_; have HO146 := n2_; have HO150 := n3_; have HB := n4_; clear n0_ n1_ n2_ n3_ n4_; (try clear hb); (try clear hb2); (try clear hk); (try clear hi); (try clear ho0); obtain ⟨Ao64, co64, eo64⟩ := Kd.S_slice HO142.out; subst eo64; obtain ⟨Ao65, co65, eo65⟩ := Kd.S_slice HO150.out; subst eo65) | (go_at_call 23; (with_reducible refine (kinkeepref04_Same.calls kj23 _ _ t139 _ _ t148 false _ ?side1 ?side2 ?side3 ?side4 A45.out).mono ?_); (case side1 => repeat (first | exact (Kd.S_reads' HO142.out).2.2 | (with_reducible refine Kd.C_alloc ?_ _) | (with_reducible refine Kd.C_drewN ?_ _) | (with_reducible refine Kd.C_drew ?_))); (case side2 => exact (Kd.S_reads' HO142.out).2.1); (case side3 => repeat (first | exact (Kd.S_reads' HO150.out).2.2 | (with_reducible refine Kd.C_alloc ?_ _) | (with_reducible refine Kd.C_drewN ?_ _) | (with_reducible refine Kd.C_drew ?_))); (case side4 => exact (Kd.S_reads' HO150.out).2.1); rintro e w' ⟨rfl, ⟨nd, rfl⟩⟩))
                            go_ret
                            exact ⟨by first | rfl | (simp [errW_none, errW_some] <;> rfl) | (simp [*, errW_none, errW_some] <;> rfl), by repeat (first | (with_reducible first | exact HB.out | apply below_alloc | apply pw_below_drewN | apply below_drew1) | exact HB.out)⟩
                        · rw [if_neg c43] at H
                          have c43b0 : (t144 == 0) = false := beq_eq_false_iff_ne.mpr c43
                          have c43b1 : (t144 != 0) = true := bne_iff_ne.mpr c43
                          obtain rfl := Option.some.inj H
                          obtain ⟨Ao66, co66, eo66⟩ := Kd.S_slice HO_5.out
                          subst eo66
                          go_wp2_with (first | ((with_reducible refine gate_callee (f := 31) rfl ?_); refine goesL_ (some 76) rfl rfl Try.func31 (by kernel_rfl) rfl #[.slice A0 l0.length c0, .slice Ao66 t130.length co66] rfl (by (try simp only [List.map_toArray, List.map_cons, List.map_nil]); first | done | rfl | (simp only [List.length_drop, List.length_take]; rfl)) ?_; (with_reducible refine (matrix_Mul.calls kj23 _ _ l0 _ _ t130 t139 t140 _ ?side1 ?side2 ?side3 ?side4 A37.out).mono ?_); (case side1 => repeat (first | exact (Kd.C_below HR0.out HB.out) | (with_reducible refine Kd.C_alloc ?_ _) | (with_reducible refine Kd.C_drewN ?_ _) | (with_reducible refine Kd.C_drew ?_))); (case side2 => exact HC0.out); (case side3 => repeat (first | exact (Kd.S_reads' HO_5.out).2.2 | (with_reducible refine Kd.C_alloc ?_ _) | (with_reducible refine Kd.C_drewN ?_ _) | (with_reducible refine Kd.C_drew ?_))); (case side4 => exact (Kd.S_reads' HO_5.out).2.1); rintro e w67 ⟨v141, rfl, ho0, hb⟩; refine ⟨_, rfl, ?_⟩; have n0_ := Aside0.mk (Kd.S_elder' (by (with_reducible repeat (first | apply Kd.S_alloc | apply Kd.S_drewN | apply Kd.S_drew)); exact HO_5.out) (Kd.S_base ho0) hb); have n1_ := Aside0.mk (Kd.S_lower (Kd.S_new' ho0 (Kd.S_lt (by (with_reducible repeat (first | apply Kd.S_alloc | apply Kd.S_drewN | apply Kd.S_drew)); exact HO_5.out))) (below_size (by repeat (first | (with_reducible first | exact HB.out | apply below_alloc | apply pw_below_drewN | apply below_drew1) | exact HB.out)))); have n2_ := Aside0.mk (below_step (by repeat (first | (with_reducible first | exact HB.out | apply below_alloc | apply pw_below_drewN | apply below_drew1) | exact HB.out)) hb); clear HO_5; clear HB; have HO_5 := n0_; have HO142 := n1_; have HB := n2_; clear n0_ n1_ n2_; (try clear hb); (try clear hb2); (try clear hk); (try clear hi); (try clear ho0)) | ((with_reducible refine gate_callee (f := 31) rfl ?_); refine goesL_ (some 82) rfl rfl Try.func31 (by kernel_rfl) rfl #[.slice Ao66 t130.length co66, .slice A0 l0.length c0] rfl (by (try simp only [List.map_toArray, List.map_cons, List.map_nil]); first | done | rfl | (simp only [List.length_drop, List.length_take]; rfl)) ?_; (with_reducible refine (matrix_Mul.calls kj23 _ _ t130 _ _ l0 t143 t144 _ ?side1 ?side2 ?side3 ?side4 A38.out).mono ?_); (case side1 => repeat (first | exact (Kd.S_reads' HO_5.out).2.2 | (with_reducible refine Kd.C_alloc ?_ _) | (with_reducible refine Kd.C_drewN ?_ _) | (with_reducible refine Kd.C_drew ?_))); (case side2 => exact (Kd.S_reads' HO_5.out).2.1); (case side3 => repeat (first | exact (Kd.C_below HR0.out HB.out) | (with_reducible refine Kd.C_alloc ?_ _) | (with_reducible refine Kd.C_drewN ?_ _) | (with_reducible refine Kd.C_drew ?_))); (case side4 => exact HC0.out); rintro e w68 ⟨v145, rfl, ho0, hb⟩; refine ⟨_, rfl, ?_⟩; have n0_ := Aside0.mk (Kd.S_elder' (by (with_reducible repeat (first | apply Kd.S_alloc | apply Kd.S_drewN | apply Kd.S_drew)); exact HO_5.out) (Kd.S_base ho0) hb); have n1_ := Aside0.mk (Kd.S_elder' (by (with_reducible repeat (first | apply Kd.S_alloc | apply Kd.S_drewN | apply Kd.S_drew)); exact HO142.out) (Kd.S_base ho0) hb); have n2_ := Aside0.mk (Kd.S_lower (Kd.S_new' (Kd.S_new' ho0 (Kd.S_lt (by (with_reducible repeat (first | apply Kd.S_alloc | apply Kd.S_drewN | apply Kd.S_drew)); exact HO_5.out))) (Kd.S_lt (by (with_reducible repeat (first | apply Kd.S_alloc | apply Kd.S_drewN | apply Kd.S_drew)); exact HO142.out))) (below_size (by repeat (first | (with_reducible first | exact HB.out | apply below_alloc | apply pw_below_drewN | apply below_drew1) | exact HB.out)))); have n3_ := Aside0.mk (below_step (by repeat (first | (with_reducible first | exact HB.out | apply below_alloc | apply pw_below_drewN | apply below_drew1) | exact HB.out)) hb); clear HO_5; clear HO142; clear HB; have HO_5 := n0_; have HO142 := n1_; have HO146 := n2_; have HB := n3_; clear n0_ n1_ n2_ n3_; (try clear hb); (try clear hb2); (try clear hk); (try clear hi); (try clear ho0)) | ((with_reducible refine gate_callee (f := 16) rfl ?_); refine goesL_ (some 85) rfl rfl Try.func16 (by kernel_rfl) rfl #[] rfl (by (try simp only [List.map_toArray, List.map_cons, List.map_nil]); first | done | rfl | (simp only [List.length_drop, List.length_take]; rfl)) ?_; (with_reducible refine (kinkeeplaw04_awake.calls  true _ A39.out).mono ?_); rintro e w69 ⟨rfl, hb⟩; refine ⟨_, rfl, ?_⟩; have n0_ := Aside0.mk (Kd.S_below (by (with_reducible repeat (first | apply Kd.S_alloc | apply Kd.S_drewN | apply Kd.S_drew)); exact HO_5.out) hb); have n1_ := Aside0.mk (Kd.S_below (by (with_reducible repeat (first | apply Kd.S_alloc | apply Kd.S_drewN | apply Kd.S_drew)); exact HO142.out) hb); have n2_ := Aside0.mk (Kd.S_below (by (with_reducible repeat (first | apply Kd.S_alloc | apply Kd.S_drewN | apply Kd.S_drew)); exact HO146.out) hb); have n3_ := Aside0.mk (below_step (by repeat (first | (with_reducible first | exact HB.out | apply below_alloc | apply pw_below_drewN | apply below_drew1) | exact HB.out)) hb); clear HO_5; clear HO142; clear HO146; clear HB; have HO_5 := n0_; have HO142 := n1_; have HO146 := n2_; have HB := n3_; clear n0_ n1_ n2_ n3_; (try clear hb); (try clear hb2); (try clear hk); (try clear hi)))
                          go_ret
                          exact ⟨by first | rfl | (simp [errW_none, errW_some] <;> rfl) | (simp [*, errW_none, errW_some] <;> rfl), by repeat (first | (with_reducible first | exact HB.out | apply below_alloc | apply pw_below_drewN | apply below_drew1) | exact HB.out)⟩
                      · rw [if_neg c42] at H
                        have c42b0 : (t140 == 0) = false := beq_eq_false_iff_ne.mpr c42
                        have c42b1 : (t140 != 0) = true := bne_iff_ne.mpr c42
                        obtain rfl := Option.some.inj H
                        obtain ⟨Ao70, co70, eo70⟩ := Kd.S_slice HO_5.out
                        subst eo70
                        go_wp2_with (first | ((with_reducible refine gate_callee (f := 31) rfl ?_); refine goesL_ (some 76) rfl rfl Try.func31 (by kernel_rfl) rfl #[.slice A0 l0.length c0, .slice Ao70 t130.length co70] rfl (by (try simp only [List.map_toArray, List.map_cons, List.map_nil]); first | done | rfl | (simp only [List.length_drop, List.length_take]; rfl)) ?_; (with_reducible refine (matrix_Mul.calls kj23 _ _ l0 _ _ t130 t139 t140 _ ?side1 ?side2 ?side3 ?side4 A37.out).mono ?_); (case side1 => repeat (first | exact (Kd.C_below HR0.out HB.out) | (with_reducible refine Kd.C_alloc ?_ _) | (with_reducible refine Kd.C_drewN ?_ _) | (with_reducible refine Kd.C_drew ?_))); (case side2 => exact HC0.out); (case side3 => repeat (first | exact (Kd.S_reads' HO_5.out).2.2 | (with_reducible refine Kd.C_alloc ?_ _) | (with_reducible refine Kd.C_drewN ?_ _) | (with_reducible refine Kd.C_drew ?_))); (case side4 => exact (Kd.S_reads' HO_5.out).2.1); rintro e w71 ⟨v141, rfl, ho0, hb⟩; refine ⟨_, rfl, ?_⟩; have n0_ := Aside0.mk (Kd.S_elder' (by (with_reducible repeat (first | apply Kd.S_alloc | apply Kd.S_drewN | apply Kd.S_drew)); exact HO_5.out) (Kd.S_base ho0) hb); have n1_ := Aside0.mk (Kd.S_lower (Kd.S_new' ho0 (Kd.S_lt (by (with_reducible repeat (first | apply Kd.S_alloc | apply Kd.S_drewN | apply Kd.S_drew)); exact HO_5.out))) (below_size (by repeat (first | (with_reducible first | exact HB.out | apply below_alloc | apply pw_below_drewN | apply below_drew1) | exact HB.out)))); have n2_ := Aside0.mk (below_step (by repeat (first | (with_reducible first | exact HB.out | apply below_alloc | apply pw_below_drewN | apply below_drew1) | exact HB.out)) hb); clear HO_5; clear HB; have HO_5 := n0_; have HO142 := n1_; have HB := n2_; clear n0_ n1_ n2_; (try clear hb); (try clear hb2); (try clear hk); (try clear hi); (try clear ho0)) | ((with_reducible refine gate_callee (f := 31) rfl ?_); refine goesL_ (some 82) rfl rfl Try.func31 (by kernel_rfl) rfl #[.slice Ao70 t130.length co70, .slice A0 l0.length c0] rfl (by (try simp only [List.map_toArray, List.map_cons, List.map_nil]); first | done | rfl | (simp only [List.length_drop, List.length_take]; rfl)) ?_; (with_reducible refine (matrix_Mul.calls kj23 _ _ t130 _ _ l0 t143 t144 _ ?side1 ?side2 ?side3 ?side4 A38.out).mono ?_); (case side1 => repeat (first | exact (Kd.S_reads' HO_5.out).2.2 | (with_reducible refine Kd.C_alloc ?_ _) | (with_reducible refine Kd.C_drewN ?_ _) | (with_reducible refine Kd.C_drew ?_))); (case side2 => exact (Kd.S_reads' HO_5.out).2.1); (case side3 => repeat (first | exact (Kd.C_below HR0.out HB.out) | (with_reducible refine Kd.C_alloc ?_ _) | (with_reducible refine Kd.C_drewN ?_ _) | (with_reducible refine Kd.C_drew ?_))); (case side4 => exact HC0.out); rintro e w72 ⟨v145, rfl, ho0, hb⟩; refine ⟨_, rfl, ?_⟩; have n0_ := Aside0.mk (Kd.S_elder' (by (with_reducible repeat (first | apply Kd.S_alloc | apply Kd.S_drewN | apply Kd.S_drew)); exact HO_5.out) (Kd.S_base ho0) hb); have n1_ := Aside0.mk (Kd.S_elder' (by (with_reducible repeat (first | apply Kd.S_alloc | apply Kd.S_drewN | apply Kd.S_drew)); exact HO142.out) (Kd.S_base ho0) hb); have n2_ := Aside0.mk (Kd.S_lower (Kd.S_new' (Kd.S_new' ho0 (Kd.S_lt (by (with_reducible repeat (first | apply Kd.S_alloc | apply Kd.S_drewN | apply Kd.S_drew)); exact HO_5.out))) (Kd.S_lt (by (with_reducible repeat (first | apply Kd.S_alloc | apply Kd.S_drewN | apply Kd.S_drew)); exact HO142.out))) (below_size (by repeat (first | (with_reducible first | exact HB.out | apply below_alloc | apply pw_below_drewN | apply below_drew1) | exact HB.out)))); have n3_ := Aside0.mk (below_step (by repeat (first | (with_reducible first | exact HB.out | apply below_alloc | apply pw_below_drewN | apply below_drew1) | exact HB.out)) hb); clear HO_5; clear HO142; clear HB; have HO_5 := n0_; have HO142 := n1_; have HO146 := n2_; have HB := n3_; clear n0_ n1_ n2_ n3_; (try clear hb); (try clear hb2); (try clear hk); (try clear hi); (try clear ho0)) | ((with_reducible refine gate_callee (f := 16) rfl ?_); refine goesL_ (some 85) rfl rfl Try.func16 (by kernel_rfl) rfl #[] rfl (by (try simp only [List.map_toArray, List.map_cons, List.map_nil]); first | done | rfl | (simp only [List.length_drop, List.length_take]; rfl)) ?_; (with_reducible refine (kinkeeplaw04_awake.calls  true _ A39.out).mono ?_); rintro e w73 ⟨rfl, hb⟩; refine ⟨_, rfl, ?_⟩; have n0_ := Aside0.mk (Kd.S_below (by (with_reducible repeat (first | apply Kd.S_alloc | apply Kd.S_drewN | apply Kd.S_drew)); exact HO_5.out) hb); have n1_ := Aside0.mk (Kd.S_below (by (with_reducible repeat (first | apply Kd.S_alloc | apply Kd.S_drewN | apply Kd.S_drew)); exact HO142.out) hb); have n2_ := Aside0.mk (Kd.S_below (by (with_reducible repeat (first | apply Kd.S_alloc | apply Kd.S_drewN | apply Kd.S_drew)); exact HO146.out) hb); have n3_ := Aside0.mk (below_step (by repeat (first | (with_reducible first | exact HB.out | apply below_alloc | apply pw_below_drewN | apply below_drew1) | exact HB.out)) hb); clear HO_5; clear HO142; clear HO146; clear HB; have HO_5 := n0_; have HO142 := n1_; have HO146 := n2_; have HB := n3_; clear n0_ n1_ n2_ n3_; (try clear hb); (try clear hb2); (try clear hk); (try clear hi)))
                        go_ret
                        exact ⟨by first | rfl | (simp [errW_none, errW_some] <;> rfl) | (simp [*, errW_none, errW_some] <;> rfl), by repeat (first | (with_reducible first | exact HB.out | apply below_alloc | apply pw_below_drewN | apply below_drew1) | exact HB.out)⟩
                    · rw [if_neg c41] at H
                      have c41b0 : (t131 == 0) = false := beq_eq_false_iff_ne.mpr c41
                      have c41b1 : (t131 != 0) = true := bne_iff_ne.mpr c41
                      obtain rfl := Option.some.inj H
                      obtain ⟨Ao74, co74, eo74⟩ := Kd.S_slice HO_5.out
                      subst eo74
                      go_wp2_with (first | ((with_reducible refine gate_callee (f := 31) rfl ?_); refine goesL_ (some 76) rfl rfl Try.func31 (by kernel_rfl) rfl #[.slice A0 l0.length c0, .slice Ao74 t130.length co74] rfl (by (try simp only [List.map_toArray, List.map_cons, List.map_nil]); first | done | rfl | (simp only [List.length_drop, List.length_take]; rfl)) ?_; (with_reducible refine (matrix_Mul.calls kj23 _ _ l0 _ _ t130 t139 t140 _ ?side1 ?side2 ?side3 ?side4 A37.out).mono ?_); (case side1 => repeat (first | exact (Kd.C_below HR0.out HB.out) | (with_reducible refine Kd.C_alloc ?_ _) | (with_reducible refine Kd.C_drewN ?_ _) | (with_reducible refine Kd.C_drew ?_))); (case side2 => exact HC0.out); (case side3 => repeat (first | exact (Kd.S_reads' HO_5.out).2.2 | (with_reducible refine Kd.C_alloc ?_ _) | (with_reducible refine Kd.C_drewN ?_ _) | (with_reducible refine Kd.C_drew ?_))); (case side4 => exact (Kd.S_reads' HO_5.out).2.1); rintro e w75 ⟨v141, rfl, ho0, hb⟩; refine ⟨_, rfl, ?_⟩; have n0_ := Aside0.mk (Kd.S_elder' (by (with_reducible repeat (first | apply Kd.S_alloc | apply Kd.S_drewN | apply Kd.S_drew)); exact HO_5.out) (Kd.S_base ho0) hb); have n1_ := Aside0.mk (Kd.S_lower (Kd.S_new' ho0 (Kd.S_lt (by (with_reducible repeat (first | apply Kd.S_alloc | apply Kd.S_drewN | apply Kd.S_drew)); exact HO_5.out))) (below_size (by repeat (first | (with_reducible first | exact HB.out | apply below_alloc | apply pw_below_drewN | apply below_drew1) | exact HB.out)))); have n2_ := Aside0.mk (below_step (by repeat (first | (with_reducible first | exact HB.out | apply below_alloc | apply pw_below_drewN | apply below_drew1) | exact HB.out)) hb); clear HO_5; clear HB; have HO_5 := n0_; have HO142 := n1_; have HB := n2_; clear n0_ n1_ n2_; (try clear hb); (try clear hb2); (try clear hk); (try clear hi); (try clear ho0)) | ((with_reducible refine gate_callee (f := 31) rfl ?_); refine goesL_ (some 82) rfl rfl Try.func31 (by kernel_rfl) rfl #[.slice Ao74 t130.length co74, .slice A0 l0.length c0] rfl (by (try simp only [List.map_toArray, List.map_cons, List.map_nil]); first | done | rfl | (simp only [List.length_drop, List.length_take]; rfl)) ?_; (with_reducible refine (matrix_Mul.calls kj23 _ _ t130 _ _ l0 t143 t144 _ ?side1 ?side2 ?side3 ?side4 A38.out).mono ?_); (case side1 => repeat (first | exact (Kd.S_reads' HO_5.out).2.2 | (with_reducible refine Kd.C_alloc ?_ _) | (with_reducible refine Kd.C_drewN ?_ _) | (with_reducible refine Kd.C_drew ?_))); (case side2 => exact (Kd.S_reads' HO_5.out).2.1); (case side3 => repeat (first | exact (Kd.C_below HR0.out HB.out) | (with_reducible refine Kd.C_alloc ?_ _) | (with_reducible refine Kd.C_drewN ?_ _) | (with_reducible refine Kd.C_drew ?_))); (case side4 => exact HC0.out); rintro e w76 ⟨v145, rfl, ho0, hb⟩; refine ⟨_, rfl, ?_⟩; have n0_ := Aside0.mk (Kd.S_elder' (by (with_reducible repeat (first | apply Kd.S_alloc | apply Kd.S_drewN | apply Kd.S_drew)); exact HO_5.out) (Kd.S_base ho0) hb); have n1_ := Aside0.mk (Kd.S_elder' (by (with_reducible repeat (first | apply Kd.S_alloc | apply Kd.S_drewN | apply Kd.S_drew)); exact HO142.out) (Kd.S_base ho0) hb); have n2_ := Aside0.mk (Kd.S_lower (Kd.S_new' (Kd.S_new' ho0 (Kd.S_lt (by (with_reducible repeat (first | apply Kd.S_alloc | apply Kd.S_drewN | apply Kd.S_drew)); exact HO_5.out))) (Kd.S_lt (by (with_reducible repeat (first | apply Kd.S_alloc | apply Kd.S_drewN | apply Kd.S_drew)); exact HO142.out))) (below_size (by repeat (first | (with_reducible first | exact HB.out | apply below_alloc | apply pw_below_drewN | apply below_drew1) | exact HB.out)))); have n3_ := Aside0.mk (below_step (by repeat (first | (with_reducible first | exact HB.out | apply below_alloc | apply pw_below_drewN | apply below_drew1) | exact HB.out)) hb); clear HO_5; clear HO142; clear HB; have HO_5 := n0_; have HO142 := n1_; have HO146 := n2_; have HB := n3_; clear n0_ n1_ n2_ n3_; (try clear hb); (try clear hb2); (try clear hk); (try clear hi); (try clear ho0)) | ((with_reducible refine gate_callee (f := 16) rfl ?_); refine goesL_ (some 85) rfl rfl Try.func16 (by kernel_rfl) rfl #[] rfl (by (try simp only [List.map_toArray, List.map_cons, List.map_nil]); first | done | rfl | (simp only [List.length_drop, List.length_take]; rfl)) ?_; (with_reducible refine (kinkeeplaw04_awake.calls  true _ A39.out).mono ?_); rintro e w77 ⟨rfl, hb⟩; refine ⟨_, rfl, ?_⟩; have n0_ := Aside0.mk (Kd.S_below (by (with_reducible repeat (first | apply Kd.S_alloc | apply Kd.S_drewN | apply Kd.S_drew)); exact HO_5.out) hb); have n1_ := Aside0.mk (Kd.S_below (by (with_reducible repeat (first | apply Kd.S_alloc | apply Kd.S_drewN | apply Kd.S_drew)); exact HO142.out) hb); have n2_ := Aside0.mk (Kd.S_below (by (with_reducible repeat (first | apply Kd.S_alloc | apply Kd.S_drewN | apply Kd.S_drew)); exact HO146.out) hb); have n3_ := Aside0.mk (below_step (by repeat (first | (with_reducible first | exact HB.out | apply below_alloc | apply pw_below_drewN | apply below_drew1) | exact HB.out)) hb); clear HO_5; clear HO142; clear HO146; clear HB; have HO_5 := n0_; have HO142 := n1_; have HO146 := n2_; have HB := n3_; clear n0_ n1_ n2_ n3_; (try clear hb); (try clear hb2); (try clear hk); (try clear hi)))
                      go_ret
                      exact ⟨by first | rfl | (simp [errW_none, errW_some] <;> rfl) | (simp [*, errW_none, errW_some] <;> rfl), by repeat (first | (with_reducible first | exact HB.out | apply below_alloc | apply pw_below_drewN | apply below_drew1) | exact HB.out)⟩
                  · replace c40 := Bool.eq_false_iff.mpr c40
                    subst c40
                    have H1 : (some false) = some r := by rw [if_neg (show ¬ (false = true) by decide)] at H; exact H
                    clear H
                    have H := H1
                    clear H1
                    obtain rfl := Option.some.inj H
                    obtain ⟨Ao78, co78, eo78⟩ := Kd.S_slice HO_5.out
                    subst eo78
                    go_wp2_with (first | ((with_reducible refine gate_callee (f := 31) rfl ?_); refine goesL_ (some 76) rfl rfl Try.func31 (by kernel_rfl) rfl #[.slice A0 l0.length c0, .slice Ao78 t130.length co78] rfl (by (try simp only [List.map_toArray, List.map_cons, List.map_nil]); first | done | rfl | (simp only [List.length_drop, List.length_take]; rfl)) ?_; (with_reducible refine (matrix_Mul.calls kj23 _ _ l0 _ _ t130 t139 t140 _ ?side1 ?side2 ?side3 ?side4 A37.out).mono ?_); (case side1 => repeat (first | exact (Kd.C_below HR0.out HB.out) | (with_reducible refine Kd.C_alloc ?_ _) | (with_reducible refine Kd.C_drewN ?_ _) | (with_reducible refine Kd.C_drew ?_))); (case side2 => exact HC0.out); (case side3 => repeat (first | exact (Kd.S_reads' HO_5.out).2.2 | (with_reducible refine Kd.C_alloc ?_ _) | (with_reducible refine Kd.C_drewN ?_ _) | (with_reducible refine Kd.C_drew ?_))); (case side4 => exact (Kd.S_reads' HO_5.out).2.1); rintro e w79 ⟨v141, rfl, ho0, hb⟩; refine ⟨_, rfl, ?_⟩; have n0_ := Aside0.mk (Kd.S_elder' (by (with_reducible repeat (first | apply Kd.S_alloc | apply Kd.S_drewN | apply Kd.S_drew)); exact HO_5.out) (Kd.S_base ho0) hb); have n1_ := Aside0.mk (Kd.S_lower (Kd.S_new' ho0 (Kd.S_lt (by (with_reducible repeat (first | apply Kd.S_alloc | apply Kd.S_drewN | apply Kd.S_drew)); exact HO_5.out))) (below_size (by repeat (first | (with_reducible first | exact HB.out | apply below_alloc | apply pw_below_drewN | apply below_drew1) | exact HB.out)))); have n2_ := Aside0.mk (below_step (by repeat (first | (with_reducible first | exact HB.out | apply below_alloc | apply pw_below_drewN | apply below_drew1) | exact HB.out)) hb); clear HO_5; clear HB; have HO_5 := n0_; have HO142 := n1_; have HB := n2_; clear n0_ n1_ n2_; (try clear hb); (try clear hb2); (try clear hk); (try clear hi); (try clear ho0)) | ((with_reducible refine gate_callee (f := 31) rfl ?_); refine goesL_ (some 82) rfl rfl Try.func31 (by kernel_rfl) rfl #[.slice Ao78 t130.length co78, .slice A0 l0.length c0] rfl (by (try simp only [List.map_toArray, List.map_cons, List.map_nil]); first | done | rfl | (simp only [List.length_drop, List.length_take]; rfl)) ?_; (with_reducible refine (matrix_Mul.calls kj23 _ _ t130 _ _ l0 t143 t144 _ ?side1 ?side2 ?side3 ?side4 A38.out).mono ?_); (case side1 => repeat (first | exact (Kd.S_reads' HO_5.out).2.2 | (with_reducible refine Kd.C_alloc ?_ _) | (with_reducible refine Kd.C_drewN ?_ _) | (with_reducible refine Kd.C_drew ?_))); (case side2 => exact (Kd.S_reads' HO_5.out).2.1); (case side3 => repeat (first | exact (Kd.C_below HR0.out HB.out) | (with_reducible refine Kd.C_alloc ?_ _) | (with_reducible refine Kd.C_drewN ?_ _) | (with_reducible refine Kd.C_drew ?_))); (case side4 => exact HC0.out); rintro e w80 ⟨v145, rfl, ho0, hb⟩; refine ⟨_, rfl, ?_⟩; have n0_ := Aside0.mk (Kd.S_elder' (by (with_reducible repeat (first | apply Kd.S_alloc | apply Kd.S_drewN | apply Kd.S_drew)); exact HO_5.out) (Kd.S_base ho0) hb); have n1_ := Aside0.mk (Kd.S_elder' (by (with_reducible repeat (first | apply Kd.S_alloc | apply Kd.S_drewN | apply Kd.S_drew)); exact HO142.out) (Kd.S_base ho0) hb); have n2_ := Aside0.mk (Kd.S_lower (Kd.S_new' (Kd.S_new' ho0 (Kd.S_lt (by (with_reducible repeat (first | apply Kd.S_alloc | apply Kd.S_drewN | apply Kd.S_drew)); exact HO_5.out))) (Kd.S_lt (by (with_reducible repeat (first | apply Kd.S_alloc | apply Kd.S_drewN | apply Kd.S_drew)); exact HO142.out))) (below_size (by repeat (first | (with_reducible first | exact HB.out | apply below_alloc | apply pw_below_drewN | apply below_drew1) | exact HB.out)))); have n3_ := Aside0.mk (below_step (by repeat (first | (with_reducible first | exact HB.out | apply below_alloc | apply pw_below_drewN | apply below_drew1) | exact HB.out)) hb); clear HO_5; clear HO142; clear HB; have HO_5 := n0_; have HO142 := n1_; have HO146 := n2_; have HB := n3_; clear n0_ n1_ n2_ n3_; (try clear hb); (try clear hb2); (try clear hk); (try clear hi); (try clear ho0)) | ((with_reducible refine gate_callee (f := 16) rfl ?_); refine goesL_ (some 85) rfl rfl Try.func16 (by kernel_rfl) rfl #[] rfl (by (try simp only [List.map_toArray, List.map_cons, List.map_nil]); first | done | rfl | (simp only [List.length_drop, List.length_take]; rfl)) ?_; (with_reducible refine (kinkeeplaw04_awake.calls  false _ A39.out).mono ?_); rintro e w81 ⟨rfl, hb⟩; refine ⟨_, rfl, ?_⟩; have n0_ := Aside0.mk (Kd.S_below (by (with_reducible repeat (first | apply Kd.S_alloc | apply Kd.S_drewN | apply Kd.S_drew)); exact HO_5.out) hb); have n1_ := Aside0.mk (Kd.S_below (by (with_reducible repeat (first | apply Kd.S_alloc | apply Kd.S_drewN | apply Kd.S_drew)); exact HO142.out) hb); have n2_ := Aside0.mk (Kd.S_below (by (with_reducible repeat (first | apply Kd.S_alloc | apply Kd.S_drewN | apply Kd.S_drew)); exact HO146.out) hb); have n3_ := Aside0.mk (below_step (by repeat (first | (with_reducible first | exact HB.out | apply below_alloc | apply pw_below_drewN | apply below_drew1) | exact HB.out)) hb); clear HO_5; clear HO142; clear HO146; clear HB; have HO_5 := n0_; have HO142 := n1_; have HO146 := n2_; have HB := n3_; clear n0_ n1_ n2_ n3_; (try clear hb); (try clear hb2); (try clear hk); (try clear hi)))
                    go_ret
                    exact ⟨by first | rfl | (simp [errW_none, errW_some] <;> rfl) | (simp [*, errW_none, errW_some] <;> rfl), by repeat (first | (with_reducible first | exact HB.out | apply below_alloc | apply pw_below_drewN | apply below_drew1) | exact HB.out)⟩
  · replace c3 := Bool.eq_false_iff.mpr c3
    subst c3
    have H1 : ((kinkeeplaw04_awake.f).bind fun t127 => (some t127)) = some r := by rw [if_neg (show ¬ (false = true) by decide)] at H; exact H
    clear H
    have H := H1
    clear H1
    replace H := Option.bind_eq_some_iff.mp H
    obtain ⟨t127, A820, H⟩ := H
    replace H : (some t127) = some r := H
    have A82 := Aside0.mk A820
    clear A820
    obtain rfl := Option.some.inj H
    go_enter Try.func14, Try.ntmps14
    go_wp2_with (first | ((with_reducible refine gate_callee (f := 15) rfl ?_); refine goesL_ (some 12) rfl rfl Try.func15 (by kernel_rfl) rfl #[.slice A0 l0.length c0, .int .i64 6] rfl (by (try simp only [List.map_toArray, List.map_cons, List.map_nil]); first | done | rfl | (simp only [List.length_drop, List.length_take]; rfl)) ?_; (with_reducible refine (kinkeeplaw04_few.calls k _ _ l0 6 false _ ?side1 ?side2 A2.out).mono ?_); (case side1 => repeat (first | exact HR0.out | (with_reducible refine Kd.C_alloc ?_ _) | (with_reducible refine Kd.C_drewN ?_ _) | (with_reducible refine Kd.C_drew ?_))); (case side2 => exact HC0.out); rintro e w' ⟨rfl, ⟨nd, rfl⟩⟩; refine ⟨_, rfl, ?_⟩) | ((with_reducible refine gate_callee (f := 16) rfl ?_); refine goesL_ (some 14) rfl rfl Try.func16 (by kernel_rfl) rfl #[] rfl (by (try simp only [List.map_toArray, List.map_cons, List.map_nil]); first | done | rfl | (simp only [List.length_drop, List.length_take]; rfl)) ?_; (with_reducible refine (kinkeeplaw04_awake.calls  t127 _ A82.out).mono ?_); rintro e w83 ⟨rfl, hb⟩; refine ⟨_, rfl, ?_⟩; have n0_ := Aside0.mk (below_step (by repeat (first | (with_reducible first | exact HB.out | apply below_alloc | apply pw_below_drewN | apply below_drew1) | exact HB.out)) hb); clear HB; have HB := n0_; clear n0_; (try clear hb); (try clear hb2); (try clear hk); (try clear hi)))
    go_ret
    exact ⟨by first | rfl | (simp [errW_none, errW_some] <;> rfl) | (simp [*, errW_none, errW_some] <;> rfl), by repeat (first | (with_reducible first | exact HB.out | apply below_alloc | apply pw_below_drewN | apply below_drew1) | exact HB.out)⟩
end Go.Proofs.Ytpkghpljgjlmjaa.K
/- Determinants, plain: the elimination's is the one by expansion; determinants multiply. -/
namespace Go.Proofs.Ytpkghpljgjlmjaa.K
open Go.RowKit Go.Proofs.YtpkghpljgjlmjaaW.PrintWords Go.Proofs.YtpkghpljgjlmjaaW.PrintLast Go.Proofs.YtpkghpljgjlmjaaW.PrintMore Kin
set_option linter.unusedVariables false
theorem inc_id {A : Mx} {n : Nat} {piv : List Nat} (h : Form A n n piv) (hl : piv.length = n) : ∀ a, a < n → piv.getD a 0 = a := by
  have lo : ∀ a, a < n → a ≤ piv.getD a 0 := by
    intro a
    induction a with
    | zero => intro _; exact Nat.zero_le _
    | succ a ih =>
      intro ha
      have := ih (by omega)
      have := h.inc a (a + 1) (by omega) (by omega)
      omega
  have hi : ∀ m a, a + m + 1 = n → piv.getD a 0 ≤ a := by
    intro m
    induction m with
    | zero =>
      intro a ha
      have := h.lt a (by omega)
      omega
    | succ m ih =>
      intro a ha
      have h1 := ih (a + 1) (by omega)
      have h2 := h.inc a (a + 1) (by omega) (by omega)
      omega
  intro a ha
  have := lo a ha
  have := hi (n - 1 - a) a (by omega)
  omega
/-- The elimination of a square matrix ends with the identity or with a row of zeros. -/
theorem elim_square {M : List (List B)} {n : Nat} (hn : M.length = n) (hm : ∀ r ∈ M, r.length = n) : ∃ F, Ops n (elimRun M n).2.2 F ∧ fn (elimRun M n).1 = F (fn M) ∧
    ((elimRun M n).2.1.length = n ∧ (∀ i j, i < n → j < n → F (fn M) i j = idF i j) ∨ (elimRun M n).2.1.length < n ∧ ∃ r, r < n ∧ ∀ j, j < n → F (fn M) r j = 0) := by
  obtain ⟨F, hF, hf⟩ := elim_ops hm n
  have hform := elim_form hm n
  rw [hn] at hF hform
  refine ⟨F, hF, hf, ?_⟩
  have hle := hform.le
  by_cases h : (elimRun M n).2.1.length = n
  · refine .inl ⟨h, fun i j hi hj => ?_⟩
    have hid := inc_id hform h j hj
    have := hform.unit j (by omega) i hi
    rw [hid] at this
    rw [← hf, this]
    rfl
  · refine .inr ⟨by omega, n - 1, by omega, fun j hj => ?_⟩
    rw [← hf]
    exact hform.zero (n - 1) (by omega) (by omega) j hj
theorem detE_eq {M : List (List B)} {n : Nat} (hn : M.length = n) (hm : ∀ r ∈ M, r.length = n) : detE M = Kin.det n (fn M) := by
  obtain ⟨F, hF, hf, h⟩ := elim_square hn hm
  unfold detE
  rw [hn]
  rcases h with ⟨hl, hI⟩ | ⟨hl, r, hr, hz⟩
  · rw [if_neg (by omega), hF.det_full hI]
  · rw [if_pos hl, hF.det_short hr hz]
theorem colsN_rows {M : List (List B)} {c : Nat} (h : ∀ r ∈ M, r.length = c) (h0 : 0 < M.length) : colsN M = c := by
  cases M with
  | nil => simp at h0
  | cons a t => exact h a List.mem_cons_self
theorem validB_tab {M : List (List B)} {c : Nat} (h : ∀ r ∈ M, r.length = c) (h1 : M.length ≤ 64) (h2 : c ≤ 64) : validB M = true := by
  by_cases h0 : 0 < M.length
  · have := colsN_rows h h0
    simp only [validB, Bool.and_eq_true, decide_eq_true_eq, List.all_eq_true]
    exact ⟨h1, by omega, fun r hr => by rw [h r hr, this]⟩
  · have : M = [] := List.eq_nil_of_length_eq_zero (by omega)
    subst this
    rfl
end Go.Proofs.Ytpkghpljgjlmjaa.K
/- The reference's determinant, plain: it is the determinant by expansion. The inverse, plain. -/
namespace Go.Proofs.Ytpkghpljgjlmjaa.K
open Go.RowKit Go.Proofs.YtpkghpljgjlmjaaW.PrintWords Go.Proofs.YtpkghpljgjlmjaaW.PrintLast Go.Proofs.YtpkghpljgjlmjaaW.PrintMore Kin
set_option linter.unusedVariables false
def cutRow (r : List B) (c : Nat) : List B := r.take c ++ r.drop (c + 1)
def minU (M : List (List B)) (c i : Nat) : List (List B) := (List.range i).map fun a => cutRow (M.getD (a + 1) []) c
theorem minU_length (M : List (List B)) (c i : Nat) : (minU M c i).length = i := by simp [minU]
theorem minU_succ (M : List (List B)) (c i : Nat) : minU M c (i + 1) = minU M c i ++ [cutRow (M.getD (i + 1) []) c] := by
  unfold minU
  rw [List.range_succ, List.map_append]
  rfl
theorem cutRow_length {r : List B} {n c : Nat} (h : r.length = n + 1) (hc : c < n + 1) : (cutRow r c).length = n := by
  unfold cutRow
  rw [List.length_append, List.length_take, List.length_drop]
  omega
theorem cutRow_getD (r : List B) {n c j : Nat} (h : r.length = n + 1) (hc : c < n + 1) (hj : j < n) : (cutRow r c).getD j 0 = r.getD (sk c j) 0 := by
  unfold cutRow sk
  by_cases hlt : j < c
  · rw [if_pos hlt, List.getD_eq_getElem?_getD, List.getElem?_append_left (by rw [List.length_take]; omega), List.getElem?_take_of_lt hlt, ← List.getD_eq_getElem?_getD]
  · rw [if_neg hlt, List.getD_eq_getElem?_getD, List.getElem?_append_right (by rw [List.length_take]; omega), List.getElem?_drop, List.length_take, show c + 1 + (j - min c r.length) = j + 1 by omega, ← List.getD_eq_getElem?_getD]
theorem minU_rows {M : List (List B)} {n c : Nat} (hl : M.length = n + 1) (hM : ∀ r ∈ M, r.length = n + 1) (hc : c < n + 1) : ∀ r ∈ minU M c n, r.length = n := by
  intro r hr
  obtain ⟨a, ha, rfl⟩ := List.mem_map.1 hr
  rw [List.mem_range] at ha
  exact cutRow_length (hM _ (getD_mem' (by omega))) hc
theorem minU_fn {M : List (List B)} {n c : Nat} (hl : M.length = n + 1) (hM : ∀ r ∈ M, r.length = n + 1) (hc : c < n + 1) {i j : Nat} (hi : i < n) (hj : j < n) : fn (minU M c n) i j = minor (fn M) c i j := by
  have e : (minU M c n).getD i [] = cutRow (M.getD (i + 1) []) c := by
    unfold minU
    rw [List.getD_eq_getElem?_getD, List.getElem?_map, List.getElem?_range hi]
    rfl
  unfold fn
  rw [e, cutRow_getD _ (hM _ (getD_mem' (by omega))) hc hj]
  rfl
section
variable {M : List (List B)} {n : Nat}
theorem refdet_l1 (hl : M.length = n + 1) (hM : ∀ r ∈ M, r.length = n + 1) (hn : n ≤ 64) {c : Nat} (hc : c < n + 1) (s d : B) (ih : Evt (fun K => kinkeepref04_Determinant.f K (up2 (minU M c n))) (b2i d)) {R : Int}
    (next : Evt (fun K => kinkeepref04_Determinant.l0 K (up2 M) (b2i (s ^^^ gmul (fn M 0 c) d)) ((c + 1 : Nat) : Int)) R) (m : Nat) :
    ∀ i, i + m = n → Evt (fun K => kinkeepref04_Determinant.l1 K (up2 M) (b2i s) (c : Int) (up2 (minU M c i)) ((i + 1 : Nat) : Int)) R := by
  induction m with
  | zero =>
    intro i hi
    obtain rfl : i = n := by omega
    obtain ⟨K1, h1⟩ := ih
    obtain ⟨K2, h2⟩ := next
    simp only at h1 h2
    have l0 : (M.getD 0 []).length = i + 1 := hM _ (getD_mem' (by omega))
    refine ⟨K1 + K2 + 100, fun K hK => ?_⟩
    obtain ⟨K, rfl⟩ : ∃ j, K = j + 1 := ⟨K - 1, by omega⟩
    simp only [kinkeepref04_Determinant.l1]
    rw [if_neg (by rw [up2_length]; omega), if_pos (by rw [up2_length]; omega), if_pos (by omega), show rd_L1 (up2 M) 0 = up (M.getD 0 []) from rd_L1_up2 M 0, if_pos (by rw [up_length]; omega), getD_up, show (M.getD 0 []).getD c 0 = fn M 0 c from rfl, wrap_nx' _ (by omega)]
    by_cases hz : fn M 0 c = 0
    · rw [if_pos (b2i_eq_zero.2 hz)]
      rw [hz, zero_gmul, bx_zero] at h2
      exact h2 K (by omega)
    · rw [if_neg (fun e => hz (b2i_eq_zero.1 e)), h1 K (by omega)]
      simp only [Option.bind_some]
      rw [refmul_b _ _ (by omega)]
      simp only [Option.bind_some]
      rw [xor_b2i]
      exact h2 K (by omega)
  | succ m ihm =>
    intro i hi
    refine (ihm (i + 1) (by omega)).succ fun K hK => ?_
    have l1 : (M.getD (i + 1) []).length = n + 1 := hM _ (getD_mem' (by omega))
    have hs : kinkeepref04_Determinant.l1 (K + 1) (up2 M) (b2i s) (c : Int) (up2 (minU M c i)) ((i + 1 : Nat) : Int) = kinkeepref04_Determinant.l1 K (up2 M) (b2i s) (c : Int) (up2 (minU M c (i + 1))) ((i + 1 + 1 : Nat) : Int) := by
      rw [kinkeepref04_Determinant.l1]
      rw [if_pos (by rw [up2_length]; omega), Option.bind_some, if_pos (by omega), if_pos (by omega), rd_L1_up2, if_pos (by rw [up_length]; omega), wrap_nx' c (by omega), Int.toNat_natCast, Int.toNat_natCast, up_take, up_drop, if_pos (by rw [up_length, List.length_take, List.length_nil]; omega), Option.bind_some, if_pos (by omega), if_pos (by rw [up_length]; omega), List.nil_append, if_pos (by rw [up_length, up_length, List.length_take, List.length_drop]; omega), if_pos (by rw [up2_length, minU_length]; omega), wrap_nx' (i + 1) (by omega), minU_succ, up2_append, ← up_append]
      rfl
    exact hs
theorem refdet_l0 (hl : M.length = n + 1) (hM : ∀ r ∈ M, r.length = n + 1) (hn : n ≤ 64) (ih : ∀ c, c < n + 1 → Evt (fun K => kinkeepref04_Determinant.f K (up2 (minU M c n))) (b2i (Kin.det n (minor (fn M) c)))) (m : Nat) :
    ∀ c, c + m = n + 1 → Evt (fun K => kinkeepref04_Determinant.l0 K (up2 M) (b2i (bsum c (fun c => gmul (fn M 0 c) (Kin.det n (minor (fn M) c))))) (c : Int)) (b2i (Kin.det (n + 1) (fn M))) := by
  induction m with
  | zero =>
    intro c hc
    obtain rfl : c = n + 1 := by omega
    refine Evt.of 1 fun K hK => ?_
    obtain ⟨K, rfl⟩ : ∃ j, K = j + 1 := ⟨K - 1, by omega⟩
    simp only [kinkeepref04_Determinant.l0]
    rw [if_neg (by rw [up2_length]; omega)]
    rfl
  | succ m ihm =>
    intro c hc
    refine (refdet_l1 hl hM hn (c := c) (by omega) _ _ (ih c (by omega)) (ihm (c + 1) (by omega)) n 0 (by omega)).succ fun K hK => ?_
    simp only [kinkeepref04_Determinant.l0]
    rw [if_pos (by rw [up2_length]; omega)]
    rfl
end
theorem refdet_b (n : Nat) (hn : n ≤ 64) : ∀ M : List (List B), M.length = n → (∀ r ∈ M, r.length = n) → Evt (fun K => kinkeepref04_Determinant.f K (up2 M)) (b2i (Kin.det n (fn M))) := by
  induction n with
  | zero =>
    intro M hl _
    obtain rfl : M = [] := List.eq_nil_of_length_eq_zero hl
    refine Evt.of 1 fun K hK => ?_
    obtain ⟨K, rfl⟩ : ∃ j, K = j + 1 := ⟨K - 1, by omega⟩
    simp only [kinkeepref04_Determinant.f]
    rw [if_pos (show (((up2 ([] : List (List B))).length : Nat) : Int) = 0 from rfl)]
    rfl
  | succ n ih =>
    intro M hl hM
    have h := refdet_l0 hl hM (by omega) (fun c hc => by
      have := ih (by omega) (minU M c n) (minU_length M c n) (minU_rows hl hM hc)
      rw [det_congr (fun i j hi hj => minU_fn hl hM hc hi hj)] at this
      exact this) (n + 1) 0 (by omega)
    refine h.succ fun K _ => ?_
    simp only [kinkeepref04_Determinant.f]
    rw [if_neg (by rw [up2_length]; omega)]
    rfl
end Go.Proofs.Ytpkghpljgjlmjaa.K
/- Linear equations, plain: solved by elimination. -/
namespace Go.Proofs.Ytpkghpljgjlmjaa.K
open Go.RowKit Go.Proofs.YtpkghpljgjlmjaaW.PrintWords Go.Proofs.YtpkghpljgjlmjaaW.PrintLast Go.Proofs.YtpkghpljgjlmjaaW.PrintMore Kin
set_option linter.unusedVariables false
theorem findRow_agree {R1 R2 : List (List B)} (hl : R1.length = R2.length) {c : Nat} (h : ∀ i, fn R1 i c = fn R2 i c) (k : Nat) : findRow R1 k c = findRow R2 k c := by
  unfold findRow
  rw [hl]
  congr 1
  funext i
  have := h i
  unfold fn at this
  rw [this]
/-- Two matrices that agree in the first n columns are eliminated alike there. -/
theorem elim_agree {R1 R2 : List (List B)} {m1 m2 n : Nat} (h1 : ∀ r ∈ R1, r.length = m1) (h2 : ∀ r ∈ R2, r.length = m2) (hl : R1.length = R2.length) (h : ∀ i j, j < n → fn R1 i j = fn R2 i j) :
    ∀ c, c ≤ n → (elimRun R1 c).2.1 = (elimRun R2 c).2.1 ∧ ∀ i j, j < n → fn (elimRun R1 c).1 i j = fn (elimRun R2 c).1 i j := by
  intro c
  induction c with
  | zero => intro _; exact ⟨rfl, h⟩
  | succ c ih =>
    intro hc
    obtain ⟨ih1, ih2⟩ := ih (by omega)
    have g1 := elimRun_rows h1 c
    have g2 := elimRun_rows h2 c
    have l1 := elimRun_length R1 c
    have l2 := elimRun_length R2 c
    rw [elimRun_succ, elimRun_succ]
    generalize elimRun R1 c = s1 at *
    generalize elimRun R2 c = s2 at *
    have hf := findRow_agree (R1 := s1.1) (R2 := s2.1) (by omega) (c := c) (fun i => ih2 i c (by omega)) s1.2.1.length
    cases hfind : findRow s1.1 s1.2.1.length c with
    | none =>
      have e1 : elimStep s1 c = s1 := by unfold elimStep; rw [hfind]
      have e2 : elimStep s2 c = s2 := by unfold elimStep; rw [← ih1, ← hf, hfind]
      rw [e1, e2]
      exact ⟨ih1, ih2⟩
    | some q =>
      have hfind2 : findRow s2.1 s2.2.1.length c = some q := by rw [← ih1, ← hf, hfind]
      obtain ⟨a1, a2, _⟩ := elimStep_fn g1 hfind
      obtain ⟨b1, b2, _⟩ := elimStep_fn g2 hfind2
      rw [a1, a2, b1, b2, ← ih1]
      refine ⟨rfl, fun i j hj => ?_⟩
      unfold rowop
      simp only [swp_row]
      rw [ih2 _ j hj, ih2 _ j hj, ih2 _ c (by omega), ih2 _ c (by omega)]
end Go.Proofs.Ytpkghpljgjlmjaa.K
/- The plain law of MatrixDeterminants: what the printed function computes is true. -/
namespace Go.Proofs.Ytpkghpljgjlmjaa.Pure
open Go.RowKit Go.Proofs.Ytpkghpljgjlmjaa.K Kin
set_option linter.unusedVariables false
theorem idM_fn {n i j : Nat} (hi : i < n) (hj : j < n) : fn (idM n) i j = idF i j := by
  have : idM n = tabM n n (fun a b => if a = b then 1 else 0) := rfl
  rw [this, tabM_fn _ hi hj]
  rfl
theorem wideI_row {M : List (List B)} {n i : Nat} (hi : i < n) : (wideI M n).getD i [] = M.getD i [] ++ (idM n).getD i [] := by
  unfold wideI
  rw [List.getD_eq_getElem?_getD, List.getElem?_map, List.getElem?_range hi]
  rfl
section
variable {M : List (List B)} {n : Nat}
theorem wideI_left (hl : M.length = n) (hM : ∀ r ∈ M, r.length = n) {i j : Nat} (hj : j < n) : fn (wideI M n) i j = fn M i j := by
  by_cases hi : i < n
  · unfold fn
    rw [wideI_row hi, List.getD_eq_getElem?_getD, List.getElem?_append_left (by rw [hM _ (getD_mem' (by omega))]; exact hj), ← List.getD_eq_getElem?_getD]
  · rw [fn_out (by simp [wideI]; omega), fn_out (by omega)]
theorem wideI_right (hl : M.length = n) (hM : ∀ r ∈ M, r.length = n) {i j : Nat} (hi : i < n) : fn (wideI M n) i (n + j) = fn (idM n) i j := by
  unfold fn
  have lr := hM _ (getD_mem' (l := M) (i := i) (by omega))
  rw [wideI_row hi, List.getD_eq_getElem?_getD, List.getElem?_append_right (by omega), lr, show n + j - n = j by omega, ← List.getD_eq_getElem?_getD]
theorem wideI_piv (hl : M.length = n) (hM : ∀ r ∈ M, r.length = n) : (elimRun (wideI M n) n).2.1 = (elimRun M n).2.1 :=
  (elim_agree (wideI_rows hl hM) hM (by simp [wideI, hl]) (fun i j hj => wideI_left hl hM hj) n (Nat.le_refl n)).1
theorem det_zero_iff (hl : M.length = n) (hM : ∀ r ∈ M, r.length = n) : detE M = 0 ↔ (elimRun M n).2.1.length < n := by
  obtain ⟨F, hF, _, _⟩ := elim_square hl hM
  unfold detE
  rw [hl]
  by_cases h : (elimRun M n).2.1.length < n
  · rw [if_pos h]; exact ⟨fun _ => h, fun _ => rfl⟩
  · rw [if_neg h]; exact ⟨fun e => absurd e hF.ne, fun e => absurd e h⟩
theorem inv_fn (hl : M.length = n) (hM : ∀ r ∈ M, r.length = n) (hfull : ¬ (elimRun M n).2.1.length < n) :
    (∀ i j, i < n → j < n → mulF n (fn M) (fn (invU (elimRun (wideI M n) n).1 n n)) i j = idF i j) ∧ (∀ i j, i < n → j < n → mulF n (fn (invU (elimRun (wideI M n) n).1 n n)) (fn M) i j = idF i j) := by
  have hW := wideI_rows hl hM
  have hWl : (wideI M n).length = n := by simp [wideI]
  obtain ⟨F, hF, hf⟩ := elim_ops hW n
  have hform := elim_form hW n
  rw [hWl] at hF hform
  have hlen : (elimRun (wideI M n) n).2.1.length = n := by
    have := hform.le
    rw [wideI_piv hl hM] at this ⊢
    omega
  have hRl := elimRun_length (wideI M n) n
  have hI : ∀ i j, i < n → j < n → F (fn M) i j = idF i j := by
    intro i j hi hj
    rw [hF.col (C := fn (wideI M n)) (j' := j) (fun a ha => (wideI_left hl hM hj).symm) i hi, ← hf]
    have := hform.unit j (by omega) i hi
    rw [inc_id hform hlen j hj] at this
    exact this
  have hX : ∀ i j, i < n → j < n → F idF i j = fn (invU (elimRun (wideI M n) n).1 n n) i j := by
    intro i j hi hj
    rw [hF.col (C := fn (wideI M n)) (j' := n + j) (fun a ha => by rw [wideI_right hl hM ha, idM_fn ha hj]) i hi, ← hf]
    unfold fn
    rw [invU_get _ _ _ (by omega), if_pos hi, List.getD_eq_getElem?_getD (l := List.drop _ _), List.getElem?_drop, ← List.getD_eq_getElem?_getD]
  refine ⟨fun i j hi hj => ?_, fun i j hi hj => ?_⟩
  · rw [← hF.inv_right hI i j hi hj]
    exact mulF_congr (fun t _ => rfl) (fun t ht => (hX t j ht hj).symm)
  · rw [← hF.inv_left hI i j hi hj]
    exact mulF_congr (fun t ht => (hX i t hi ht).symm) (fun t _ => rfl)
end
theorem MatrixDeterminants (M : List (List B)) (hM : (up2 M).length ≤ 9223372036854775807) : ∃ k, kinkeeplaw04_MatrixDeterminants.f k (up2 M) = some true := by
  by_cases hf : fewB (up2 M) 6 = true
  · obtain ⟨f1, f2⟩ := fewB_true hf
    rw [up2_length] at f1
    have tl : ∀ k, kinkeeplaw04_MatrixDeterminants.j0 (k + 1) (up2 M) 0 1 [] 1 true = some true := by
      intro k
      simp only [kinkeeplaw04_MatrixDeterminants.j0, if_true, kinkeeplaw04_awake.f]
      simp
    by_cases hs : squareB M = true
    · obtain ⟨s1, s2⟩ := squareB_lim hs
      have hs' := hs
      simp only [squareB, Bool.and_eq_true, decide_eq_true_eq] at hs'
      obtain ⟨hv, hc⟩ := hs'
      obtain ⟨K1, h1⟩ := refdet_b M.length s1 M rfl s2
      simp only at h1
      obtain ⟨k, hk⟩ : ∃ k, K1 + M.length + 300 ≤ k := ⟨_, Nat.le_refl _⟩
      refine ⟨k + 2, ?_⟩
      unfold kinkeeplaw04_MatrixDeterminants.f
      rw [show (6 : Int) = ((6 : Nat) : Int) from rfl, few_b (up2 M) 6 hM (by rw [up2_length]; omega), hf]
      simp only [Option.bind_some, if_true]
      rw [determinant_up M hs, inverse_up M hs (by omega), refvalid_b _ (by omega), validB_up2, hv]
      simp only [Option.bind_some, if_true]
      rw [refcols_b, colsN_up2, up2_length, hc]
      simp only [Option.bind_some]
      rw [show ((M.length : Int) != (M.length : Int)) = false by simp]
      simp only [kinkeeplaw04_MatrixDeterminants.j0, Bool.false_eq_true, if_false, if_true]
      rw [h1 _ (by omega), detE_eq rfl s2]
      simp only [Option.bind_some]
      rw [show (b2i (Kin.det M.length (fn M)) != b2i (Kin.det M.length (fn M))) = false by simp]
      simp only [kinkeeplaw04_MatrixDeterminants.j1, Bool.false_eq_true, if_false]
      rw [← detE_eq rfl s2]
      have hz := det_zero_iff rfl s2
      by_cases hd : detE M = 0
      · have hlt := hz.1 hd
        rw [if_pos (b2i_eq_zero.2 hd), kinkeeplaw04_awake.f]
        unfold invM
        rw [wideI_piv rfl s2, if_pos hlt]
        simp [up2]
      · have hlt : ¬ (elimRun M M.length).2.1.length < M.length := fun e => hd (hz.2 e)
        obtain ⟨g1, g2⟩ := inv_fn rfl s2 hlt
        rw [if_neg (fun e => hd (b2i_eq_zero.1 e)), kinkeeplaw04_awake.f]
        unfold invM
        rw [wideI_piv rfl s2, if_neg hlt]
        have hXl : (invU (elimRun (wideI M M.length) M.length).1 M.length M.length).length = M.length := by rw [invU_length, elimRun_length]; simp [wideI]
        have hXr : ∀ r ∈ invU (elimRun (wideI M M.length) M.length).1 M.length M.length, r.length = M.length := by
          intro r hr
          obtain ⟨a, ha, rfl⟩ := List.mem_map.1 hr
          rw [List.mem_range] at ha
          have hal : a < M.length := by rw [elimRun_length] at ha; simpa [wideI] using ha
          have := elimRun_rows (wideI_rows rfl s2) M.length _ (getD_mem' ha)
          rw [if_pos hal, List.length_drop, this]
          omega
        have hvX := validB_tab hXr (by omega) s1
        have hcX : colsN (invU (elimRun (wideI M M.length) M.length).1 M.length M.length) = M.length := by
          by_cases h0 : 0 < M.length
          · exact colsN_rows hXr (by omega)
          · have : invU (elimRun (wideI M M.length) M.length).1 M.length M.length = [] := List.eq_nil_of_length_eq_zero (by omega)
            rw [this]
            show 0 = M.length
            omega
        rw [mul_up M _ hv hvX (by rw [hc, hXl]) (by omega), mul_up _ M hvX hv hcX (by omega), hcX, hc]
        have e1 : mulM M (invU (elimRun (wideI M M.length) M.length).1 M.length M.length) M.length = idM M.length :=
          mat_ext (r := M.length) (c := M.length) (tabM_length _ _ _) (idM_length _) (tabM_rows _ _ _) (idM_rows _) (fun i j hi hj => by rw [mulM, tabM_fn _ hi hj, hXl, g1 i j hi hj, idM_fn hi hj])
        have e2 : mulM (invU (elimRun (wideI M M.length) M.length).1 M.length M.length) M M.length = idM M.length :=
          mat_ext (r := M.length) (c := M.length) (by rw [mulM, tabM_length, hXl]) (idM_length _) (tabM_rows _ _ _) (idM_rows _) (fun i j hi hj => by rw [mulM, tabM_fn _ (by omega) hj, g2 i j hi hj, idM_fn hi hj])
        rw [e1, e2]
        simp only [Option.bind_some, if_true]
        rw [up2_length, refidentity_b M.length s1 (by omega)]
        simp only [Option.bind_some]
        rw [same_self _ (by rw [up2_length, idM_length]; omega) (by rw [up2_length, idM_length]; omega)]
        simp
    · have hs' : squareB (up2 M) = false := by rw [squareB_up2]; simpa using hs
      obtain ⟨k, hk⟩ : ∃ k, (up2 M).length + 300 ≤ k := ⟨_, Nat.le_refl _⟩
      refine ⟨k + 1, ?_⟩
      unfold kinkeeplaw04_MatrixDeterminants.f
      rw [show (6 : Int) = ((6 : Nat) : Int) from rfl, few_b (up2 M) 6 hM (by omega), hf]
      simp only [Option.bind_some, if_true]
      have hd : matrix_Determinant.f (up2 M) = some (0, 1) := by
        unfold matrix_Determinant.f
        rw [hs']; rfl
      have hi : matrix_Inverse.f (up2 M) = some ([], 1) := by
        unfold matrix_Inverse.f
        rw [hs']; rfl
      rw [hd, hi, refvalid_b _ (by omega), refcols_b]
      simp only [Option.bind_some]
      by_cases hv : validB (up2 M) = true
      · rw [if_pos hv, show ((colsN (up2 M) : Int) != ((up2 M).length : Int)) = true by
          rw [bne_iff_ne]
          intro e
          have e' : colsN (up2 M) = (up2 M).length := by omega
          simp only [squareB, hv, e', Bool.true_and, decide_eq_true_eq, decide_true] at hs'
          cases hs']
        exact tl _
      · rw [if_neg hv]
        exact tl _
  · obtain ⟨k, hk⟩ : ∃ k, (up2 M).length + 200 ≤ k := ⟨_, Nat.le_refl _⟩
    refine ⟨k, ?_⟩
    unfold kinkeeplaw04_MatrixDeterminants.f
    rw [show (6 : Int) = ((6 : Nat) : Int) from rfl, few_b (up2 M) 6 hM (by omega), show fewB (up2 M) 6 = false by simpa using hf, kinkeeplaw04_awake.f]
    simp
end Go.Proofs.Ytpkghpljgjlmjaa.Pure
