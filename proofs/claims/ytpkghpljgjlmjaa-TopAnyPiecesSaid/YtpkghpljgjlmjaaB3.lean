/- Walks and plain facts behind the laws of package matrix. No conditions. -/
import Derived.Test.YtpkghpljgjlmjaaB2
import Derived.Outline
/- The kernel, plain: its vectors, and that they vanish. -/
namespace Go.Proofs.Ytpkghpljgjlmjaa.K
open Go.RowKit Go.Proofs.YtpkghpljgjlmjaaW.PrintWords Go.Proofs.YtpkghpljgjlmjaaW.PrintLast Go.Proofs.YtpkghpljgjlmjaaW.PrintMore Kin
set_option linter.unusedSimpArgs false
set_option linter.unusedVariables false
theorem setg_eq (r : List B) (k : Nat) (x : B) (j : Nat) : (r.set k x).getD j 0 = if j = k ∧ k < r.length then x else r.getD j 0 := by
  rw [List.getD_eq_getElem?_getD, List.getElem?_set]
  by_cases h : k = j
  · subst h
    rw [if_pos rfl]
    by_cases h2 : k < r.length
    · rw [if_pos h2, if_pos ⟨rfl, h2⟩]; rfl
    · rw [if_neg h2, if_neg (by omega), List.getD_eq_getElem?_getD, List.getElem?_eq_none (by omega)]
  · rw [if_neg h, if_neg (by omega), List.getD_eq_getElem?_getD]
def dot (n : Nat) (f : Nat → B) (v : List B) : B := bsum n fun d => gmul (f d) (v.getD d 0)
theorem dot_set {n : Nat} (f : Nat → B) {v : List B} {p : Nat} (hp : p < n) (hv : v.length = n) (x : B) (h0 : v.getD p 0 = 0) : dot n f (v.set p x) = dot n f v ^^^ gmul (f p) x := by
  have e : dot n f (v.set p x) = bsum n (fun d => gmul (f d) (v.getD d 0) ^^^ if d = p then gmul (f p) x else 0) := by
    refine bsum_congr fun d hd => ?_
    rw [setg_eq]
    by_cases h : d = p
    · subst h
      rw [if_pos ⟨rfl, by omega⟩, if_pos rfl, h0, gmul_zero, zero_bx]
    · rw [if_neg (by omega), if_neg h, bx_zero]
  rw [e, bsum_add, bsum_one (f := fun d => if d = p then gmul (f p) x else 0) hp (fun j _ hne => if_neg hne), if_pos rfl]
  rfl
theorem dot_zeros (n m : Nat) (f : Nat → B) : dot n f (List.replicate m 0) = 0 := by
  refine bsum_zero fun j hj => ?_
  have : (List.replicate m (0 : B)).getD j 0 = 0 := by
    rw [List.getD_eq_getElem?_getD, List.getElem?_replicate]
    split <;> rfl
  rw [this, gmul_zero]
/-- The first t pivots' elements set. -/
def setPivs (R : List (List B)) (piv : List Nat) (c : Nat) (v0 : List B) (t : Nat) : List B := (List.range t).foldl (fun o i => o.set (piv.getD i 0) ((R.getD i []).getD c 0)) v0
theorem setPivs_succ (R : List (List B)) (piv : List Nat) (c : Nat) (v0 : List B) (t : Nat) : setPivs R piv c v0 (t + 1) = (setPivs R piv c v0 t).set (piv.getD t 0) ((R.getD t []).getD c 0) := by
  unfold setPivs
  rw [List.range_succ, List.foldl_append]
  rfl
theorem setPivs_length (R : List (List B)) (piv : List Nat) (c : Nat) (v0 : List B) (t : Nat) : (setPivs R piv c v0 t).length = v0.length := by
  induction t with
  | zero => rfl
  | succ t ih => rw [setPivs_succ, List.length_set, ih]
theorem setPivs_free (R : List (List B)) (piv : List Nat) (c : Nat) (v0 : List B) (d : Nat) : ∀ t, (∀ i, i < t → piv.getD i 0 ≠ d) → (setPivs R piv c v0 t).getD d 0 = v0.getD d 0 := by
  intro t
  induction t with
  | zero => intro _; rfl
  | succ t ih =>
    intro h
    rw [setPivs_succ, setg_eq, if_neg (fun e => h t (by omega) e.1.symm), ih (fun i hi => h i (by omega))]
theorem setPivs_dot {A : Mx} {len cols : Nat} {piv : List Nat} (hF : Form A len cols piv) {R : List (List B)} (hA : fn R = A) {n c : Nat} (hn : cols ≤ n) {v0 : List B} (hv : v0.length = n) (h0 : ∀ i, i < piv.length → v0.getD (piv.getD i 0) 0 = 0) {i : Nat} (hi : i < len) :
    ∀ t, t ≤ piv.length → dot n (A i) (setPivs R piv c v0 t) = dot n (A i) v0 ^^^ if i < t then A i c else 0 := by
  intro t
  induction t with
  | zero => intro _; rw [if_neg (by omega), bx_zero]; rfl
  | succ t ih =>
    intro ht
    have hpt := hF.lt t (by omega)
    rw [setPivs_succ, dot_set (A i) (by omega) (by rw [setPivs_length, hv]) _ (by
      rw [setPivs_free R piv c v0 _ t (fun j hj => by have := hF.inc j t hj (by omega); omega)]
      exact h0 t (by omega)), ih (by omega), hF.unit t (by omega) i hi, show (R.getD t []).getD c 0 = A t c by rw [← hA]; rfl]
    by_cases e : i = t
    · subst e
      rw [if_pos rfl, one_gmul, if_neg (by omega), bx_zero, if_pos (by omega)]
    · rw [if_neg e, zero_gmul, bx_zero]
      by_cases h : i < t
      · rw [if_pos h, if_pos (by omega)]
      · rw [if_neg h, if_neg (by omega)]
/-- The vector of a free column. -/
def kvec (R : List (List B)) (piv : List Nat) (n c : Nat) : List B := setPivs R piv c ((List.replicate n 0).set c 1) piv.length
theorem mem_piv {piv : List Nat} {d : Nat} : d ∈ piv ↔ ∃ i, i < piv.length ∧ piv.getD i 0 = d := by
  constructor
  · intro h
    obtain ⟨i, hi, rfl⟩ := List.mem_iff_getElem.1 h
    exact ⟨i, hi, by rw [List.getD_eq_getElem?_getD, List.getElem?_eq_getElem hi]; rfl⟩
  · rintro ⟨i, hi, rfl⟩
    rw [List.getD_eq_getElem?_getD, List.getElem?_eq_getElem hi]
    exact List.getElem_mem hi
theorem e_getD {n c d : Nat} (hc : c < n) : ((List.replicate n (0 : B)).set c 1).getD d 0 = if d = c then 1 else 0 := by
  rw [setg_eq, List.length_replicate]
  by_cases h : d = c
  · rw [if_pos ⟨h, hc⟩, if_pos h]
  · rw [if_neg (by omega), if_neg h, List.getD_eq_getElem?_getD, List.getElem?_replicate]
    split <;> rfl
theorem kvec_free {R : List (List B)} {piv : List Nat} {n c d : Nat} (hc : c < n) (hd : d ∉ piv) : (kvec R piv n c).getD d 0 = if d = c then 1 else 0 := by
  unfold kvec
  rw [setPivs_free _ _ _ _ _ _ (fun i hi e => hd (mem_piv.2 ⟨i, hi, e⟩)), e_getD hc]
theorem kvec_dot {M : List (List B)} {n : Nat} (hM : ∀ r ∈ M, r.length = n) {c : Nat} (hc : c < n) (hfree : c ∉ (elimRun M n).2.1) {i : Nat} (hi : i < M.length) : dot n (fn M i) (kvec (elimRun M n).1 (elimRun M n).2.1 n c) = 0 := by
  obtain ⟨F, hF, hf⟩ := elim_ops hM n
  have hform := elim_form hM n
  have hz := hF.zero (mulF n (fn M) (fun t _ => (kvec (elimRun M n).1 (elimRun M n).2.1 n c).getD t 0)) 0 (fun a ha => ?_) i hi
  · exact hz
  · rw [hF.mul, ← hf]
    have e := setPivs_dot hform rfl (c := c) (Nat.le_refl n) (v0 := (List.replicate n 0).set c 1) (by simp) (fun j hj => by
      rw [e_getD hc, if_neg]
      intro e
      exact hfree (mem_piv.2 ⟨j, hj, e⟩)) ha (elimRun M n).2.1.length (Nat.le_refl _)
    show dot n (fn (elimRun M n).1 a) (kvec (elimRun M n).1 (elimRun M n).2.1 n c) = 0
    unfold kvec
    rw [e, dot_set _ hc (by simp) _ (by rw [List.getD_eq_getElem?_getD, List.getElem?_replicate]; split <;> rfl), dot_zeros, zero_bx, gmul_one]
    by_cases h : a < (elimRun M n).2.1.length
    · rw [if_pos h, bx_self]
    · rw [if_neg h, bx_zero]
      exact hform.zero a (by omega) ha c hc
section
variable {M R : List (List B)} {piv : List Nat} {n : Nat}
end
end Go.Proofs.Ytpkghpljgjlmjaa.K
/- Linear equations, plain: solved by elimination. -/
namespace Go.Proofs.Ytpkghpljgjlmjaa.K
open Go.RowKit Go.Proofs.YtpkghpljgjlmjaaW.PrintWords Go.Proofs.YtpkghpljgjlmjaaW.PrintLast Go.Proofs.YtpkghpljgjlmjaaW.PrintMore Kin
set_option linter.unusedSimpArgs false
set_option linter.unusedVariables false
theorem findRow_agree {R1 R2 : List (List B)} (hl : R1.length = R2.length) {c : Nat} (h : ∀ i, fn R1 i c = fn R2 i c) (k : Nat) : findRow R1 k c = findRow R2 k c := by
  unfold findRow
  rw [hl]
  congr 1
  funext i
  have := h i
  unfold fn at this
  rw [this]
/-- Two matrices that agree in the first n columns are eliminated alike there. -/
theorem elim_agree {R1 R2 : List (List B)} {m1 m2 n : Nat} (h1 : ∀ r ∈ R1, r.length = m1) (h2 : ∀ r ∈ R2, r.length = m2) (hl : R1.length = R2.length) (h : ∀ i j, j < n → fn R1 i j = fn R2 i j) :
    ∀ c, c ≤ n → (elimRun R1 c).2.1 = (elimRun R2 c).2.1 ∧ ∀ i j, j < n → fn (elimRun R1 c).1 i j = fn (elimRun R2 c).1 i j := by
  intro c
  induction c with
  | zero => intro _; exact ⟨rfl, h⟩
  | succ c ih =>
    intro hc
    obtain ⟨ih1, ih2⟩ := ih (by omega)
    have g1 := elimRun_rows h1 c
    have g2 := elimRun_rows h2 c
    have l1 := elimRun_length R1 c
    have l2 := elimRun_length R2 c
    rw [elimRun_succ, elimRun_succ]
    generalize elimRun R1 c = s1 at *
    generalize elimRun R2 c = s2 at *
    have hf := findRow_agree (R1 := s1.1) (R2 := s2.1) (by omega) (c := c) (fun i => ih2 i c (by omega)) s1.2.1.length
    cases hfind : findRow s1.1 s1.2.1.length c with
    | none =>
      have e1 : elimStep s1 c = s1 := by unfold elimStep; rw [hfind]
      have e2 : elimStep s2 c = s2 := by unfold elimStep; rw [← ih1, ← hf, hfind]
      rw [e1, e2]
      exact ⟨ih1, ih2⟩
    | some q =>
      have hfind2 : findRow s2.1 s2.2.1.length c = some q := by rw [← ih1, ← hf, hfind]
      obtain ⟨a1, a2, _⟩ := elimStep_fn g1 hfind
      obtain ⟨b1, b2, _⟩ := elimStep_fn g2 hfind2
      rw [a1, a2, b1, b2, ← ih1]
      refine ⟨rfl, fun i j hj => ?_⟩
      unfold rowop
      simp only [swp_row]
      rw [ih2 _ j hj, ih2 _ j hj, ih2 _ c (by omega), ih2 _ c (by omega)]
end Go.Proofs.Ytpkghpljgjlmjaa.K
/- Determinants, plain: the elimination's is the one by expansion; determinants multiply. -/
namespace Go.Proofs.Ytpkghpljgjlmjaa.K
open Go.RowKit Go.Proofs.YtpkghpljgjlmjaaW.PrintWords Go.Proofs.YtpkghpljgjlmjaaW.PrintLast Go.Proofs.YtpkghpljgjlmjaaW.PrintMore Kin
set_option linter.unusedSimpArgs false
set_option linter.unusedVariables false
theorem inc_id {A : Mx} {n : Nat} {piv : List Nat} (h : Form A n n piv) (hl : piv.length = n) : ∀ a, a < n → piv.getD a 0 = a := by
  have lo : ∀ a, a < n → a ≤ piv.getD a 0 := by
    intro a
    induction a with
    | zero => intro _; exact Nat.zero_le _
    | succ a ih =>
      intro ha
      have := ih (by omega)
      have := h.inc a (a + 1) (by omega) (by omega)
      omega
  have hi : ∀ m a, a + m + 1 = n → piv.getD a 0 ≤ a := by
    intro m
    induction m with
    | zero =>
      intro a ha
      have := h.lt a (by omega)
      omega
    | succ m ih =>
      intro a ha
      have h1 := ih (a + 1) (by omega)
      have h2 := h.inc a (a + 1) (by omega) (by omega)
      omega
  intro a ha
  have := lo a ha
  have := hi (n - 1 - a) a (by omega)
  omega
theorem colsN_rows {M : List (List B)} {c : Nat} (h : ∀ r ∈ M, r.length = c) (h0 : 0 < M.length) : colsN M = c := by
  cases M with
  | nil => simp at h0
  | cons a t => exact h a List.mem_cons_self
theorem validB_tab {M : List (List B)} {c : Nat} (h : ∀ r ∈ M, r.length = c) (h1 : M.length ≤ 64) (h2 : c ≤ 64) : validB M = true := by
  by_cases h0 : 0 < M.length
  · have := colsN_rows h h0
    simp only [validB, Bool.and_eq_true, decide_eq_true_eq, List.all_eq_true]
    exact ⟨h1, by omega, fun r hr => by rw [h r hr, this]⟩
  · have : M = [] := List.eq_nil_of_length_eq_zero (by omega)
    subst this
    rfl
end Go.Proofs.Ytpkghpljgjlmjaa.K
/- Inverses in plain Lean; a square matrix without a kernel has one; rows of identity above Cauchy. -/
namespace Go.Proofs.Ytpkghpljgjlmjaa.K
open Go.RowKit Kin
set_option linter.unusedSimpArgs false
set_option linter.unusedVariables false
theorem idM_fn' {n i j : Nat} (hi : i < n) (hj : j < n) : fn (idM n) i j = idF i j := by
  have : idM n = tabM n n (fun a b => if a = b then 1 else 0) := rfl
  rw [this, tabM_fn _ hi hj]
  rfl
theorem wideI_row' {M : List (List B)} {n i : Nat} (hi : i < n) : (wideI M n).getD i [] = M.getD i [] ++ (idM n).getD i [] := by
  unfold wideI
  rw [List.getD_eq_getElem?_getD, List.getElem?_map, List.getElem?_range hi]
  rfl
section
variable {M : List (List B)} {n : Nat}
theorem wideI_left' (hl : M.length = n) (hM : ∀ r ∈ M, r.length = n) {i j : Nat} (hj : j < n) : fn (wideI M n) i j = fn M i j := by
  by_cases hi : i < n
  · unfold fn
    rw [wideI_row' hi, List.getD_eq_getElem?_getD, List.getElem?_append_left (by rw [hM _ (getD_mem' (by omega))]; exact hj), ← List.getD_eq_getElem?_getD]
  · rw [fn_out (by simp [wideI]; omega), fn_out (by omega)]
theorem wideI_right' (hl : M.length = n) (hM : ∀ r ∈ M, r.length = n) {i j : Nat} (hi : i < n) : fn (wideI M n) i (n + j) = fn (idM n) i j := by
  unfold fn
  have lr := hM _ (getD_mem' (l := M) (i := i) (by omega))
  rw [wideI_row' hi, List.getD_eq_getElem?_getD, List.getElem?_append_right (by omega), lr, show n + j - n = j by omega, ← List.getD_eq_getElem?_getD]
theorem wideI_piv' (hl : M.length = n) (hM : ∀ r ∈ M, r.length = n) : (elimRun (wideI M n) n).2.1 = (elimRun M n).2.1 :=
  (elim_agree (wideI_rows hl hM) hM (by simp [wideI, hl]) (fun i j hj => wideI_left' hl hM hj) n (Nat.le_refl n)).1
theorem inv_fn' (hl : M.length = n) (hM : ∀ r ∈ M, r.length = n) (hfull : ¬ (elimRun M n).2.1.length < n) :
    (∀ i j, i < n → j < n → mulF n (fn M) (fn (invU (elimRun (wideI M n) n).1 n n)) i j = idF i j) ∧ (∀ i j, i < n → j < n → mulF n (fn (invU (elimRun (wideI M n) n).1 n n)) (fn M) i j = idF i j) := by
  have hW := wideI_rows hl hM
  have hWl : (wideI M n).length = n := by simp [wideI]
  obtain ⟨F, hF, hf⟩ := elim_ops hW n
  have hform := elim_form hW n
  rw [hWl] at hF hform
  have hlen : (elimRun (wideI M n) n).2.1.length = n := by
    have := hform.le
    rw [wideI_piv' hl hM] at this ⊢
    omega
  have hRl := elimRun_length (wideI M n) n
  have hI : ∀ i j, i < n → j < n → F (fn M) i j = idF i j := by
    intro i j hi hj
    rw [hF.col (C := fn (wideI M n)) (j' := j) (fun a ha => (wideI_left' hl hM hj).symm) i hi, ← hf]
    have := hform.unit j (by omega) i hi
    rw [inc_id hform hlen j hj] at this
    exact this
  have hX : ∀ i j, i < n → j < n → F idF i j = fn (invU (elimRun (wideI M n) n).1 n n) i j := by
    intro i j hi hj
    rw [hF.col (C := fn (wideI M n)) (j' := n + j) (fun a ha => by rw [wideI_right' hl hM ha, idM_fn' ha hj]) i hi, ← hf]
    unfold fn
    rw [invU_get _ _ _ (by omega), if_pos hi, List.getD_eq_getElem?_getD (l := List.drop _ _), List.getElem?_drop, ← List.getD_eq_getElem?_getD]
  refine ⟨fun i j hi hj => ?_, fun i j hi hj => ?_⟩
  · rw [← hF.inv_right hI i j hi hj]
    exact mulF_congr (fun t _ => rfl) (fun t ht => (hX t j ht hj).symm)
  · rw [← hF.inv_left hI i j hi hj]
    exact mulF_congr (fun t ht => (hX i t hi ht).symm) (fun t _ => rfl)
end
theorem full_rank {M : List (List B)} {n : Nat} (hl : M.length = n) (hM : ∀ r ∈ M, r.length = n) (hk : ∀ v : Nat → B, (∀ i, i < n → bsum n (fun c => gmul (fn M i c) (v c)) = 0) → ∀ c, c < n → v c = 0) : ¬ (elimRun M n).2.1.length < n := by
  intro hlt
  obtain ⟨c, hc, hm⟩ : ∃ c, c < n ∧ c ∉ (elimRun M n).2.1 := by
    by_cases h : ∃ c, c < n ∧ c ∉ (elimRun M n).2.1
    · exact h
    · have := nodup_le (nodup_range n) (k := (elimRun M n).2.1) fun a ha => by
        by_cases hm : a ∈ (elimRun M n).2.1
        · exact hm
        · exact absurd ⟨a, by simpa using ha, hm⟩ h
      rw [List.length_range] at this
      omega
  have h := hk (fun d => (kvec (elimRun M n).1 (elimRun M n).2.1 n c).getD d 0) (fun i hi => kvec_dot hM hc hm (by omega)) c hc
  rw [kvec_free hc hm, if_pos rfl] at h
  exact absurd h (by decide)
/-- All rows: identity above Cauchy. -/
def allM (n rows : Nat) : List (List B) := idM n ++ cauchyM rows n
theorem allM_length (n rows : Nat) : (allM n rows).length = n + rows := by simp [allM, idM, cauchyM]
theorem allM_fn {n rows p c : Nat} (hp : p < n + rows) (hc : c < n) : fn (allM n rows) p c = rowEl n p c := by
  unfold rowEl
  by_cases h : p < n
  · rw [if_pos h]
    have : fn (allM n rows) p c = fn (idM n) p c := by
      unfold fn allM
      congr 1
      rw [List.getD_eq_getElem?_getD, List.getElem?_append_left (by rw [idM_length]; exact h), ← List.getD_eq_getElem?_getD]
    rw [this, idM_fn' h hc]
    rfl
  · rw [if_neg h]
    have e : fn (allM n rows) p c = fn (cauchyM rows n) (p - n) c := by
      unfold fn allM
      congr 1
      rw [List.getD_eq_getElem?_getD, List.getElem?_append_right (by rw [idM_length]; omega), idM_length, ← List.getD_eq_getElem?_getD]
    have e2 : cauchyM rows n = tabM rows n (cauchyEl n) := rfl
    rw [e, e2, tabM_fn _ (by omega) hc]
    unfold cauchyEl
    rw [show n + (p - n) = p by omega]
theorem allM_rows (n rows : Nat) : ∀ r ∈ allM n rows, r.length = n := by
  intro r hr
  rcases List.mem_append.1 hr with h | h
  · exact idM_rows n r h
  · obtain ⟨a, _, rfl⟩ := List.mem_map.1 h
    simp
def someM (n rows : Nat) (P : List Nat) : List (List B) := P.map fun p => (allM n rows).getD p []
theorem someM_length (n rows : Nat) (P : List Nat) : (someM n rows P).length = P.length := by simp [someM]
theorem someM_rows {n rows : Nat} {P : List Nat} (hb : ∀ p ∈ P, p < n + rows) : ∀ r ∈ someM n rows P, r.length = n := by
  intro r hr
  obtain ⟨p, hp, rfl⟩ := List.mem_map.1 hr
  exact allM_rows n rows _ (getD_mem' (by rw [allM_length]; exact hb p hp))
theorem someM_fn {n rows : Nat} {P : List Nat} {i : Nat} (hi : i < P.length) (c : Nat) : fn (someM n rows P) i c = fn (allM n rows) P[i] c := by
  unfold fn someM
  rw [List.getD_eq_getElem?_getD (l := List.map _ _), List.getElem?_map, List.getElem?_eq_getElem hi]
  rfl
theorem some_full {n rows : Nat} {P : List Nat} (hP : P.Nodup) (hl : P.length = n) (hb : ∀ p ∈ P, p < n + rows) (hn : n + rows ≤ 256) : ¬ (elimRun (someM n rows P) n).2.1.length < n := by
  refine full_rank (by rw [someM_length, hl]) (someM_rows hb) fun v hv => ?_
  refine any_rows (by omega) hP (by omega) (fun p hp => by have := hb p hp; omega) v fun p hp => ?_
  obtain ⟨i, hi, rfl⟩ := List.getElem_of_mem hp
  rw [← hv i (by omega)]
  exact bsum_congr fun c hc => by rw [someM_fn hi, allM_fn (hb _ hp) hc]
end Go.Proofs.Ytpkghpljgjlmjaa.K
/- reedsolomon.factors: the factors of the first pieces for a piece. -/
namespace Go.Proofs.Ytpkghpljgjlmjaa.K
open Go.RowKit Go.Proofs.YtpkghpljgjlmjaaW.PrintWords Go.Proofs.YtpkghpljgjlmjaaW.PrintLast Go.Proofs.YtpkghpljgjlmjaaW.PrintMore Kin
set_option linter.unusedVariables false
set_option linter.unusedSimpArgs false
theorem C_one_row {w : World} {A : Option Addr} {r : List Int} {c : Nat} (hr : Kd.C (Kd.int .u8) w A r.length r) (hc : r.length ≤ c) :
    Kd.C (Kd.slice 5 (Kd.int .u8)) (w.alloc (.cells #[.slice A r.length c] 34 (0, 0))) (some ⟨w.heap.size, 0, none⟩) 1 [r] := by
  refine ⟨rfl, by omega, fun _ => ⟨_, rfl, fun j p hj => ?_⟩⟩
  cases j with
  | zero =>
    simp only [List.getElem?_cons_zero, Option.some.injEq] at hj
    subst hj
    refine ⟨[.slice A r.length c], rfl, ⟨A, c, rfl, hc, Kd.C_below hr (below_alloc (Below.refl _ _) _)⟩, fun i u hi => ?_⟩
    cases i with
    | zero =>
      simp only [List.getElem?_cons_zero, Option.some.injEq] at hi
      subst hi
      rw [show 0 * (Kd.slice 5 (Kd.int .u8)).sz + 0 = 0 from by omega, Addr.add_zero', blk_cell (blk_new _ _)]
      rfl
    | succ i => simp at hi
  | succ j => simp at hj
def facRows (d : Nat) (L : List Int) : List (List B) := (L.take d).map fun x => coefRow d d x.toNat
def facRowsUp (d : Nat) (L : List Int) (k : Nat) : List (List B) := (L.take k).map fun x => coefRow d d x.toNat
def facInv (d : Nat) (L : List Int) : List (List B) := (invM (facRows d L)).1
def facRow (d : Nat) (L : List Int) (i : Nat) : List B := (mulM [coefRow d d i] (facInv d L) d).getD 0 []
theorem facRowsUp_length {d k : Nat} {L : List Int} (hk : k ≤ L.length) : (facRowsUp d L k).length = k := by simp [facRowsUp]; omega
theorem facRowsUp_snoc {d k : Nat} {L : List Int} (hk : k < L.length) {n : Nat} (hn : L[k] = (n : Int)) : up2 (facRowsUp d L k) ++ [up (coefRow d d n)] = up2 (facRowsUp d L (k + 1)) := by
  unfold facRowsUp
  rw [List.take_succ_eq_append_getElem hk, List.map_append, up2_append, hn]
  rfl
theorem facRows_rows {d : Nat} {L : List Int} : ∀ r ∈ facRows d L, r.length = d := by
  intro r hr
  obtain ⟨x, _, rfl⟩ := List.mem_map.1 hr
  exact coefRow_length _ _ _
/-- The indices of the first pieces. -/
def ixOk (d : Nat) (L : List Int) : Prop := d ≤ L.length ∧ distB 16 (L.take d) = true
theorem ixOk_at {d : Nat} {L : List Int} (h : ixOk d L) {k : Nat} (hk : k < d) : ∃ n : Nat, n < 16 ∧ L[k]'(by have := h.1; omega) = (n : Int) := by
  have h2 := h.2
  unfold distB at h2
  rw [Bool.and_eq_true, List.all_eq_true] at h2
  have := h2.2 (L[k]'(by have := h.1; omega)) (by
    rw [List.mem_iff_getElem]
    exact ⟨k, by rw [List.length_take]; have := h.1; omega, by rw [List.getElem_take]⟩)
  rw [decide_eq_true_eq] at this
  obtain ⟨n, hn⟩ := Int.eq_ofNat_of_zero_le this.1
  exact ⟨n, by omega, hn⟩
theorem facRows_some {d : Nat} (hd : d ≤ 8) {L : List Int} (h : ixOk d L) : facRows d L = someM d (16 - d) ((L.take d).map Int.toNat) := by
  unfold facRows someM
  rw [List.map_map]
  refine List.map_congr_left fun x hx => ?_
  have h2 := h.2
  unfold distB at h2
  rw [Bool.and_eq_true, List.all_eq_true] at h2
  have := h2.2 x hx
  rw [decide_eq_true_eq] at this
  obtain ⟨n, rfl⟩ := Int.eq_ofNat_of_zero_le this.1
  show coefRow d d n = (allM d (16 - d)).getD n []
  have hn : n < d + (16 - d) := by omega
  refine List.ext_getElem (by rw [coefRow_length, allM_rows d (16 - d) _ (getD_mem' (by rw [allM_length]; exact hn))]) fun c h1 h2 => ?_
  rw [coefRow_length] at h1
  have e1 := coefRow_get d d n h1
  have e2 := allM_fn (rows := 16 - d) hn h1
  rw [List.getD_eq_getElem?_getD, List.getElem?_eq_getElem (by rw [coefRow_length]; exact h1)] at e1
  unfold fn at e2
  rw [List.getD_eq_getElem?_getD (l := List.getD _ _ _), List.getElem?_eq_getElem h2] at e2
  simp only [Option.getD_some] at e1 e2
  rw [e1, e2]
  unfold coefEl
  rw [if_pos h1]
theorem facRows_full {d : Nat} (hd1 : 1 ≤ d) (hd : d ≤ 8) {L : List Int} (h : ixOk d L) : (facRows d L).length = d ∧ squareB (facRows d L) = true ∧ ¬ (elimRun (facRows d L) d).2.1.length < d := by
  have hl : (facRows d L).length = d := by unfold facRows; rw [List.length_map, List.length_take]; have := h.1; omega
  refine ⟨hl, ?_, ?_⟩
  · simp only [squareB, Bool.and_eq_true, decide_eq_true_eq]
    exact ⟨validB_tab facRows_rows (by omega) (by omega), by rw [colsN_rows facRows_rows (by omega), hl]⟩
  · rw [facRows_some hd h]
    have h2 := h.2
    unfold distB at h2
    rw [Bool.and_eq_true, decide_eq_true_eq, List.all_eq_true] at h2
    refine some_full ?_ (by rw [List.length_map, List.length_take]; have := h.1; omega) ?_ (by omega)
    · have key : ∀ l : List Int, l.Nodup → (∀ x ∈ l, 0 ≤ x) → (l.map Int.toNat).Nodup := by
        intro l
        induction l with
        | nil => intro _ _; exact List.nodup_nil
        | cons a l ih =>
          intro hn hp
          obtain ⟨h1, h2⟩ := List.nodup_cons.1 hn
          rw [List.map_cons, List.nodup_cons]
          refine ⟨fun hm => ?_, ih h2 fun x hx => hp x (List.mem_cons_of_mem _ hx)⟩
          obtain ⟨b, hb, e⟩ := List.mem_map.1 hm
          have p1 := hp a List.mem_cons_self
          have p2 := hp b (List.mem_cons_of_mem _ hb)
          have : a = b := by omega
          exact h1 (this ▸ hb)
      exact key _ h2.1 fun x hx => by have := h2.2 x hx; rw [decide_eq_true_eq] at this; exact this.1
    · intro p hp
      obtain ⟨x, hx, rfl⟩ := List.mem_map.1 hp
      have := h2.2 x hx
      rw [decide_eq_true_eq] at this
      omega
theorem facInv_facts {d : Nat} (hd1 : 1 ≤ d) (hd : d ≤ 8) {L : List Int} (h : ixOk d L) :
    matrix_Inverse.f (up2 (facRows d L)) = some (up2 (facInv d L), 0) ∧ (facInv d L).length = d ∧ (∀ r ∈ facInv d L, r.length = d) ∧
      (∀ i j, i < d → j < d → mulF d (fn (facRows d L)) (fn (facInv d L)) i j = idF i j) ∧ (∀ i j, i < d → j < d → mulF d (fn (facInv d L)) (fn (facRows d L)) i j = idF i j) := by
  obtain ⟨hl, hs, hf⟩ := facRows_full hd1 hd h
  have e : invM (facRows d L) = (invU (elimRun (wideI (facRows d L) d) d).1 d d, 0) := by
    unfold invM
    rw [hl, wideI_piv' hl facRows_rows, if_neg hf]
  have e1 : facInv d L = invU (elimRun (wideI (facRows d L) d) d).1 d d := by unfold facInv; rw [e]
  have hXl : (invU (elimRun (wideI (facRows d L) d) d).1 d d).length = d := by rw [invU_length, elimRun_length]; simp [wideI]
  refine ⟨by rw [inverse_up _ hs (by omega), e1, e], by rw [e1]; exact hXl, ?_, by rw [e1]; exact (inv_fn' hl facRows_rows hf).1, by rw [e1]; exact (inv_fn' hl facRows_rows hf).2⟩
  rw [e1]
  intro r hr
  obtain ⟨a, ha, rfl⟩ := List.mem_map.1 hr
  rw [List.mem_range] at ha
  have hal : a < d := by rw [elimRun_length] at ha; simpa [wideI] using ha
  have := elimRun_rows (wideI_rows hl facRows_rows) d _ (getD_mem' ha)
  rw [if_pos hal, List.length_drop, this]
  omega
end Go.Proofs.Ytpkghpljgjlmjaa.K
/- reedsolomon.factors: its walk. -/
namespace Go.Proofs.Ytpkghpljgjlmjaa.K
open Go.RowKit Go.Proofs.YtpkghpljgjlmjaaW.PrintWords Go.Proofs.YtpkghpljgjlmjaaW.PrintLast Go.Proofs.YtpkghpljgjlmjaaW.PrintMore Kin
set_option linter.unusedVariables false
set_option linter.unusedSimpArgs false
theorem facMul {d : Nat} (hd1 : 1 ≤ d) (hd : d ≤ 8) {L : List Int} (h : ixOk d L) (i : Nat) : matrix_Mul.f 100 [up (coefRow d d i)] (up2 (facInv d L)) = some ([up (facRow d L i)], 0) := by
  obtain ⟨_, h2, h3, _, _⟩ := facInv_facts hd1 hd h
  have hr : ∀ r ∈ [coefRow d d i], r.length = d := by intro r hr; rw [List.mem_singleton] at hr; subst hr; exact coefRow_length _ _ _
  have := mul_up [coefRow d d i] (facInv d L) (validB_tab hr (by simp) (by omega)) (validB_tab h3 (by omega) (by omega)) (by rw [colsN_rows hr (by simp), h2]) (k := 100) (by omega)
  rw [colsN_rows h3 (by omega)] at this
  rw [show [up (coefRow d d i)] = up2 [coefRow d d i] from rfl, this]
  have e : mulM [coefRow d d i] (facInv d L) d = [facRow d L i] := by
    unfold facRow
    have hl : (mulM [coefRow d d i] (facInv d L) d).length = 1 := by rw [mulM, tabM_length]; rfl
    match hm : mulM [coefRow d d i] (facInv d L) d, hl with
    | [x], _ => rfl
  rw [e]
  rfl
theorem facMul_calls {d : Nat} (hd1 : 1 ≤ d) (hd : d ≤ 8) {L : List Int} (h : ixOk d L) (i : Nat) (w : World) {A5 A6 : Option Addr} {c5 c6 : Nat} (hr : Kd.C (Kd.int .u8) w A5 (up (coefRow d d i)).length (up (coefRow d d i))) (hc : (up (coefRow d d i)).length ≤ c5)
    (hr1 : Kd.C (Kd.slice 5 (Kd.int .u8)) w A6 (up2 (facInv d L)).length (up2 (facInv d L))) (hc1 : (up2 (facInv d L)).length ≤ c6) :
    Calls Try.prog 31 #[.slice (some ⟨w.heap.size, 0, none⟩) 1 1, .slice A6 (up2 (facInv d L)).length c6] (w.alloc (.cells #[.slice A5 (up (coefRow d d i)).length c5] 34 (0, 0))) fun e w' => ∃ v0_ : Value, e = .returned (.tuple #[v0_, .int .i64 0]) ∧ Kd.S (Kd.slice 5 (Kd.int .u8)) 34 w' w.heap.size (fun _ => True) v0_ [up (facRow d L i)] ∧ Below w.heap.size w w' := by
  have hb : Below w.heap.size w (w.alloc (.cells #[.slice A5 (up (coefRow d d i)).length c5] 34 (0, 0))) := below_alloc (Below.refl _ _) _
  refine (matrix_Mul.calls 100 (some ⟨w.heap.size, 0, none⟩) 1 [up (coefRow d d i)] A6 c6 (up2 (facInv d L)) [up (facRow d L i)] 0 _ (C_one_row hr hc) (by simp) (Kd.C_below hr1 hb) hc1 (facMul hd1 hd h i)).mono ?_
  rintro e w' ⟨v, rfl, hv, hb2⟩
  exact ⟨v, rfl, Kd.S_lower hv hb.size, hb.trans (hb2.mono hb.size)⟩
set_option maxRecDepth 100000 in
set_option maxHeartbeats 4000000 in
theorem factors_calls (d : Nat) (L : List Int) (i : Nat) (A1 : Option Addr) (c1 : Nat) (w : World) (hd1 : 1 ≤ d) (hd : d ≤ 8) (hix : ixOk d L) (hi : i < 16) (hr1 : Kd.C (Kd.int .i64) w A1 L.length L) (hc1 : L.length ≤ c1) :
    Calls Try.prog 94 #[.int .i64 (d : Int), .slice A1 L.length c1, .int .i64 (i : Int)] w fun e w' => ∃ v0_ : Value, e = .returned (v0_) ∧ Kd.R (Kd.int .u8) 5 w' w.heap.size (fun _ => True) v0_ (up (facRow d L i)) ∧ Below w.heap.size w w' := by
  have HR := Aside0.mk hr1
  have HX := Aside0.mk hix
  have HI := Aside0.mk (facInv_facts hd1 hd hix)
  have l1 : (d : Int) ≤ (c1 : Int) := by have := hix.1; omega
  have l0 : (0 : Int) ≤ (d : Int) := by omega
  have l2 : (d : Int) ≤ 8 := by omega
  have i0 : (0 : Int) ≤ (i : Int) := by omega
  have i1 : (i : Int) < 16 := by omega
  have HLl := Aside0.mk hix.1
  have HD1 := Aside0.mk hd1
  have HB0 := Aside0.mk (Below.refl w.heap.size w)
  clear hix hr1 hc1
  go_enter Try.func94, Try.ntmps94
  go_wp2_with (first | (go_at_call 70; (with_reducible refine (coefficients_calls d HD1.out hd _).mono ?_); rintro e w2 ⟨cs, rfl, hcs, hb⟩; have hst := hcs.store (w := w2.alloc (.cells Try.zeroCells86 86 (0, 0))) (g := w2.heap.size) (heap_alloc_new _ _) (by kernel_rfl); have hsz := hcs.1; have HC := Aside0.mk hcs; have HB2 := Aside0.mk hb; clear hcs hb))
  have HG0 := Aside0.mk (setRow_heap _ _ _ cs _ _ (heap_alloc_new w2 (.cells Try.zeroCells86 86 (0, 0))))
  have HB3 : Aside0 (Below w.heap.size w ((w2.alloc (.cells Try.zeroCells86 86 (0, 0))).setRow w2.heap.size cs)) := ⟨below_setRow (below_alloc HB2.out _) HB2.out.size _⟩
  generalize (w2.alloc (.cells Try.zeroCells86 86 (0, 0))).setRow w2.heap.size cs = w3 at HG0 HB3 ⊢
  generalize w2.heap.size = g at HG0 ⊢
  clear hst hsz HB2
  go_loopw [8, 21] (fun v8 v21 wr => ∃ k : Nat, k ≤ d ∧ v21 = .int .i64 (k : Int) ∧ Aside0 (Kd.S (Kd.slice 5 (Kd.int .u8)) 34 wr w.heap.size (fun _ => True) v8 (up2 (facRowsUp d L k)) ∧ wr.heap[g]? = some (.cells cs 86 (0, 0)) ∧ Below w.heap.size w wr)) (fun _ v21 _ => d - (intOf v21).toNat)
  case atStart => exact ⟨0, by omega, rfl, ⟨Kd.S_nil _ _ _ _ _, HG0.out, HB3.out⟩⟩
  case round =>
    obtain ⟨k, hk, rfl, HA⟩ := hrel
    have HN := Aside0.mk HA.out.1
    have HG := Aside0.mk HA.out.2.1
    have HB := Aside0.mk HA.out.2.2
    clear HA
    by_cases hlt : k < d
    · obtain ⟨n, hn16, hn⟩ := ixOk_at HX.out hlt
      have hkl : k < L.length := by have := HLl.out; omega
      obtain ⟨ad, e, hx⟩ := Kd.at_int HR.out (k : Int) (by omega) (by omega)
      subst e
      have hrd : rd L (k : Int) = (n : Int) := by unfold rd; rw [Int.toNat_natCast, List.getD_eq_getElem?_getD, List.getElem?_eq_getElem hkl]; exact hn
      rw [Int.toNat_natCast, hrd] at hx
      replace hx := (HB.out.cell (World.block_lt_of_cell? w _ hx)).trans hx
      have HSN := Aside0.mk (facRowsUp_snoc (d := d) hkl hn)
      have k0 : (0 : Int) ≤ (k : Int) := by omega
      have k1 : (k : Int) < (d : Int) := by omega
      have n0 : (0 : Int) ≤ (n : Int) := by omega
      have n1 : (n : Int) < 16 := by omega
      have HN16 := Aside0.mk hn16
      have HKL := Aside0.mk hkl
      clear hrd hn hn16 hkl
      go_wp2_with (first | (go_at_call 63; (with_reducible refine (clone_row HC.out _ hd HN16.out HG.out).mono ?_); rintro e w5 ⟨v5, rfl, hv5, hb5⟩; obtain ⟨A5, c5, ev5⟩ := Kd.R_slice hv5; subst ev5; have HV5 := Aside0.mk hv5; have HB5 := Aside0.mk hb5; clear hv5 hb5) | (at_builtin; refine Kd.S_append (Kd.slice 5 (Kd.int .u8)) (w0 := w) w.heap.size rfl (.tmp 25) (.tmp 31) 22 34 (.slice none 0 0) 24 rfl Try.underlying22 info34 rfl (by decide) (by omega) u8 (up2 (facRowsUp d L k)) (up (coefRow d d n)) [.slice A5 (up (coefRow d d n)).length c5] (fun _ => True) (fun k_ => wr.heap.size ≤ k_) rfl rfl ?aP ?aK (fun _ _ => trivial) ?aO ?aB ?aS ?aL ?_; (case aP => exact ⟨_, rfl, Kd.R_mono (Kd.R_lower (Kd.R_bound HV5.out) HB.out.size) (fun k hk => hk.2.1)⟩); (case aK => exact fun k hk => ⟨trivial, fun e => by have := Kd.S_lt HN.out k e.symm; omega⟩); (case aO => exact Kd.S_mono (Kd.S_below (Kd.S_bound HN.out) HB5.out) (fun k hk => ⟨trivial, by have := hk.2.2.1; omega⟩)); (case aB => exact HB.out.trans (HB5.out.mono HB.out.size)); (case aS => exact Nat.le_trans HB.out.size HB5.out.size); (case aL => rw [up2_length, facRowsUp_length (by have := HLl.out; omega)]; omega); intro v10 w10 ho hb hg hat; rw [HSN.out] at ho; have HN10 := Aside0.mk ho; have HB10 := Aside0.mk hb; have HG10 := Aside0.mk (blk_grown ((HB5.out.block g (blk_lt HG.out)).trans HG.out) hg (fun e => by obtain ⟨cells, hc⟩ := Kd.S_typed HN.out g e.symm; rw [HG.out] at hc; injection hc with hc; injection hc with _ hc; exact absurd hc (by decide))); clear ho hb hg hat))
      go_roundw
      case rel => exact ⟨k + 1, by omega, by go_num, ⟨HN10.out, HG10.out, HB10.out⟩⟩
      case measure => simp [intOf]; omega
    · obtain rfl : k = d := by omega
      have hrw : facRowsUp k L k = facRows k L := rfl
      rw [hrw] at HN
      obtain ⟨Av, cv, rfl⟩ := Kd.S_slice HN.out
      go_wp2_with (first | (go_at_call 42; (with_reducible refine (matrix_Inverse.calls Av cv (up2 (facRows k L)) (up2 (facInv k L)) 0 _ (Kd.S_reads' HN.out).2.2 (Kd.S_reads' HN.out).2.1 HI.out.1).mono ?_); rintro e w6 ⟨v6, rfl, hv6, hb6⟩; obtain ⟨A6, c6, ev6⟩ := Kd.S_slice hv6; subst ev6; have HV6 := Aside0.mk hv6; have HB6 := Aside0.mk hb6; have HG6 := Aside0.mk ((hb6.block g (blk_lt HG.out)).trans HG.out); clear hv6 hb6) | (go_at_call 63; (with_reducible refine (clone_row HC.out _ hd hi HG6.out).mono ?_); rintro e w7 ⟨v7, rfl, hv7, hb7⟩; obtain ⟨A7, c7, ev7⟩ := Kd.R_slice hv7; subst ev7; have HV7 := Aside0.mk hv7; have HB7 := Aside0.mk hb7; clear hv7 hb7) | (go_at_call 31; (with_reducible refine (facMul_calls HD1.out hd HX.out i _ (Kd.R_reads' HV7.out).2.2 (Kd.R_reads' HV7.out).2.1 (Kd.C_below (Kd.S_reads' HV6.out).2.2 HB7.out) (Kd.S_reads' HV6.out).2.1).mono ?_); rintro e w8 ⟨v8, rfl, hv8, hb8⟩; obtain ⟨g8, c8, ev8, hg8, hgl8, _⟩ := Kd.S_form hv8 (by simp); subst ev8; obtain ⟨oki, ce, hcl, hM, hcc, hfr, _, _⟩ := Kd.S_elem hv8 [] 0 (by omega) (by simp); obtain ⟨ve, hve, ge⟩ := hM; subst hve; have hx8 : w8.cell? ⟨g8, 0, none⟩ = some ve := hcc 0 _ rfl; obtain ⟨A9, c9, e9⟩ := Kd.R_slice ge; subst e9; have HGE := Aside0.mk ge; have HB8 := Aside0.mk hb8; clear hv8 hb8 hcc hcl hfr ge hg8 hgl8))
      go_ret
      have b7 : Below w.heap.size w w7 := HB.out.trans ((HB6.out.trans (HB7.out.mono HB6.out.size)).mono HB.out.size)
      exact ⟨_, rfl, Kd.R_mono (Kd.R_lower HGE.out b7.size) (fun _ _ => trivial), b7.trans (HB8.out.mono b7.size)⟩
def reedsolomon_factors.f (a0 : Int) (l1 : List Int) (a2 : Int) : Option (List Int) :=
  if (1 ≤ a0 ∧ a0 ≤ 8 ∧ 0 ≤ a2 ∧ a2 < 16) ∧ a0.toNat ≤ l1.length ∧ distB 16 (l1.take a0.toNat) = true then some (up (facRow a0.toNat l1 a2.toNat)) else none
theorem reedsolomon_factors.calls (a0 : Int) (A1 : Option Addr) (c1 : Nat) (l1 : List Int) (a2 : Int) (r : List Int) (w : World) (hr1 : Kd.C (Kd.int .i64) w A1 l1.length l1) (hc1 : l1.length ≤ c1) (h : reedsolomon_factors.f a0 l1 a2 = some r) :
    Calls Try.prog 94 #[.int .i64 a0, .slice A1 l1.length c1, .int .i64 a2] w fun e w' => ∃ v0_ : Value, e = .returned (v0_) ∧ Kd.R (Kd.int .u8) 5 w' w.heap.size (fun _ => True) v0_ r ∧ Below w.heap.size w w' := by
  unfold reedsolomon_factors.f at h
  split at h
  · rename_i ho
    obtain ⟨⟨h1, h2, h3, h4⟩, h5, h6⟩ := ho
    obtain ⟨d, rfl⟩ := Int.eq_ofNat_of_zero_le (show 0 ≤ a0 by omega)
    obtain ⟨i, rfl⟩ := Int.eq_ofNat_of_zero_le h3
    rw [Int.toNat_natCast] at h5 h6
    rw [Int.toNat_natCast, Int.toNat_natCast] at h
    obtain rfl := Option.some.inj h
    exact factors_calls d l1 i A1 c1 w (by omega) (by omega) ⟨h5, h6⟩ (by omega) hr1 hc1
  · cases h
end Go.Proofs.Ytpkghpljgjlmjaa.K
-- Lines of this claim, written by the session's own program kprint.py (it runs print.py).
namespace Go.Proofs.Ytpkghpljgjlmjaa.K
open Go.RowKit Go.Proofs.YtpkghpljgjlmjaaW.PrintWords Go.Proofs.YtpkghpljgjlmjaaW.PrintLast Go.Proofs.YtpkghpljgjlmjaaW.PrintMore
attribute [local go_sem] max2_int min2_int max_two min_two max_three min_three max_four min_four   -- for this text's walks alone
set_option linter.unusedVariables false
set_option linter.unusedSimpArgs false
/-! ### reedsolomon_piece: function 73 -/
def reedsolomon_piece.f (a0 : Int) (l1 : List Int) (l2 : List (List Int)) (a3 : Int) : Option (List Int) := (reedsolomon_factors.f a0 l1 a3).bind fun t104 => (if 0 ≤ a0 then (if a0 ≤ (l2.length : Int) then (if 0 < (l2.length : Int) then ((reedsolomon_combine.f t104 (l2.take (a0 : Int).toNat) ((rd_L2 l2 0).length : Int)).bind fun t112 => (some t112)) else (none)) else (none)) else (none))
def reedsolomon_piece.T1 : Bool × List (List Nat × List Nat) := (true, [([], []), ([], []), ([], []), ([0, 1, 2], [0, 1, 2]), ([], []), ([], []), ([4, 5], [4, 5]), ([], []), ([7], [7]), ([8], [8]), ([9], [9]), ([3, 6, 10, 3], [3, 6, 10]), ([11, 11, 0, 1, 2, 3, 4, 5, 6, 7, 8, 9, 10, 11], [11])])
def reedsolomon_piece.B1 : List Nat := [0, 0, 0, 7, 0, 0, 48, 0, 128, 384, 896, 2047, 4095]
theorem reedsolomon_piece.tab1 : rtab .any (opsOf Try.f73 1) = reedsolomon_piece.T1 := by kernel_rfl
theorem reedsolomon_piece.bits1 : waitsOk reedsolomon_piece.T1.2 reedsolomon_piece.B1 = true := by kernel_rfl
set_option maxHeartbeats 8000000 in
set_option maxRecDepth 100000 in
theorem reedsolomon_piece.calls (a0 : Int) (A1 : Option Addr) (c1 : Nat) (l1 : List Int) (A2 : Option Addr) (c2 : Nat) (l2 : List (List Int)) (a3 : Int) (r : List Int) (w : World) (hr1 : Kd.C (Kd.int .i64) w A1 l1.length l1) (hc1 : l1.length ≤ c1) (hr2 : Kd.C (Kd.slice 5 (Kd.int .u8)) w A2 l2.length l2) (hc2 : l2.length ≤ c2) (h : reedsolomon_piece.f a0 l1 l2 a3 = some r) :
    Calls Try.prog 73 #[.int .i64 a0, .slice A1 l1.length c1, .slice A2 l2.length c2, .int .i64 a3] w fun e w' => ∃ v0_ : Value, e = .returned (v0_) ∧ Kd.R (Kd.int .u8) 5 w' w.heap.size (fun _ => True) v0_ r ∧ Below w.heap.size w w' := by
  have HR1 := Aside0.mk hr1
  have HC1 := Aside0.mk hc1
  clear hr1 hc1
  have HR2 := Aside0.mk hr2
  have HC2 := Aside0.mk hc2
  clear hr2 hc2
  have HB := Aside0.mk (Below.refl w.heap.size w)
  have H : ((reedsolomon_factors.f a0 l1 a3).bind fun t104 => (if 0 ≤ a0 then (if a0 ≤ (l2.length : Int) then (if 0 < (l2.length : Int) then ((reedsolomon_combine.f t104 (l2.take (a0 : Int).toNat) ((rd_L2 l2 0).length : Int)).bind fun t112 => (some t112)) else (none)) else (none)) else (none))) = some r := h
  clear h
  replace H := Option.bind_eq_some_iff.mp H
  obtain ⟨t104, A50, H⟩ := H
  replace H : (if 0 ≤ a0 then (if a0 ≤ (l2.length : Int) then (if 0 < (l2.length : Int) then ((reedsolomon_combine.f t104 (l2.take (a0 : Int).toNat) ((rd_L2 l2 0).length : Int)).bind fun t112 => (some t112)) else (none)) else (none)) else (none)) = some r := H
  have A5 := Aside0.mk A50
  clear A50
  by_cases c6 : 0 ≤ a0
  · rw [if_pos c6] at H
    have c6b0 := eq_true c6
    have c6b1 : decide (0 ≤ a0) = true := decide_eq_true c6
    clear c6
    by_cases c7 : a0 ≤ (l2.length : Int)
    · rw [if_pos c7] at H
      have c7b0 := eq_true c7
      have c7b1 : decide (a0 ≤ (l2.length : Int)) = true := decide_eq_true c7
      clear c7
      obtain ⟨y107, hy107⟩ : ∃ y_ : List (List Int), y_ = (l2.take (a0 : Int).toNat) := ⟨_, rfl⟩
      replace H : (if 0 < (l2.length : Int) then ((reedsolomon_combine.f t104 y107 ((rd_L2 l2 0).length : Int)).bind fun t112 => (some t112)) else (none)) = some r := by first | (rw [hy107]; with_reducible exact H) | (have H2_ := (Option.bind_some _ _).symm.trans H; rw [hy107]; with_reducible exact H2_) | (have H2_ := (Option.bind_some _ _).symm.trans H; with_reducible exact H2_) | with_reducible exact H | (rw [hy107]; exact H) | exact H
      have Ny107 := Aside0.mk hy107
      clear hy107
      by_cases c8 : 0 < (l2.length : Int)
      · rw [if_pos c8] at H
        have c8b0 : decide (0 < (l2.length : Int)) = true := decide_eq_true c8
        have c8b1 : decide (0 < l2.length) = true := decide_eq_true (by omega)
        clear c8
        replace H := Option.bind_eq_some_iff.mp H
        obtain ⟨t112, A90, H⟩ := H
        replace H : (some t112) = some r := H
        have A9 := Aside0.mk A90
        clear A90
        obtain rfl := Option.some.inj H
        go_enter Try.func73, Try.ntmps73
        try go_wp2
        have n0_ := Aside0.mk (below_drew1 HB.out)
        clear HB
        have HB := n0_
        clear n0_
        have q11 : (a0 : Int) ≤ ((l2.length : Int) : Int) := of_decide_eq_true (by first | (with_reducible assumption) | assumption)
        obtain ⟨i011, hi011, _, hsz11, _⟩ := info_parts info34
        have hroom11 : l2.length ≤ c2 := HC2.out
        have hC11 : Kd.C (Kd.slice 5 (Kd.int .u8)) _ A2 l2.length l2 := HR2.out
        have hcut11 := cut_to (P := Try.prog) 22 34 .i64 Try.underlying22 hi011 A2 l2.length c2 a0 (of_decide_eq_true (by first | (with_reducible assumption) | assumption)) q11 hroom11
        have hr11 := Kd.C_take (m := (a0 : Int).toNat) hC11 (by omega)
        have hy11 : y107.length = (a0 : Int).toNat := (by rw [Ny107.out, List.length_take]; omega)
        rw [← Ny107.out] at hr11
        rw [← hy11] at hcut11
        have HR110 := Aside0.mk hr11
        have HC110 := Aside0.mk (show y107.length ≤ c2 from by omega)
        clear hr11 hC11 hroom11 hi011 hsz11
        have KY11 := Aside0.mk hy11
        clear hy11
        replace q11 := eq_true q11
        have p111 : 0 ≤ (0 : Int) := (by omega)
        have q111 : 0 < (l2.length : Int) := of_decide_eq_true (by first | (with_reducible assumption) | assumption)
        obtain ⟨ad111, A111_0, c111_0, e111, hx111_0, hl111_0, hi111_0⟩ := at_L2 HR2.out 0 p111 q111
        have hw111_0 := hx111_0
        (try rw [show ((0 : Int)).toNat = 0 from rfl] at hw111_0)
        (try rw [show 0 * 1 = 0 from rfl] at hw111_0)
        (try rw [Addr.add_zero'] at hw111_0)
        cases e111
        have qi111 : (0 < l2.length) = True := eq_true (by omega)
        (try rw [show ((0 : Int)).toNat = 0 from rfl] at hx111_0)
        (try rw [Addr.add_zero'] at hx111_0)
        replace hx111_0 := (HB.out.cell (World.block_lt_of_cell? w _ hx111_0)).trans hx111_0
        have HR111_0 := Aside0.mk hi111_0
        have HC111_0 := Aside0.mk hl111_0
        clear hi111_0 hl111_0
        replace p111 := eq_true p111
        replace q111 := eq_true q111
        refine start_ (n := 13) (S := fun w' => w'.cell? ad111 = some (.slice A111_0 (rd_L2 l2 0).length c111_0)) (ds := []) #[false, false, false, false, false, false, false, false, false, false, false, false, false] (by kernel_rfl) rfl rfl (((HB.out.cell (World.block_lt_of_cell? w _ hw111_0)).trans hw111_0)) (fun hHeld => ?_); refine with_tabW reedsolomon_piece.tab1 reedsolomon_piece.bits1 (fun HT_ HW_ => ?_)
        generalize w.drew = w10 at HB HR110 HR111_0 hx111_0 hHeld ⊢
        refine pure_ (i := 0) (N := some 9) (v := ?_) (a' := ?_) #[true, false, false, false, false, false, false, false, false, false, false, false, false] rfl rfl (any_of HT_.out (by kernel_rfl)) (fun _ _ _ h => h) (Or.inl ⟨by rfl, ?_⟩) ?_ ?_
        rotate_left
        · intro w'
          go_simp
          with_reducible rfl
        rotate_left
        · simp only [Act.put, List.setIfInBounds_toArray, List.set_cons_zero, List.set_cons_succ, i64_w, i32_w]
          rfl
        refine pure_ (i := 1) (N := some 10) (v := ?_) (a' := ?_) #[true, true, false, false, false, false, false, false, false, false, false, false, false] rfl rfl (any_of HT_.out (by kernel_rfl)) (fun _ _ _ h => h) (Or.inl ⟨by rfl, ?_⟩) ?_ ?_
        rotate_left
        · intro w'
          go_simp
          with_reducible rfl
        rotate_left
        · simp only [Act.put, List.setIfInBounds_toArray, List.set_cons_zero, List.set_cons_succ, i64_w, i32_w]
          rfl
        refine pure_ (i := 2) (N := some 11) (v := ?_) (a' := ?_) #[true, true, true, false, false, false, false, false, false, false, false, false, false] rfl rfl (any_of HT_.out (by kernel_rfl)) (fun _ _ _ h => h) (Or.inl ⟨by rfl, ?_⟩) ?_ ?_
        rotate_left
        · intro w'
          go_simp
          with_reducible rfl
        rotate_left
        · simp only [Act.put, List.setIfInBounds_toArray, List.set_cons_zero, List.set_cons_succ, i64_w, i32_w]
          rfl
        refine pure_ (i := 4) (N := some 13) (v := ?_) (a' := ?_) #[true, true, true, false, true, false, false, false, false, false, false, false, false] rfl rfl (any_of HT_.out (by kernel_rfl)) (fun _ _ _ h => h) (Or.inl ⟨by rfl, ?_⟩) ?_ ?_
        rotate_left
        · intro w'
          go_simp
          with_reducible rfl
        rotate_left
        · simp only [Act.put, List.setIfInBounds_toArray, List.set_cons_zero, List.set_cons_succ, i64_w, i32_w]
          rfl
        refine pure_ (i := 5) (N := some 14) (v := ?_) (a' := ?_) #[true, true, true, false, true, true, false, false, false, false, false, false, false] rfl rfl (any_of HT_.out (by kernel_rfl)) (fun _ _ _ h => h) (Or.inl ⟨by rfl, ?_⟩) ?_ ?_
        rotate_left
        · intro w'
          go_simp
          with_reducible rfl
        rotate_left
        · simp only [Act.put, List.setIfInBounds_toArray, List.set_cons_zero, List.set_cons_succ, i64_w, i32_w]
          rfl
        refine pure_ (i := 6) (N := some 15) (v := ?_) (a' := ?_) #[true, true, true, false, true, true, true, false, false, false, false, false, false] rfl rfl (any_of HT_.out (by kernel_rfl)) (fun _ _ _ h => h) (Or.inl ⟨by rfl, ?_⟩) ?_ ?_
        rotate_left
        · intro w'
          go_simp
          with_reducible rfl
        rotate_left
        · simp only [Act.put, List.setIfInBounds_toArray, List.set_cons_zero, List.set_cons_succ, i64_w, i32_w]
          rfl
        refine pure_ (i := 7) (N := some 16) (v := ?_) (a' := ?_) #[true, true, true, false, true, true, true, true, false, false, false, false, false] rfl rfl (any_of HT_.out (by kernel_rfl)) (fun _ _ _ h => h) (Or.inl ⟨by rfl, ?_⟩) ?_ ?_
        rotate_left
        · intro w'
          go_simp
          with_reducible rfl
        rotate_left
        · simp only [Act.put, List.setIfInBounds_toArray, List.set_cons_zero, List.set_cons_succ, i64_w, i32_w]
          rfl
        refine pure_ (i := 8) (N := some 17) (v := ?_) (a' := ?_) #[true, true, true, false, true, true, true, true, true, false, false, false, false] rfl rfl (any_of HT_.out (by kernel_rfl)) (fun _ _ _ h => h) (Or.inl ⟨by rfl, ?_⟩) ?_ ?_
        rotate_left
        · intro w'
          go_simp
          with_reducible rfl
        rotate_left
        · simp only [Act.put, List.setIfInBounds_toArray, List.set_cons_zero, List.set_cons_succ, i64_w, i32_w]
          rfl
        refine take_ (i := 9) (N := some 18) (v := ?_) (a' := ?_) #[true, true, true, false, true, true, true, true, true, true, false, false, false] rfl rfl (take_ofW HT_.out HW_.out (by kernel_rfl)) (fun _ _ _ h => h) (Or.inl ⟨by rfl, ?_⟩) hHeld ?_ ?_
        rotate_left
        · intro w' s0
          go_simp
          with_reducible rfl
        rotate_left
        · simp only [Act.put, List.setIfInBounds_toArray, List.set_cons_zero, List.set_cons_succ, i64_w, i32_w]
          rfl
        refine pure_ (i := 10) (N := some 19) (v := ?_) (a' := ?_) #[true, true, true, false, true, true, true, true, true, true, true, false, false] rfl rfl (any_of HT_.out (by kernel_rfl)) (fun _ _ _ h => h) (Or.inl ⟨by rfl, ?_⟩) ?_ ?_
        rotate_left
        · intro w'
          go_simp
          with_reducible rfl
        rotate_left
        · simp only [Act.put, List.setIfInBounds_toArray, List.set_cons_zero, List.set_cons_succ, i64_w, i32_w]
          rfl
        refine one_ (i := 3) (N := some 12) #[true, true, true, true, true, true, true, true, true, true, true, false, false] rfl rfl (one_of HT_.out (by kernel_rfl)) (by decide) (fun K hK => ?_)
        refine goes_ Try.func94 (by kernel_rfl) rfl #[.int .i64 a0, .slice A1 l1.length c1, .int .i64 a3] (by rfl) rfl rfl (by (try simp only [List.map_toArray, List.map_cons, List.map_nil]); first | done | rfl | (simp only [List.length_drop, List.length_take]; rfl)) ?_
        with_reducible refine (reedsolomon_factors.calls a0 _ _ l1 a3 t104 _ ?side1 ?side2 A5.out).mono ?_
        (case side1 => repeat (first | exact (Kd.C_below HR1.out HB.out) | (with_reducible refine Kd.C_alloc ?_ _) | (with_reducible refine Kd.C_drewN ?_ _) | (with_reducible refine Kd.C_drew ?_)))
        (case side2 => exact HC1.out)
        rintro e w12 ⟨v105, rfl, ho0, hb⟩
        refine ⟨_, rfl, ?_⟩
        have n0_ := Aside0.mk (Kd.R_lower ho0 (below_size (by repeat (first | (with_reducible first | exact HB.out | apply below_alloc | apply pw_below_drewN | apply below_drew1) | exact HB.out))))
        have n1_ := Aside0.mk (below_step (by repeat (first | (with_reducible first | exact HB.out | apply below_alloc | apply pw_below_drewN | apply below_drew1) | exact HB.out)) hb)
        clear HB
        have HO106 := n0_
        have HB := n1_
        clear n0_ n1_
        (try clear hb)
        (try clear hb2)
        (try clear hk)
        (try clear hi)
        (try clear ho0)
        obtain ⟨Ao13, co13, eo13⟩ := Kd.R_slice HO106.out
        (first | subst eo13 | (injection eo13 with f1_ f2_ f3_; have f4_ := f1_.symm; have f5_ := f3_.symm; clear f1_ f2_ f3_; subst f4_; subst f5_))
        refine hK.out _ _ (((HB.out.cell (World.block_lt_of_cell? w _ hw111_0)).trans hw111_0)) (fun hHeld => ?_)
        clear hK K
        refine norm_ (a' := ?_) ?_ ?_
        rotate_left
        · show Act.put _ (some 12) _ = _
          simp only [Act.put, List.setIfInBounds_toArray, List.set_cons_zero, List.set_cons_succ, i64_w, i32_w]
          rfl
        refine one_ (i := 11) (N := some 20) #[true, true, true, true, true, true, true, true, true, true, true, true, false] rfl rfl (one_of HT_.out (by kernel_rfl)) (by decide) (fun K hK => ?_)
        refine goes_ Try.func71 (by kernel_rfl) rfl #[.slice Ao13 t104.length co13, .slice (some ad111) y107.length c2, .int .i64 ((rd_L2 l2 0).length : Int)] (by rfl) rfl rfl (by (try simp only [List.map_toArray, List.map_cons, List.map_nil]); first | done | rfl | (simp only [List.length_drop, List.length_take]; rfl)) ?_
        with_reducible refine (reedsolomon_combine.calls _ _ t104 _ _ y107 ((rd_L2 l2 0).length : Int) t112 _ ?side1 ?side2 ?side3 ?side4 A9.out).mono ?_
        (case side1 => repeat (first | exact (Kd.R_reads' HO106.out).2.2 | (with_reducible refine Kd.C_alloc ?_ _) | (with_reducible refine Kd.C_drewN ?_ _) | (with_reducible refine Kd.C_drew ?_)))
        (case side2 => exact (Kd.R_reads' HO106.out).2.1)
        (case side3 => repeat (first | exact (Kd.C_below HR110.out HB.out) | (with_reducible refine Kd.C_alloc ?_ _) | (with_reducible refine Kd.C_drewN ?_ _) | (with_reducible refine Kd.C_drew ?_)))
        (case side4 => exact HC110.out)
        rintro e w14 ⟨v113, rfl, ho0, hb⟩
        refine ⟨_, rfl, ?_⟩
        have n0_ := Aside0.mk (Kd.R_elder' (by (with_reducible repeat (first | apply Kd.R_alloc | apply Kd.R_drewN | apply Kd.R_drew)); exact HO106.out) (Kd.R_base ho0) hb)
        have n1_ := Aside0.mk (Kd.R_lower (Kd.R_new' ho0 (Kd.R_lt (by (with_reducible repeat (first | apply Kd.R_alloc | apply Kd.R_drewN | apply Kd.R_drew)); exact HO106.out))) (below_size (by repeat (first | (with_reducible first | exact HB.out | apply below_alloc | apply pw_below_drewN | apply below_drew1) | exact HB.out))))
        have n2_ := Aside0.mk (below_step (by repeat (first | (with_reducible first | exact HB.out | apply below_alloc | apply pw_below_drewN | apply below_drew1) | exact HB.out)) hb)
        clear HO106
        clear HB
        have HO106 := n0_
        have HO114 := n1_
        have HB := n2_
        clear n0_ n1_ n2_
        (try clear hb)
        (try clear hb2)
        (try clear hk)
        (try clear hi)
        (try clear ho0)
        refine hK.out _ _ (((HB.out.cell (World.block_lt_of_cell? w _ hw111_0)).trans hw111_0)) (fun hHeld => ?_)
        clear hK K
        refine norm_ (a' := ?_) ?_ ?_
        rotate_left
        · show Act.put _ (some 20) _ = _
          simp only [Act.put, List.setIfInBounds_toArray, List.set_cons_zero, List.set_cons_succ, i64_w, i32_w]
          rfl
        refine pure_ (i := 12) (N := some 8) (v := ?_) (a' := ?_) #[true, true, true, true, true, true, true, true, true, true, true, true, true] rfl rfl (any_of HT_.out (by kernel_rfl)) (fun _ _ _ h => h) (Or.inl ⟨by rfl, ?_⟩) ?_ ?_
        rotate_left
        · intro w'
          go_simp
          with_reducible rfl
        rotate_left
        · simp only [Act.put, List.setIfInBounds_toArray, List.set_cons_zero, List.set_cons_succ, i64_w, i32_w]
          rfl
        refine done_ (done_of HT_.out (by kernel_rfl)) ?_
        try go_wp2
        go_ret
        exact ⟨_, by first | rfl | (simp [errW_none, errW_some] <;> rfl) | (simp [*, errW_none, errW_some] <;> rfl), by (with_reducible repeat (first | apply Kd.R_alloc | apply Kd.R_drewN | apply Kd.R_drew)); exact Kd.R_mono HO114.out (fun _ hk => trivial), by repeat (first | (with_reducible first | exact HB.out | apply below_alloc | apply pw_below_drewN | apply below_drew1) | exact HB.out)⟩
      · rw [if_neg c8] at H
        exact absurd H (by simp)
    · rw [if_neg c7] at H
      exact absurd H (by simp)
  · rw [if_neg c6] at H
    exact absurd H (by simp)
end Go.Proofs.Ytpkghpljgjlmjaa.K
/- reedsolomon.spoiled: the places at which pieces are not consistent. -/
namespace Go.Proofs.Ytpkghpljgjlmjaa.K
open Go.RowKit Go.Proofs.YtpkghpljgjlmjaaW.PrintWords Go.Proofs.YtpkghpljgjlmjaaW.PrintLast Go.Proofs.YtpkghpljgjlmjaaW.PrintMore Kin
set_option linter.unusedVariables false
set_option linter.unusedSimpArgs false
/-- A piece of the blocks that the first pieces determine. -/
def pieceRow (d : Nat) (L : List Int) (P : List (List B)) (i : Nat) : List B := applyPart (colsN P) (facRow d L i) (P.take d) d
/-- The piece k differs at a place. -/
def diffAt (d : Nat) (L : List Int) (P : List (List B)) (k a : Nat) : Bool := (P.getD k []).getD a 0 != (pieceRow d L P (L.getD k 0).toNat).getD a 0
def markF (d : Nat) (L : List Int) (P : List (List B)) (k m a : Nat) : Bool := decide (a < colsN P) && ((List.range k).any (fun j => decide (d ≤ j) && diffAt d L P j a) || (decide (a < m) && diffAt d L P k a))
def spoiledL (d : Nat) (L : List Int) (P : List (List B)) : List Nat := (List.range (colsN P)).filter fun a => markF d L P P.length 0 a
theorem markF_next (d : Nat) (L : List Int) (P : List (List B)) {k : Nat} (hk : d ≤ k) : markF d L P k (colsN P) = markF d L P (k + 1) 0 := by
  funext a
  unfold markF
  by_cases h : a < colsN P
  · rw [decide_eq_true h, List.range_succ, List.any_append]
    simp [hk]
  · rw [decide_eq_false h]
    simp
theorem markF_start (d : Nat) (L : List Int) (P : List (List B)) (a : Nat) : markF d L P d 0 a = false := by
  unfold markF
  have : (List.range d).any (fun j => decide (d ≤ j) && diffAt d L P j a) = false := by
    rw [List.any_eq_false]
    intro j hj
    rw [List.mem_range] at hj
    simp; omega
  rw [this]
  simp
theorem markF_step (d : Nat) (L : List Int) (P : List (List B)) (k m a : Nat) (hm : m < colsN P) : markF d L P k (m + 1) a = (markF d L P k m a || (diffAt d L P k m && (a == m))) := by
  unfold markF
  by_cases h : a = m
  · subst h
    rw [decide_eq_true hm]
    simp
  · have e : decide (a < m + 1) = decide (a < m) := by rw [decide_eq_decide]; omega
    have e2 : (a == m) = false := by rw [beq_eq_false_iff_ne]; exact h
    rw [e, e2, Bool.and_false, Bool.or_false]
def MarkSt (w0 w : World) (f : Nat → Bool) : Prop := ∃ cs : Array Value, w.heap[w0.heap.size]? = some (.cells cs 109 (0, 0)) ∧ cs.size = 65536 ∧ (∀ a, a < 65536 → cs[a]? = some (.bool (f a))) ∧ Below w0.heap.size w0 w
theorem MarkSt.congr {w0 w : World} {f f' : Nat → Bool} (h : MarkSt w0 w f) (e : ∀ a, f a = f' a) : MarkSt w0 w f' := by
  have : f = f' := funext e
  rw [← this]; exact h
theorem MarkSt.set {w0 w : World} {f : Nat → Bool} (h : MarkSt w0 w f) {m : Nat} (hm : m < 65536) : MarkSt w0 (w.setCell ⟨w0.heap.size, m, none⟩ (.bool true)) (fun a => f a || (a == m)) := by
  obtain ⟨cs, h1, h2, h3, h4⟩ := h
  refine ⟨cs.setIfInBounds m (.bool true), blk_set h1 _ _, by simpa using h2, fun a ha => ?_, h4.setCell (Nat.le_refl _) _⟩
  by_cases e : m = a
  · subst e
    rw [Array.getElem?_setIfInBounds_self_of_lt (by omega)]
    simp
  · rw [Array.getElem?_setIfInBounds_ne e, h3 a ha]
    have : (a == m) = false := by rw [beq_eq_false_iff_ne]; exact fun h => e h.symm
    show some (Value.bool (f a)) = some (Value.bool (f a || (a == m)))
    rw [this, Bool.or_false]
theorem MarkSt.later {w0 w w1 : World} {f : Nat → Bool} (h : MarkSt w0 w f) (hb : Below w.heap.size w w1) : MarkSt w0 w1 f := by
  obtain ⟨cs, h1, h2, h3, h4⟩ := h
  exact ⟨cs, (hb.block _ (blk_lt h1)).trans h1, h2, h3, h4.trans (hb.mono h4.size)⟩
def chkF : List Value → Bool
  | [] => true
  | .bool false :: l => chkF l
  | _ :: _ => false
theorem chkF_at : ∀ {l : List Value}, chkF l = true → ∀ i, i < l.length → l[i]? = some (.bool false)
  | [], _, i, hi => absurd hi (Nat.not_lt_zero i)
  | .bool false :: l, h, 0, _ => rfl
  | .bool false :: l, h, i + 1, hi => by
    rw [List.getElem?_cons_succ]
    exact chkF_at (l := l) h i (by simpa using hi)
theorem zero109 : chkF Try.zeroCells109.toList = true := by kernel_rfl
theorem mark_start (w : World) : MarkSt w (w.alloc (.cells Try.zeroCells109 109 (0, 0))) (fun _ => false) := by
  have hs : Try.zeroCells109.size = 65536 := Try.zeroCells109_size
  refine ⟨Try.zeroCells109, blk_new _ _, hs, fun a ha => ?_, below_alloc (Below.refl _ _) _⟩
  have := chkF_at zero109 a (by rw [Array.length_toList, hs]; exact ha)
  rwa [Array.getElem?_toList] at this
/-- What is asked of the pieces. -/
def spOk (d : Nat) (L : List Int) (P : List (List B)) : Prop := (1 ≤ d ∧ d ≤ 8) ∧ d ≤ P.length ∧ P.length ≤ L.length ∧ distB 16 L = true ∧ levelB (up2 P) = true
theorem spOk_ix {d : Nat} {L : List Int} {P : List (List B)} (h : spOk d L P) : ixOk d L := by
  refine ⟨by have := h.2.1; have := h.2.2.1; omega, ?_⟩
  have hd := h.2.2.2.1
  unfold distB at hd ⊢
  rw [Bool.and_eq_true, decide_eq_true_eq, List.all_eq_true] at hd ⊢
  exact ⟨hd.1.sublist (List.take_sublist _ _), fun x hx => hd.2 x (List.mem_of_mem_take hx)⟩
theorem spOk_at {d : Nat} {L : List Int} {P : List (List B)} (h : spOk d L P) {k : Nat} (hk : k < L.length) : ∃ n : Nat, n < 16 ∧ L[k] = (n : Int) := by
  have hd := h.2.2.2.1
  unfold distB at hd
  rw [Bool.and_eq_true, List.all_eq_true] at hd
  have := hd.2 _ (List.getElem_mem hk)
  rw [decide_eq_true_eq] at this
  obtain ⟨n, hn⟩ := Int.eq_ofNat_of_zero_le this.1
  exact ⟨n, by omega, hn⟩
theorem facRow_length {d : Nat} (hd1 : 1 ≤ d) (hd : d ≤ 8) {L : List Int} (h : ixOk d L) (i : Nat) : (facRow d L i).length = d := by
  unfold facRow
  have hl : (mulM [coefRow d d i] (facInv d L) d).length = 1 := by rw [mulM, tabM_length]; rfl
  have hm : ∀ r ∈ mulM [coefRow d d i] (facInv d L) d, r.length = d := tabM_rows _ _ _
  exact hm _ (getD_mem' (by rw [hl]; omega))
theorem piece_up {d : Nat} {L : List Int} {P : List (List B)} (h : spOk d L P) {i : Nat} (hi : i < 16) : reedsolomon_piece.f (d : Int) L (up2 P) (i : Int) = some (up (pieceRow d L P i)) := by
  obtain ⟨⟨h1, h2⟩, h3, h4, h5, h6⟩ := h
  have hix := spOk_ix ⟨⟨h1, h2⟩, h3, h4, h5, h6⟩
  obtain ⟨hn, hrow⟩ := levelB_lim h6
  unfold reedsolomon_piece.f reedsolomon_factors.f
  rw [if_pos ⟨by omega, by rw [Int.toNat_natCast]; exact hix.1, by rw [Int.toNat_natCast]; exact hix.2⟩, Option.bind_some, if_pos (by omega), if_pos (by rw [up2_length]; omega), if_pos (by rw [up2_length]; omega), Int.toNat_natCast, Int.toNat_natCast]
  have e0 : (rd_L2 (up2 P) 0).length = colsN P := by
    cases P with
    | nil => simp at h3; omega
    | cons y l => exact up_length y
  have hfl := facRow_length h1 h2 hix i
  unfold reedsolomon_combine.f
  rw [e0, up2_take, if_pos ⟨⟨List.all_eq_true.2 fun x hx => by obtain ⟨y, _, rfl⟩ := List.mem_map.1 hx; exact isB_b2i y, bytes2_up2 _⟩, by rw [up2_length, up_length, hfl, List.length_take]; omega, by omega, by omega, fun b hb => by
    obtain ⟨y, hy, rfl⟩ := List.mem_map.1 hb
    rw [up_length, hrow y (List.mem_of_mem_take hy)]⟩, Option.bind_some, toB_up, toB2_up2, Int.toNat_natCast, up2_length, List.length_take, Nat.min_eq_left h3]
  rfl
theorem pieceRow_length {d : Nat} {L : List Int} {P : List (List B)} (h : spOk d L P) (i : Nat) : (pieceRow d L P i).length = colsN P :=
  applyPart_length _ _ _ (fun b hb => (levelB_lim h.2.2.2.2).2 b (List.mem_of_mem_take hb)) _
end Go.Proofs.Ytpkghpljgjlmjaa.K
/- reedsolomon.spoiled: its walk. -/
namespace Go.Proofs.Ytpkghpljgjlmjaa.K
open Go.RowKit Go.Proofs.YtpkghpljgjlmjaaW.PrintWords Go.Proofs.YtpkghpljgjlmjaaW.PrintLast Go.Proofs.YtpkghpljgjlmjaaW.PrintMore Kin
set_option linter.unusedVariables false
set_option linter.unusedSimpArgs false
theorem infoI : (Try.prog.info? 3).map (fun i => (i.zero, i.size, i.bytes)) = some (some (.int .i64 0), 1, 8) := by kernel_rfl
theorem filter_snoc (f : Nat → Bool) (m : Nat) : natInts ((List.range (m + 1)).filter f) = natInts ((List.range m).filter f) ++ (if f m then [(m : Int)] else []) := by
  rw [List.range_succ, List.filter_append]
  unfold natInts
  rw [List.map_append]
  congr 1
  cases h : f m <;> simp [List.filter_cons, h]
theorem filter_len (f : Nat → Bool) (m : Nat) : (natInts ((List.range m).filter f)).length ≤ m := by
  unfold natInts
  rw [List.length_map]
  have := List.length_filter_le f (List.range m)
  rwa [List.length_range] at this
theorem R_keep {w1 : World} {base g : Nat} {v : Value} {xs : List Int} {cells : Array Value} (h : Kd.R (Kd.int .u8) 5 w1 base (fun _ => True) v xs) (hg : w1.heap[g]? = some (.cells cells 109 (0, 0))) : Kd.R (Kd.int .u8) 5 w1 base (fun k => k ≠ g) v xs :=
  Kd.R_mono (Kd.R_types h hg (by intro q hq; simp [Kd.int, Kd.scalar] at hq; rw [hq]; decide)) (fun _ hk => hk.2)
set_option maxRecDepth 100000 in
set_option maxHeartbeats 8000000 in
theorem spoiled_calls (d : Nat) (L : List Int) (P : List (List B)) (A1 : Option Addr) (c1 : Nat) (A2 : Option Addr) (c2 : Nat) (w : World) (hok : spOk d L P) (hr1 : Kd.C (Kd.int .i64) w A1 L.length L) (hc1 : L.length ≤ c1) (hr2 : Kd.C (Kd.slice 5 (Kd.int .u8)) w A2 (up2 P).length (up2 P)) (hc2 : (up2 P).length ≤ c2) :
    Calls Try.prog 75 #[.int .i64 (d : Int), .slice A1 L.length c1, .slice A2 (up2 P).length c2] w fun e w' => ∃ v0_ : Value, e = .returned (v0_) ∧ Kd.R (Kd.int .i64) 3 w' w.heap.size (fun _ => True) v0_ (natInts (spoiledL d L P)) ∧ Below w.heap.size w w' := by
  have HR1 := Aside0.mk hr1
  have HC1 := Aside0.mk hc1
  have HR2 := Aside0.mk hr2
  have HC2 := Aside0.mk hc2
  have HOK := Aside0.mk hok
  have hpl := hr2.2.1
  have hlv := levelB_lim hok.2.2.2.2
  have HN := Aside0.mk hlv.1
  have HROW := Aside0.mk hlv.2
  have HDP := Aside0.mk (show d ≤ (up2 P).length by rw [up2_length]; exact hok.2.1)
  have HPL := Aside0.mk (show (up2 P).length ≤ L.length by rw [up2_length]; exact hok.2.2.1)
  have HD1 := Aside0.mk hok.1.1
  clear hr1 hc1 hr2 hc2 hok hlv
  go_enter Try.func75, Try.ntmps75
  go_wp2
  go_loopw [8] (fun v8 wr => ∃ k : Nat, d ≤ k ∧ k ≤ (up2 P).length ∧ v8 = .int .i64 (k : Int) ∧ Aside0 (MarkSt w wr (markF d L P k 0))) (fun v8 _ => (up2 P).length - (intOf v8).toNat)
  case atStart => exact ⟨d, Nat.le_refl _, HDP.out, rfl, ⟨(mark_start w).congr fun a => (markF_start d L P a).symm⟩⟩
  case round =>
    obtain ⟨k, hdk, hk, rfl, HA⟩ := hrel
    have HBw : Aside0 (Below w.heap.size w wr) := by obtain ⟨_, _, _, _, h⟩ := HA.out; exact ⟨h⟩
    by_cases hlt : k < (up2 P).length
    · have hkl : k < L.length := by have := HPL.out; omega
      obtain ⟨n, hn16, hn⟩ := spOk_at HOK.out hkl
      obtain ⟨ad, e, hx⟩ := Kd.at_int HR1.out (k : Int) (by omega) (by omega)
      subst e
      have hrd : rd L (k : Int) = (n : Int) := by unfold rd; rw [Int.toNat_natCast, List.getD_eq_getElem?_getD, List.getElem?_eq_getElem hkl]; exact hn
      have hgd : (L.getD k 0).toNat = n := by rw [List.getD_eq_getElem?_getD, List.getElem?_eq_getElem hkl]; show L[k].toNat = n; rw [hn]; rfl
      rw [Int.toNat_natCast, hrd] at hx
      replace hx := (HBw.out.cell (World.block_lt_of_cell? w _ hx)).trans hx
      have HPU := Aside0.mk (piece_up HOK.out hn16)
      have HWL := Aside0.mk (pieceRow_length HOK.out n)
      obtain ⟨ad2, A3, c3, e2, hx2, hl3, hi3⟩ := at_L1 HR2.out (k : Int) (by omega) (by omega)
      subst e2
      rw [Int.toNat_natCast] at hx2
      rw [rd_L1_up2] at hx2 hl3 hi3
      have HI3 := Aside0.mk hi3
      have hpk : (P.getD k []).length = colsN P := HROW.out _ (getD_mem' (by rw [up2_length] at hlt; exact hlt))
      have hul : (up (P.getD k [])).length = colsN P := by rw [up_length]; exact hpk
      rw [hul] at hx2
      have HX2 := Aside0.mk hx2
      have HDF : Aside0 (∀ m, diffAt d L P k m = ((P.getD k []).getD m 0 != (pieceRow d L P n).getD m 0)) := ⟨fun m => by unfold diffAt; rw [hgd]⟩
      have HUL := Aside0.mk hul
      have k0 : (0 : Int) ≤ (k : Int) := by omega
      have k1 : (k : Int) < ((up2 P).length : Int) := by omega
      have k2 : (k : Int) < (L.length : Int) := by omega
      have HDK := Aside0.mk hdk
      clear hrd hgd hn hi3 hl3 hpk hul hx2 hkl hdk
      go_wp2_with (first | (go_at_call 73; (with_reducible refine (reedsolomon_piece.calls (d : Int) _ _ L _ _ (up2 P) (n : Int) _ _ (Kd.C_below HR1.out HBw.out) HC1.out (Kd.C_below HR2.out HBw.out) HC2.out HPU.out).mono ?_); rintro e w5 ⟨v5, rfl, hv5, hb5⟩; obtain ⟨A5, c5, ev5⟩ := Kd.R_slice hv5; rw [up_length, HWL.out] at ev5; subst ev5; have HV5 := Aside0.mk hv5; have HB5 := Aside0.mk hb5; have hxk := ((HBw.out.trans (hb5.mono HBw.out.size)).cell (World.block_lt_of_cell? w _ HX2.out)).trans HX2.out; have HXK := Aside0.mk hxk; clear hv5 hb5))
      have hM5 := HA.out.later HB5.out
      obtain ⟨cs5, hcs5, _⟩ := hM5
      have HRK := Aside0.mk (R_keep (Kd.R_lower HV5.out HBw.out.size) hcs5)
      have HM5 := Aside0.mk (HA.out.later HB5.out)
      clear hcs5 HA HV5
      obtain ⟨wo, rfl⟩ : ∃ wo : World, wo = wr := ⟨_, rfl⟩
      go_loopw [34] (fun v34 wi => ∃ m : Nat, m ≤ colsN P ∧ v34 = .int .i64 (m : Int) ∧ Aside0 (MarkSt w wi (markF d L P k m) ∧ Kd.R (Kd.int .u8) 5 wi w.heap.size (fun q => q ≠ w.heap.size) (.slice A5 (colsN P) c5) (up (pieceRow d L P n)))) (fun v34 _ => colsN P - (intOf v34).toNat)
      case atStart => exact ⟨0, by omega, rfl, ⟨HM5.out, by have h := HRK.out; exact h⟩⟩
      case round =>
        obtain ⟨m, hm, rfl, HA⟩ := hrel
        have HBi : Aside0 (Below w.heap.size w wr) := by obtain ⟨_, _, _, _, h⟩ := HA.out.1; exact ⟨h⟩
        by_cases hlm : m < colsN P
        · obtain ⟨ad3, e3, hx3⟩ := Kd.at_int HI3.out (m : Int) (by omega) (by rw [HUL.out]; omega)
          subst e3
          rw [Int.toNat_natCast, getD_up] at hx3
          replace hx3 := (HBi.out.cell (World.block_lt_of_cell? w _ hx3)).trans hx3
          obtain ⟨ad5, e5, hx5⟩ := Kd.at_int (Kd.R_reads' HA.out.2).2.2 (m : Int) (by omega) (by rw [up_length, HWL.out]; omega)
          subst e5
          rw [Int.toNat_natCast, getD_up] at hx5
          have HST := Aside0.mk (markF_step d L P k m)
          have hm65 : m < 65536 := by have := HN.out; omega
          obtain ⟨cs, hcs, _, hcell, _⟩ := HA.out.1
          have hc := (blk_cell (i := m) hcs).trans (hcell m hm65)
          have hf := blk_frozen hcs m
          have hdf := HDF.out m
          have m0 : (0 : Int) ≤ (m : Int) := by omega
          have m1 : (m : Int) < (colsN P : Int) := by omega
          have m2 : (m : Int) < 65536 := by omega
          have HM65 := Aside0.mk hm65
          have HLM := Aside0.mk hlm
          generalize markF d L P k m m = old at hc
          generalize (P.getD k []).getD m 0 = x at hx3 hdf
          generalize (pieceRow d L P n).getD m 0 = y at hx5 hdf
          clear hcs hcell hm65
          by_cases hxy : x = y
          · have h1 : (b2i x != b2i y) = false := by subst hxy; simp
            have HD : Aside0 (diffAt d L P k m = false) := ⟨by rw [hdf]; subst hxy; simp⟩
            clear hxy hdf
            go_wp2
            go_roundw
            case rel => exact ⟨m + 1, by omega, by go_num, ⟨HA.out.1.congr fun a => by rw [HST.out a HLM.out, HD.out]; simp, HA.out.2⟩⟩
            case measure => simp [intOf]; omega
          · have h1 : (b2i x != b2i y) = true := by rw [bne_iff_ne]; exact fun e => hxy (b2i_inj e)
            have HD : Aside0 (diffAt d L P k m = true) := ⟨by rw [hdf, bne_iff_ne]; exact hxy⟩
            clear hxy hdf
            go_wp2
            go_roundw
            case rel => exact ⟨m + 1, by omega, by go_num, ⟨(HA.out.1.set HM65.out).congr fun a => by rw [HST.out a HLM.out, HD.out]; simp, Kd.R_far HA.out.2 (fun q hq => hq) _⟩⟩
            case measure => simp [intOf]; omega
        · obtain rfl : m = colsN P := by omega
          have HM := Aside0.mk (show MarkSt w wr (markF d L P (k + 1) 0) by rw [← markF_next d L P HDK.out]; exact HA.out.1)
          clear HA
          go_wp2
          go_roundw
          case rel => exact ⟨k + 1, by have := HDK.out; omega, by omega, by go_num, HM⟩
          case measure => simp [intOf]; omega
    · obtain rfl : k = (up2 P).length := by omega
      obtain ⟨ad0, A0, c0, e0, hx0, _, _⟩ := at_L1 HR2.out 0 (by omega) (by have := HDP.out; have := HD1.out; omega)
      subst e0
      have hr0 : (rd_L1 (up2 P) 0).length = colsN P := by
        cases P with
        | nil => have := HDP.out; have := HD1.out; simp [up2] at *; omega
        | cons y l => exact up_length y
      rw [show (Int.toNat 0) = 0 from rfl, Addr.add_zero', hr0] at hx0
      replace hx0 := (HBw.out.cell (World.block_lt_of_cell? w _ hx0)).trans hx0
      have p0 : 0 < (up2 P).length := by have := HDP.out; have := HD1.out; omega
      have p1 : (0 : Int) < ((up2 P).length : Int) := by omega
      have hml : markF d L P (up2 P).length 0 = markF d L P P.length 0 := by rw [up2_length]
      rw [hml] at HA
      clear hr0 hml hdk
      go_wp2
      obtain ⟨wo, rfl⟩ : ∃ wo : World, wo = wr := ⟨_, rfl⟩
      go_loopw [12, 52] (fun v12 v52 wi => ∃ m : Nat, m ≤ colsN P ∧ v52 = .int .i64 (m : Int) ∧ Aside0 (MarkSt w wi (markF d L P P.length 0) ∧ Kd.R (Kd.int .i64) 3 wi w.heap.size (fun _ => True) v12 (natInts ((List.range m).filter (markF d L P P.length 0))))) (fun _ v52 _ => colsN P - (intOf v52).toNat)
      case atStart => exact ⟨0, by omega, rfl, ⟨HA.out, Kd.R_nil _ _ _ _ _⟩⟩
      case round =>
        clear HA hx0
        obtain ⟨m, hm, rfl, HA⟩ := hrel
        have HBi : Aside0 (Below w.heap.size w wr) := by obtain ⟨_, _, _, _, h⟩ := HA.out.1; exact ⟨h⟩
        by_cases hlm : m < colsN P
        · have hm65 : m < 65536 := by have := HN.out; omega
          have HSN := Aside0.mk (filter_snoc (markF d L P P.length 0) m)
          have HFL := Aside0.mk (filter_len (markF d L P P.length 0) m)
          obtain ⟨cs, hcs, _, hcell, _⟩ := HA.out.1
          have hc := (blk_cell (i := m) hcs).trans (hcell m hm65)
          have HCS := Aside0.mk hcs
          have m0 : (0 : Int) ≤ (m : Int) := by omega
          have m1 : (m : Int) < (colsN P : Int) := by omega
          have m2 : (m : Int) < 65536 := by omega
          have HM65 := Aside0.mk hm65
          clear hcs hcell hm65
          cases hfm : markF d L P P.length 0 m with
          | false =>
            rw [hfm] at hc
            have HN1 := Aside0.mk (HSN.out.trans (by rw [hfm, if_neg (by simp), List.append_nil]))
            clear hfm
            go_wp2
            go_roundw
            case rel => exact ⟨m + 1, by omega, by go_num, ⟨HA.out.1, by rw [HN1.out]; exact HA.out.2⟩⟩
            case measure => simp [intOf]; omega
          | true =>
            rw [hfm] at hc
            have HN1 := Aside0.mk (HSN.out.trans (by rw [hfm, if_pos rfl]))
            clear hfm
            go_wp2_with (first | (at_builtin; refine Kd.R_append (Kd.int .i64) (w0 := w) w.heap.size rfl (.tmp 58) (.tmp 60) 29 3 (.int .i64 0) 8 rfl Try.underlying29 infoI rfl (by decide) (by decide) u12 (natInts ((List.range m).filter (markF d L P P.length 0))) (m : Int) [.int .i64 (m : Int)] (fun _ => True) (fun _ => False) rfl rfl rfl (fun _ hk => hk.elim) (fun _ _ => trivial) HA.out.2 HBi.out HBi.out.size ?aL ?_; (case aL => have := HFL.out; have := HM65.out; omega); intro v10 w10 ho hb hg hat; rw [← HN1.out] at ho; have HN10 := Aside0.mk ho; have HB10 := Aside0.mk hb; have HM10 : Aside0 (MarkSt w w10 (markF d L P P.length 0)) := ⟨by obtain ⟨cs, h1, h2, h3, h4⟩ := HA.out.1; exact ⟨cs, blk_grown h1 hg (fun e => by obtain ⟨cells, hc⟩ := Kd.R_typed HA.out.2 _ e.symm; rw [h1] at hc; injection hc with hc; injection hc with _ hc; exact absurd hc (by decide)), h2, h3, hb⟩⟩; clear ho hb hg hat))
            go_roundw
            case rel => exact ⟨m + 1, by omega, by go_num, ⟨HM10.out, HN10.out⟩⟩
            case measure => simp [intOf]; omega
        · obtain rfl : m = colsN P := by omega
          have HV := Aside0.mk HA.out.2
          clear HA
          obtain ⟨Av, cv, rfl⟩ := Kd.R_slice HV.out
          go_wp2
          go_ret
          exact ⟨_, rfl, HV.out, HBi.out⟩
end Go.Proofs.Ytpkghpljgjlmjaa.K
/- reedsolomon.spoiled: its contract. -/
namespace Go.Proofs.Ytpkghpljgjlmjaa.K
open Go.RowKit Go.Proofs.YtpkghpljgjlmjaaW.PrintWords Go.Proofs.YtpkghpljgjlmjaaW.PrintLast Go.Proofs.YtpkghpljgjlmjaaW.PrintMore Kin
set_option linter.unusedSimpArgs false
set_option linter.unusedVariables false
instance (d : Nat) (L : List Int) (P : List (List B)) : Decidable (spOk d L P) := by unfold spOk; infer_instance
def reedsolomon_spoiled.f (a0 : Int) (l1 : List Int) (l2 : List (List Int)) : Option (List Int) :=
  if bytes2 l2 = true ∧ 0 ≤ a0 ∧ spOk a0.toNat l1 (toB2 l2) then some (natInts (spoiledL a0.toNat l1 (toB2 l2))) else none
theorem spoiled_up {d : Nat} {L : List Int} {P : List (List B)} (h : spOk d L P) : reedsolomon_spoiled.f (d : Int) L (up2 P) = some (natInts (spoiledL d L P)) := by
  unfold reedsolomon_spoiled.f
  rw [toB2_up2, Int.toNat_natCast, if_pos ⟨bytes2_up2 P, by omega, h⟩]
theorem reedsolomon_spoiled.calls (a0 : Int) (A1 : Option Addr) (c1 : Nat) (l1 : List Int) (A2 : Option Addr) (c2 : Nat) (l2 : List (List Int)) (r : List Int) (w : World) (hr1 : Kd.C (Kd.int .i64) w A1 l1.length l1) (hc1 : l1.length ≤ c1) (hr2 : Kd.C (Kd.slice 5 (Kd.int .u8)) w A2 l2.length l2) (hc2 : l2.length ≤ c2) (h : reedsolomon_spoiled.f a0 l1 l2 = some r) :
    Calls Try.prog 75 #[.int .i64 a0, .slice A1 l1.length c1, .slice A2 l2.length c2] w fun e w' => ∃ v0_ : Value, e = .returned (v0_) ∧ Kd.R (Kd.int .i64) 3 w' w.heap.size (fun _ => True) v0_ r ∧ Below w.heap.size w w' := by
  unfold reedsolomon_spoiled.f at h
  split at h
  · rename_i ho
    obtain ⟨h1, h2, h3⟩ := ho
    obtain ⟨P, rfl⟩ := exists_bytes2 h1
    obtain ⟨d, rfl⟩ := Int.eq_ofNat_of_zero_le h2
    rw [toB2_up2, Int.toNat_natCast] at h3
    rw [toB2_up2, Int.toNat_natCast] at h
    obtain rfl := Option.some.inj h
    exact spoiled_calls d l1 P A1 c1 A2 c2 w h3 hr1 hc1 hr2 hc2
  · cases h
end Go.Proofs.Ytpkghpljgjlmjaa.K
