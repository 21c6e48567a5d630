/- Walks and plain facts behind the laws of package matrix. No conditions. -/
import Derived.Test.YtpkghpljgjlmjaaB3
import Derived.Deep.Matrix
/- few, Valid and Cols of the law and the reference, plain. -/
namespace Go.Proofs.Ytpkghpljgjlmjaa.K
open Go.RowKit Go.Proofs.YtpkghpljgjlmjaaW.PrintWords Go.Proofs.YtpkghpljgjlmjaaW.PrintLast Go.Proofs.YtpkghpljgjlmjaaW.PrintMore Kin
set_option linter.unusedVariables false
theorem wrap_nx' (i : Nat) (h : i < 9223372036854775807) : wrap64 ((i : Int) + 1) = ((i + 1 : Nat) : Int) := by rw [wrap_small _ (by omega) (by omega)]; rfl
/-- At most n rows, each of at most n elements. -/
def fewB {α : Type} (l : List (List α)) (n : Nat) : Bool := l.all (fun r => decide (r.length ≤ n)) && decide (l.length ≤ n)
theorem getD_nil_of {α : Type} {l : List (List α)} {i : Nat} (h : i < l.length) : l.getD i [] = l[i] := by
  rw [List.getD_eq_getElem?_getD, List.getElem?_eq_getElem h]; rfl
theorem few_l0 (l : List (List Int)) (n : Nat) (hl : l.length ≤ 9223372036854775807) (m : Nat) : ∀ (k i : Nat), i + m = l.length → m < k → (∀ j, j < i → (l.getD j []).length ≤ n) → kinkeeplaw04_few.l0 k l (n : Int) (i : Int) = some (fewB l n) := by
  induction m with
  | zero =>
    intro k i hi hk hj
    obtain ⟨k, rfl⟩ : ∃ j, k = j + 1 := ⟨k - 1, by omega⟩
    simp only [kinkeeplaw04_few.l0]
    rw [if_neg (by omega)]
    have : l.all (fun r => decide (r.length ≤ n)) = true := by
      rw [List.all_eq_true]
      intro r hr
      obtain ⟨j, hj1, rfl⟩ := List.mem_iff_getElem.1 hr
      have := hj j (by omega)
      rw [getD_nil_of hj1] at this
      simpa using this
    unfold fewB
    rw [this, Bool.true_and]
    congr 1
    simp
  | succ m ih =>
    intro k i hi hk hj
    obtain ⟨k, rfl⟩ : ∃ j, k = j + 1 := ⟨k - 1, by omega⟩
    simp only [kinkeeplaw04_few.l0]
    rw [if_pos (by omega), if_pos (by omega), show rd_L1 l (i : Int) = l.getD i [] from rfl]
    by_cases hx : (l.getD i []).length ≤ n
    · rw [if_neg (by omega), wrap_nx' _ (by omega)]
      refine ih k (i + 1) (by omega) (by omega) (fun j h => ?_)
      by_cases e : j = i
      · subst e; exact hx
      · exact hj j (by omega)
    · rw [if_pos (by omega)]
      have hil : i < l.length := by omega
      have : l.all (fun r => decide (r.length ≤ n)) = false := by
        rw [List.all_eq_false]
        refine ⟨l[i], List.getElem_mem hil, ?_⟩
        rw [getD_nil_of hil] at hx
        simpa using hx
      unfold fewB
      rw [this]
      rfl
theorem few_b (l : List (List Int)) (n : Nat) (hl : l.length ≤ 9223372036854775807) {k : Nat} (hk : l.length < k) : kinkeeplaw04_few.f k l (n : Int) = some (fewB l n) :=
  few_l0 l n hl l.length k 0 (by omega) hk (fun j h => absurd h (by omega))
theorem fewB_true {α : Type} {l : List (List α)} {n : Nat} (h : fewB l n = true) : l.length ≤ n ∧ ∀ r ∈ l, r.length ≤ n := by
  simp only [fewB, Bool.and_eq_true, decide_eq_true_eq, List.all_eq_true] at h
  exact ⟨h.2, h.1⟩
theorem colsN_eq_getD {α : Type} (l : List (List α)) : colsN l = (l.getD 0 []).length := by
  cases l <;> rfl
theorem validB_of {α : Type} {l : List (List α)} (h1 : l.length ≤ 64) (h2 : ∀ j, j < l.length → (l.getD j []).length = colsN l ∧ (l.getD j []).length ≤ 64) : validB l = true := by
  simp only [validB, Bool.and_eq_true, decide_eq_true_eq, List.all_eq_true]
  refine ⟨h1, ?_, fun r hr => ?_⟩
  · cases l with
    | nil => exact Nat.zero_le _
    | cons a t =>
      have := h2 0 (by simp)
      omega
  · obtain ⟨j, hj1, rfl⟩ := List.mem_iff_getElem.1 hr
    have := h2 j hj1
    rw [getD_nil_of hj1] at this
    exact this.1
theorem validB_not {α : Type} {l : List (List α)} {j : Nat} (hj : j < l.length) (h : ¬ ((l.getD j []).length = colsN l ∧ (l.getD j []).length ≤ 64)) : validB l = false := by
  cases hv : validB l with
  | false => rfl
  | true =>
    exfalso
    obtain ⟨h1, h2, h3⟩ := validB_lim hv
    have := h3 _ (List.getElem_mem hj)
    rw [getD_nil_of hj] at h
    omega
theorem refvalid_l0 (l : List (List Int)) (hl : l.length ≤ 64) (m : Nat) : ∀ (k i : Nat), i + m = l.length → m < k → (∀ j, j < i → (l.getD j []).length = colsN l ∧ (l.getD j []).length ≤ 64) → kinkeepref04_Valid.l0 k l (i : Int) = some (validB l) := by
  induction m with
  | zero =>
    intro k i hi hk hj
    obtain ⟨k, rfl⟩ : ∃ j, k = j + 1 := ⟨k - 1, by omega⟩
    simp only [kinkeepref04_Valid.l0]
    rw [if_neg (by omega), validB_of hl (fun j h => hj j (by omega))]
  | succ m ih =>
    intro k i hi hk hj
    obtain ⟨k, rfl⟩ : ∃ j, k = j + 1 := ⟨k - 1, by omega⟩
    simp only [kinkeepref04_Valid.l0]
    rw [if_pos (by omega), if_pos (by omega), if_pos (by omega), show rd_L1 l (i : Int) = l.getD i [] from rfl, show rd_L1 l 0 = l.getD 0 [] from rfl, ← colsN_eq_getD]
    by_cases hx : (l.getD i []).length = colsN l
    · rw [if_pos (by omega)]
      by_cases hy : (l.getD i []).length ≤ 64
      · rw [if_neg (by omega), wrap_nx' _ (by omega)]
        refine ih k (i + 1) (by omega) (by omega) (fun j h => ?_)
        by_cases e : j = i
        · subst e; exact ⟨hx, hy⟩
        · exact hj j (by omega)
      · rw [if_pos (by omega), validB_not (by omega) (fun h => hy h.2)]
    · rw [if_neg (by omega), validB_not (by omega) (fun h => hx h.1)]
theorem refvalid_b (l : List (List Int)) {k : Nat} (hk : 66 ≤ k) : kinkeepref04_Valid.f k l = some (validB l) := by
  unfold kinkeepref04_Valid.f
  by_cases hl : l.length ≤ 64
  · rw [if_neg (by omega)]
    exact refvalid_l0 l hl l.length k 0 (by omega) (by omega) (fun j h => absurd h (by omega))
  · rw [if_pos (by omega)]
    simp [validB, hl]
theorem refcols_b (l : List (List Int)) : kinkeepref04_Cols.f l = some (colsN l : Int) := by
  unfold kinkeepref04_Cols.f
  cases l with
  | nil => rfl
  | cons a t =>
    rw [if_neg (by rw [List.length_cons]; omega), if_pos (by rw [List.length_cons]; omega)]
    rfl
end Go.Proofs.Ytpkghpljgjlmjaa.K
/- An argument that is a list of lists of bytes, opened. -/
namespace Go.Proofs.Ytpkghpljgjlmjaa.K
open Go.RowKit Go.Proofs.YtpkghpljgjlmjaaW.PrintWords Go.Proofs.YtpkghpljgjlmjaaW.PrintLast Go.Proofs.YtpkghpljgjlmjaaW.PrintMore
set_option linter.unusedVariables false
theorem rows_of_trod {H : Type} {enc : TypeId × Value → H} {W : World} {a : Option Addr} {len cap : Nat} {d : DataW H} {p : List MemPlace} (h : DataW.Trod enc Try.prog W 0 (fun _ => true) true 22 (.slice a len cap) d p) :
    ∃ zs : List (List Int), len = zs.length ∧ zs.length ≤ cap ∧ Kd.C (Kd.slice 5 (Kd.int .u8)) W a zs.length zs ∧ bytes2 zs = true := by
  obtain ⟨fuel, hf⟩ := h
  rcases Go.Deep.open_int_rows Try.underlying22 Try.underlying34 Try.underlying5 (by kernel_rfl) (by kernel_rfl) hf with ⟨hcs, _⟩ | ⟨x, l, c, A, L, C, Z, hcs, _, hl, hm, _, hcell⟩
  · simp [Value.cells] at hcs
    obtain ⟨rfl, rfl, rfl⟩ := hcs
    exact ⟨[], rfl, Nat.zero_le _, ⟨rfl, by decide, fun hp => absurd hp (by decide)⟩, rfl⟩
  · simp [Value.cells] at hcs
    obtain ⟨rfl, rfl, rfl⟩ := hcs
    have hm' : len ≤ 9223372036854775807 := by
      have : cap ≤ 9223372036854775807 := hm
      omega
    have hlen : ((List.range len).map fun r => (Z r).take (L r)).length = len := by simp
    refine ⟨(List.range len).map fun r => (Z r).take (L r), by rw [hlen], by rw [hlen]; exact hl, ⟨rfl, by rw [hlen]; exact hm', fun hp => ⟨x, rfl, fun j q hj => ?_⟩⟩, ?_⟩
    · have hjl : j < len := by
        have := (List.getElem?_eq_some_iff.1 hj).1
        rwa [hlen] at this
      have hq : q = (Z j).take (L j) := by
        rw [List.getElem?_map, List.getElem?_range hjl] at hj
        simpa using hj.symm
      subst hq
      obtain ⟨h1, h2, h3, h4, h5, h6, h7⟩ := hcell j (by omega)
      have hql : ((Z j).take (L j)).length = L j := by rw [List.length_take]; omega
      refine ⟨[.slice (A j) ((Z j).take (L j)).length (C j)], rfl, ⟨A j, C j, rfl, by rw [hql]; exact h2, ⟨rfl, by rw [hql]; have : C j ≤ 9223372036854775807 := h3; omega, fun hp2 => ?_⟩⟩, fun i u hi => ?_⟩
      · rw [hql] at hp2
        cases ha : A j with
        | none => rw [h6 ha] at h2; omega
        | some a' =>
          refine ⟨a', rfl, fun i y hi => ?_⟩
          have hil : i < L j := by
            have := (List.getElem?_eq_some_iff.1 hi).1
            rwa [hql] at this
          have hy : y = (Z j).getD i 0 := by
            rw [List.getElem?_take_of_lt hil] at hi
            rw [List.getD_eq_getElem?_getD, hi]; rfl
          subst hy
          refine ⟨[.int .u8 ((Z j).getD i 0)], rfl, rfl, fun k u hk => ?_⟩
          cases k with
          | zero =>
            simp only [List.getElem?_cons_zero, Option.some.injEq] at hk
            subst hk
            have := (h7 a' ha).2 i (by omega)
            rw [show i * (Kd.int .u8).sz + 0 = i from by show i * 1 + 0 = i; omega]
            exact this
          | succ k => simp at hk
      · cases i with
        | zero =>
          simp only [List.getElem?_cons_zero, Option.some.injEq] at hi
          subst hi
          rw [show j * (Kd.slice 5 (Kd.int .u8)).sz + 0 = j from by show j * 1 + 0 = j; omega, hql]
          exact h1
        | succ i => simp at hi
    · unfold bytes2
      rw [List.all_eq_true]
      intro q hq
      obtain ⟨r, hr, rfl⟩ := List.mem_map.1 hq
      rw [List.mem_range] at hr
      rw [List.all_eq_true]
      intro y hy
      obtain ⟨_, _, _, _, h5, _, _⟩ := hcell r (by omega)
      exact isB_of_wf (h5 y (List.mem_of_mem_take hy))
end Go.Proofs.Ytpkghpljgjlmjaa.K
