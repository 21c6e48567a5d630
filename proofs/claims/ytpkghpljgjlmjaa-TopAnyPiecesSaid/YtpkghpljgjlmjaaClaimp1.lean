/- Walks and plain facts behind the laws of package matrix. No conditions. -/
import Derived.Test.YtpkghpljgjlmjaaB3
import Derived.Test.YtpkghpljgjlmjaaU2
import Derived.Laws.BitsAllLaws
import Derived.Deep.Matrix
import Derived.ProofKit
import Derived.ShutString
import Derived.ChangeOld
import Derived.SizedLaws
import Derived.OpenShut
import Derived.Maps.Own
import Derived.Maps.OwnOps
import Derived.Maps.Views
import Derived.Outline
/- The printed functions of the field (Add, double, Mul, raise, Inv) compute what Gf.lean defines. -/
namespace Go.Proofs.Ytpkghpljgjlmjaa.K
open Go.RowKit Go.Proofs.YtpkghpljgjlmjaaW.PrintWords Kin
set_option linter.unusedSimpArgs false
set_option linter.unusedVariables false
theorem isB_of_wf {x : Int} (h : (Lit.int .u8 x).wf = true) : isB x = true := by
  have : 0 ≤ x ∧ x ≤ 255 := by
    simp [Lit.wf, IntKind.min, IntKind.max, IntKind.signed, IntKind.bits] at h
    omega
  simp [isB]; omega
end Go.Proofs.Ytpkghpljgjlmjaa.K
/- Sums and determinants over the field of 256 elements, matrices as functions. No program in sight. -/
namespace Kin
set_option linter.unusedSimpArgs false
set_option linter.unusedVariables false
theorem bsum_swap (n m : Nat) (f : Nat → Nat → B) : bsum n (fun i => bsum m (fun j => f i j)) = bsum m (fun j => bsum n (fun i => f i j)) := by
  induction n with
  | zero => simp only [bsum]; rw [bsum_zero]; intro j _; rfl
  | succ n ih => simp only [bsum]; rw [ih, bsum_add]
end Kin
-- Lines of this claim, written by the session's own program kprint.py (it runs print.py).
namespace Go.Proofs.Ytpkghpljgjlmjaa.K
open Go.RowKit Go.Proofs.YtpkghpljgjlmjaaW.PrintWords Go.Proofs.YtpkghpljgjlmjaaW.PrintLast Go.Proofs.YtpkghpljgjlmjaaW.PrintMore
attribute [local go_sem] max2_int min2_int max_two min_two max_three min_three max_four min_four   -- for this text's walks alone
set_option linter.unusedVariables false
set_option linter.unusedSimpArgs false
/-! ### kinkeeptop_a04Same: function 44 -/
def kinkeeptop_a04Same.l0 : Nat → List (List Int) → List (List Int) → Int → Int → Option (Bool)
  | 0, _, _, _, _ => none
  | k + 1, x0, x1, x12, x13 => if x13 < x12 then (if 0 ≤ x13 then (if x13 < (x0.length : Int) then (if x13 < (x1.length : Int) then (if (strOfNums (rd_L1 x0 x13)).toList = (strOfNums (rd_L1 x1 x13)).toList then (kinkeeptop_a04Same.l0 k x0 x1 x12 (wrap64 (x13 + 1))) else (some false)) else (none)) else (none)) else (none)) else (some true)
def kinkeeptop_a04Same.f (k : Nat) (l0 : List (List Int)) (l1 : List (List Int)) : Option (Bool) := if (l0.length : Int) = (l1.length : Int) then (kinkeeptop_a04Same.l0 k l0 l1 (l0.length : Int) 0) else (some false)
set_option maxHeartbeats 8000000 in
set_option maxRecDepth 100000 in
theorem kinkeeptop_a04Same.calls (k : Nat) (A0 : Option Addr) (c0 : Nat) (l0 : List (List Int)) (A1 : Option Addr) (c1 : Nat) (l1 : List (List Int)) (r : Bool) (w : World) (hr0 : Kd.C (Kd.slice 5 (Kd.int .u8)) w A0 l0.length l0) (hc0 : l0.length ≤ c0) (hr1 : Kd.C (Kd.slice 5 (Kd.int .u8)) w A1 l1.length l1) (hc1 : l1.length ≤ c1) (h : kinkeeptop_a04Same.f k l0 l1 = some r) :
    Calls Try.prog 44 #[.slice A0 l0.length c0, .slice A1 l1.length c1] w fun e w' => e = .returned (.bool r) ∧ Drawn0 w w' := by
  have HR0 := Aside0.mk hr0
  have HC0 := Aside0.mk hc0
  clear hr0 hc0
  have HR1 := Aside0.mk hr1
  have HC1 := Aside0.mk hc1
  clear hr1 hc1
  have H : (if (l0.length : Int) = (l1.length : Int) then (kinkeeptop_a04Same.l0 k l0 l1 (l0.length : Int) 0) else (some false)) = some r := h
  clear h
  by_cases c3 : (l0.length : Int) = (l1.length : Int)
  · rw [if_pos c3] at H
    have c3b0 : ((l0.length : Int) == (l1.length : Int)) = true := beq_iff_eq.mpr c3
    have c3b1 : ((l0.length : Int) != (l1.length : Int)) = false := bne_eq_false_iff_eq.mpr c3
    have c3b2 : (l0.length == l1.length) = true := by first | simpa using c3 | (simp at c3 ⊢; omega)
    clear c3
    have H' := Aside0.mk H
    clear H
    go_enter Try.func44, Try.ntmps44
    go_wp2
    repeat (go_quiet (fail); try go_wp2)
    go_loopg [13] k (fun kq v13 w' => ∃ (x13_1 : Int), v13 = .int .i64 x13_1 ∧ Aside0 (kinkeeptop_a04Same.l0 kq l0 l1 (l0.length : Int) x13_1 = some r) ∧ Aside0 (kq ≤ k) ∧ Drawn0 w w')
    case atStart => exact ⟨(0), (by first | rfl | (simp; done) | (simp [*]; done)), H', ⟨Nat.le_refl _⟩, by repeat (first | exact Drawn0.refl _ | apply Drawn0.step)⟩
    case round =>
      clear H'; (try clear c1); (try clear p2); (try clear c3); (try clear c3b0); (try clear c3b1); (try clear c3b2)
      obtain ⟨x13_1, rfl, HA, HK1, ⟨m1, rfl⟩⟩ := hrel
      cases gk with
      | zero => exact absurd HA.out (by simp [kinkeeptop_a04Same.l0])
      | succ k1 =>
        have H := HA.out
        clear HA
        simp only [kinkeeptop_a04Same.l0] at H
        by_cases c4 : x13_1 < (l0.length : Int)
        · rw [if_pos c4] at H
          have c4b0 : decide (x13_1 < (l0.length : Int)) = true := decide_eq_true c4
          clear c4
          by_cases c5 : 0 ≤ x13_1
          · rw [if_pos c5] at H
            have c5b0 : decide (0 ≤ x13_1) = true := decide_eq_true c5
            clear c5
            by_cases c6 : x13_1 < (l0.length : Int)
            · rw [if_pos c6] at H
              have c6b0 : decide (x13_1 < (l0.length : Int)) = true := decide_eq_true c6
              clear c6
              by_cases c7 : x13_1 < (l1.length : Int)
              · rw [if_pos c7] at H
                have c7b0 : decide (x13_1 < (l1.length : Int)) = true := decide_eq_true c7
                clear c7
                by_cases c8 : (strOfNums (rd_L1 l0 x13_1)).toList = (strOfNums (rd_L1 l1 x13_1)).toList
                · rw [if_pos c8] at H
                  have c8b0 : ((strOfNums (rd_L1 l0 x13_1)).toList == (strOfNums (rd_L1 l1 x13_1)).toList) = true := beq_iff_eq.mpr c8
                  have c8b1 : ((strOfNums (rd_L1 l0 x13_1)).toList != (strOfNums (rd_L1 l1 x13_1)).toList) = false := bne_eq_false_iff_eq.mpr c8
                  clear c8
                  have H' := Aside0.mk H
                  clear H
                  have p224 : 0 ≤ (x13_1 : Int) := of_decide_eq_true (by first | (with_reducible assumption) | assumption)
                  have q224 : x13_1 < (l0.length : Int) := of_decide_eq_true (by first | (with_reducible assumption) | assumption)
                  obtain ⟨ad224, A224_0, c224_0, e224, hx224_0, hl224_0, hi224_0⟩ := at_L1 HR0.out x13_1 p224 q224
                  cases e224
                  have HR224_0 := Aside0.mk hi224_0
                  have HC224_0 := Aside0.mk hl224_0
                  clear hi224_0 hl224_0
                  replace p224 := eq_true p224
                  replace q224 := eq_true q224
                  have hcv9 := Kd.C_string (P := Try.prog) (A := A224_0) (c := c224_0) Try.underlying34 Try.underlying5 Try.underlying9 HR224_0.out
                  have hcv9d := fun n_ => Kd.C_string (P := Try.prog) (A := A224_0) (c := c224_0) Try.underlying34 Try.underlying5 Try.underlying9 (Kd.C_drewN HR224_0.out n_)
                  have hcv9e := fun n_ m_ => Kd.C_string (P := Try.prog) (A := A224_0) (c := c224_0) Try.underlying34 Try.underlying5 Try.underlying9 (Kd.C_drewN (Kd.C_drewN HR224_0.out n_) m_)
                  have p225 : 0 ≤ (x13_1 : Int) := of_decide_eq_true (by first | (with_reducible assumption) | assumption)
                  have q225 : x13_1 < (l1.length : Int) := of_decide_eq_true (by first | (with_reducible assumption) | assumption)
                  obtain ⟨ad225, A225_0, c225_0, e225, hx225_0, hl225_0, hi225_0⟩ := at_L1 HR1.out x13_1 p225 q225
                  cases e225
                  have HR225_0 := Aside0.mk hi225_0
                  have HC225_0 := Aside0.mk hl225_0
                  clear hi225_0 hl225_0
                  replace p225 := eq_true p225
                  replace q225 := eq_true q225
                  have hcv10 := Kd.C_string (P := Try.prog) (A := A225_0) (c := c225_0) Try.underlying34 Try.underlying5 Try.underlying9 HR225_0.out
                  have hcv10d := fun n_ => Kd.C_string (P := Try.prog) (A := A225_0) (c := c225_0) Try.underlying34 Try.underlying5 Try.underlying9 (Kd.C_drewN HR225_0.out n_)
                  have hcv10e := fun n_ m_ => Kd.C_string (P := Try.prog) (A := A225_0) (c := c225_0) Try.underlying34 Try.underlying5 Try.underlying9 (Kd.C_drewN (Kd.C_drewN HR225_0.out n_) m_)
                  go_wp2
                  repeat (go_quiet (fail); try go_wp2)
                  go_roundg k1
                  case measure => have := HK1.out; omega
                  case rel => exact ⟨(wrap64 (x13_1 + 1)), (by first | rfl | (simp; done) | (simp [*]; done)), H', ⟨by have := HK1.out; omega⟩, by repeat (first | exact Drawn0.refl _ | apply Drawn0.step)⟩
                · rw [if_neg c8] at H
                  have c8b0 : ((strOfNums (rd_L1 l0 x13_1)).toList == (strOfNums (rd_L1 l1 x13_1)).toList) = false := beq_eq_false_iff_ne.mpr c8
                  have c8b1 : ((strOfNums (rd_L1 l0 x13_1)).toList != (strOfNums (rd_L1 l1 x13_1)).toList) = true := bne_iff_ne.mpr c8
                  obtain rfl := Option.some.inj H
                  have p224 : 0 ≤ (x13_1 : Int) := of_decide_eq_true (by first | (with_reducible assumption) | assumption)
                  have q224 : x13_1 < (l0.length : Int) := of_decide_eq_true (by first | (with_reducible assumption) | assumption)
                  obtain ⟨ad224, A224_0, c224_0, e224, hx224_0, hl224_0, hi224_0⟩ := at_L1 HR0.out x13_1 p224 q224
                  cases e224
                  have HR224_0 := Aside0.mk hi224_0
                  have HC224_0 := Aside0.mk hl224_0
                  clear hi224_0 hl224_0
                  replace p224 := eq_true p224
                  replace q224 := eq_true q224
                  have hcv11 := Kd.C_string (P := Try.prog) (A := A224_0) (c := c224_0) Try.underlying34 Try.underlying5 Try.underlying9 HR224_0.out
                  have hcv11d := fun n_ => Kd.C_string (P := Try.prog) (A := A224_0) (c := c224_0) Try.underlying34 Try.underlying5 Try.underlying9 (Kd.C_drewN HR224_0.out n_)
                  have hcv11e := fun n_ m_ => Kd.C_string (P := Try.prog) (A := A224_0) (c := c224_0) Try.underlying34 Try.underlying5 Try.underlying9 (Kd.C_drewN (Kd.C_drewN HR224_0.out n_) m_)
                  have p225 : 0 ≤ (x13_1 : Int) := of_decide_eq_true (by first | (with_reducible assumption) | assumption)
                  have q225 : x13_1 < (l1.length : Int) := of_decide_eq_true (by first | (with_reducible assumption) | assumption)
                  obtain ⟨ad225, A225_0, c225_0, e225, hx225_0, hl225_0, hi225_0⟩ := at_L1 HR1.out x13_1 p225 q225
                  cases e225
                  have HR225_0 := Aside0.mk hi225_0
                  have HC225_0 := Aside0.mk hl225_0
                  clear hi225_0 hl225_0
                  replace p225 := eq_true p225
                  replace q225 := eq_true q225
                  have hcv12 := Kd.C_string (P := Try.prog) (A := A225_0) (c := c225_0) Try.underlying34 Try.underlying5 Try.underlying9 HR225_0.out
                  have hcv12d := fun n_ => Kd.C_string (P := Try.prog) (A := A225_0) (c := c225_0) Try.underlying34 Try.underlying5 Try.underlying9 (Kd.C_drewN HR225_0.out n_)
                  have hcv12e := fun n_ m_ => Kd.C_string (P := Try.prog) (A := A225_0) (c := c225_0) Try.underlying34 Try.underlying5 Try.underlying9 (Kd.C_drewN (Kd.C_drewN HR225_0.out n_) m_)
                  go_wp2
                  repeat (go_quiet (fail); try go_wp2)
                  go_ret
                  exact ⟨by first | rfl | (simp; done) | (simp [*]; done), by repeat (first | exact Drawn0.refl _ | apply Drawn0.step)⟩
              · rw [if_neg c7] at H
                exact absurd H (by simp)
            · rw [if_neg c6] at H
              exact absurd H (by simp)
          · rw [if_neg c5] at H
            exact absurd H (by simp)
        · rw [if_neg c4] at H
          have c4b0 : decide (x13_1 < (l0.length : Int)) = false := decide_eq_false c4
          clear c4
          obtain rfl := Option.some.inj H
          go_wp2
          repeat (go_quiet (fail); try go_wp2)
          go_ret
          exact ⟨by first | rfl | (simp; done) | (simp [*]; done), by repeat (first | exact Drawn0.refl _ | apply Drawn0.step)⟩
  · rw [if_neg c3] at H
    have c3b0 : ((l0.length : Int) == (l1.length : Int)) = false := beq_eq_false_iff_ne.mpr c3
    have c3b1 : ((l0.length : Int) != (l1.length : Int)) = true := bne_iff_ne.mpr c3
    have c3b2 : (l0.length == l1.length) = false := by first | simpa using c3 | (simp at c3 ⊢; omega)
    obtain rfl := Option.some.inj H
    go_enter Try.func44, Try.ntmps44
    go_wp2
    repeat (go_quiet (fail); try go_wp2)
    go_ret
    exact ⟨by first | rfl | (simp; done) | (simp [*]; done), by repeat (first | exact Drawn0.refl _ | apply Drawn0.step)⟩
end Go.Proofs.Ytpkghpljgjlmjaa.K
/- reedsolomon.Row: the coefficients of a piece. -/
namespace Go.Proofs.Ytpkghpljgjlmjaa.K
open Go.RowKit Go.Proofs.YtpkghpljgjlmjaaW.PrintWords Go.Proofs.YtpkghpljgjlmjaaW.PrintLast Go.Proofs.YtpkghpljgjlmjaaW.PrintMore Kin
set_option linter.unusedSimpArgs false
set_option linter.unusedVariables false
def reedsolomon_Row.f (a0 a1 a2 : Int) : Option (List Int × Int) :=
  if (1 ≤ a0 ∧ a0 ≤ 8 ∧ a0 ≤ a1 ∧ a1 ≤ 16) ∧ 0 ≤ a2 ∧ a2 < a1 then some (up (coefRow a0.toNat a0.toNat a2.toNat), 0) else some ([], 1)
set_option maxRecDepth 100000 in
set_option maxHeartbeats 2000000 in
theorem reedsolomon_Row.calls (a0 a1 a2 : Int) (r1 : List Int) (r2 : Int) (w : World) (h : reedsolomon_Row.f a0 a1 a2 = some (r1, r2)) :
    Calls Try.prog 40 #[.int .i64 a0, .int .i64 a1, .int .i64 a2] w fun e w' => ∃ v0_ : Value, e = .returned (.tuple #[v0_, .int .i64 r2]) ∧ Kd.R (Kd.int .u8) 5 w' w.heap.size (fun _ => True) v0_ r1 ∧ Below w.heap.size w w' := by
  unfold reedsolomon_Row.f at h
  by_cases hv : 1 ≤ a0 ∧ a0 ≤ 8 ∧ a0 ≤ a1 ∧ a1 ≤ 16
  · have HV := Aside0.mk (show reedsolomon_Valid.f a0 a1 = some true by rw [rsvalid_eq, decide_eq_true hv])
    by_cases hi : 0 ≤ a2 ∧ a2 < a1
    · rw [if_pos ⟨hv, hi⟩] at h
      simp only [Option.some.injEq, Prod.mk.injEq] at h
      obtain ⟨rfl, rfl⟩ := h
      obtain ⟨h1, h2, h3, h4⟩ := hv
      obtain ⟨i1, i2⟩ := hi
      obtain ⟨d, rfl⟩ := Int.eq_ofNat_of_zero_le (show 0 ≤ a0 by omega)
      obtain ⟨t, rfl⟩ := Int.eq_ofNat_of_zero_le (show 0 ≤ a1 by omega)
      obtain ⟨i, rfl⟩ := Int.eq_ofNat_of_zero_le i1
      rw [Int.toNat_natCast, Int.toNat_natCast]
      have hd1 : 1 ≤ d := by omega
      have hd : d ≤ 8 := by omega
      have hi16 : i < 16 := by omega
      have k0 : decide ((i : Int) < 0) = false := by rw [decide_eq_false_iff_not]; omega
      have k1 : decide ((t : Int) ≤ (i : Int)) = false := by rw [decide_eq_false_iff_not]; omega
      have k2 : decide (t ≤ i) = false := by rw [decide_eq_false_iff_not]; omega
      have k3 : (i : Int) < 16 := by omega
      have k4 : (d : Int) ≤ 8 := by omega
      clear h1 h2 h3 h4 i1 i2
      go_enter Try.func40, Try.ntmps40
      go_wp2_with (first | (go_at_call 37; (with_reducible refine (reedsolomon_Valid.calls _ _ true _ HV.out).mono ?_); rintro e w1 ⟨rfl, ⟨n1, rfl⟩⟩) | (go_at_call 70; (with_reducible refine (coefficients_calls d hd1 hd _).mono ?_); rintro e w2 ⟨cs, rfl, hcs, hb⟩; have hst := hcs.store (w := w2.alloc (.cells Try.zeroCells86 86 (0, 0))) (g := w2.heap.size) (heap_alloc_new _ _) (by kernel_rfl); have hsz := hcs.1; have HCS := Aside0.mk hcs; have HB2 := Aside0.mk hb; clear hcs hb) | (go_at_call 63; (with_reducible refine (clone_row HCS.out _ hd hi16 (setRow_heap _ _ _ _ _ _ (heap_alloc_new _ _))).mono ?_); rintro e w4 ⟨v4, rfl, hv4, hb4⟩; have HV4 := Aside0.mk hv4; have HB4 := Aside0.mk hb4; clear hv4 hb4))
      go_ret2
      have hs : w.heap.size ≤ w2.heap.size := HB2.out.size
      have b3 : Below w.heap.size w ((w2.alloc (.cells Try.zeroCells86 86 (0, 0))).setRow w2.heap.size cs) := below_setRow (below_alloc ((pw_below_drewN (Below.refl _ _) n1).trans HB2.out) _) hs _
      exact ⟨_, rfl, Kd.R_lower HV4.out b3.size, b3.trans (HB4.out.mono b3.size)⟩
    · rw [if_neg (fun e => hi e.2)] at h
      simp only [Option.some.injEq, Prod.mk.injEq] at h
      obtain ⟨rfl, rfl⟩ := h
      by_cases h0 : a2 < 0
      · have k0 : decide (a2 < 0) = true := decide_eq_true h0
        clear hi hv h0
        go_enter Try.func40, Try.ntmps40
        go_wp2_with (first | (go_at_call 37; (with_reducible refine (reedsolomon_Valid.calls _ _ true _ HV.out).mono ?_); rintro e w1 ⟨rfl, ⟨n1, rfl⟩⟩))
        go_ret2
        exact ⟨_, rfl, Kd.R_nil _ _ _ _ _, pw_below_drewN (Below.refl _ _) _⟩
      · have k0 : decide (a2 < 0) = false := decide_eq_false h0
        have k1 : decide (a1 ≤ a2) = true := decide_eq_true (by omega)
        clear hi hv h0
        go_enter Try.func40, Try.ntmps40
        go_wp2_with (first | (go_at_call 37; (with_reducible refine (reedsolomon_Valid.calls _ _ true _ HV.out).mono ?_); rintro e w1 ⟨rfl, ⟨n1, rfl⟩⟩))
        go_ret2
        exact ⟨_, rfl, Kd.R_nil _ _ _ _ _, pw_below_drewN (Below.refl _ _) _⟩
  · have HV := Aside0.mk (show reedsolomon_Valid.f a0 a1 = some false by rw [rsvalid_eq, decide_eq_false hv])
    rw [if_neg (fun e => hv e.1)] at h
    simp only [Option.some.injEq, Prod.mk.injEq] at h
    obtain ⟨rfl, rfl⟩ := h
    clear hv
    go_enter Try.func40, Try.ntmps40
    go_wp2_with (first | (go_at_call 37; (with_reducible refine (reedsolomon_Valid.calls _ _ false _ HV.out).mono ?_); rintro e w1 ⟨rfl, ⟨n1, rfl⟩⟩))
    go_ret2
    exact ⟨_, rfl, Kd.R_nil _ _ _ _ _, pw_below_drewN (Below.refl _ _) _⟩
end Go.Proofs.Ytpkghpljgjlmjaa.K
/- Reduce and Rank of package matrix: walks. -/
namespace Go.Proofs.Ytpkghpljgjlmjaa.K
open Go.RowKit Go.Proofs.YtpkghpljgjlmjaaW.PrintWords Go.Proofs.YtpkghpljgjlmjaaW.PrintLast Go.Proofs.YtpkghpljgjlmjaaW.PrintMore Kin
set_option linter.unusedVariables false
set_option linter.unusedSimpArgs false
def matrix_Rank.f (l0 : List (List Int)) : Option (Int) :=
  if validB l0 = true then (if bytes2 l0 = true then some ((elimRun (toB2 l0) (colsN l0)).2.1.length : Int) else none) else some (-1)
theorem rank_up (M : List (List B)) (hv : validB M = true) : matrix_Rank.f (up2 M) = some ((elimRun M (colsN M)).2.1.length : Int) := by
  unfold matrix_Rank.f
  rw [if_pos (by rw [validB_up2]; exact hv), if_pos (bytes2_up2 M), toB2_up2, colsN_up2]
theorem colsN_of_nil {α : Type} {M : List (List α)} (h : M = []) : colsN M = 0 := by subst h; rfl
set_option maxRecDepth 100000 in
set_option maxHeartbeats 2000000 in
theorem rank_good (A0 : Option Addr) (c0 : Nat) (M : List (List B)) (w : World) (hr0 : Kd.C (Kd.slice 5 (Kd.int .u8)) w A0 (up2 M).length (up2 M)) (hc0 : (up2 M).length ≤ c0) (hv : validB M = true) :
    Calls Try.prog 28 #[.slice A0 (up2 M).length c0] w fun e w' => e = .returned (.int .i64 ((elimRun M (colsN M)).2.1.length : Int)) ∧ Below w.heap.size w w' := by
  have HR0 := Aside0.mk hr0
  have HC0 := Aside0.mk hc0
  have HV := Aside0.mk (show matrix_Valid.f (up2 M) = some true by rw [matrix_Valid.f, validB_up2, hv])
  have HF := Aside0.mk (show matrix_columns.f (up2 M) = some (colsN M : Int) by rw [columns_eq, colsN_up2])
  obtain ⟨l1, l2, l3⟩ := validB_lim hv
  have HM := Aside0.mk l3
  have HL1 := Aside0.mk (show colsN M ≤ 1000 by omega)
  have HL2 := Aside0.mk l1
  have HL3 := Aside0.mk (fun h : M = [] => colsN_of_nil h)
  clear hr0 hc0 hv l1 l2 l3
  go_enter Try.func28, Try.ntmps28
  go_wp2_with (first | (go_at_call 17; (with_reducible refine (matrix_Valid.calls _ _ (up2 M) _ _ HR0.out HC0.out HV.out).mono ?_); rintro e w1 ⟨rfl, hb⟩; have HB := Aside0.mk hb; clear hb) | (go_at_call 56; (with_reducible refine (matrix_columns.calls _ _ (up2 M) _ _ (Kd.C_below HR0.out HB.out) HC0.out HF.out).mono ?_); rintro e w2 ⟨rfl, ⟨n1, rfl⟩⟩; have HB2 := Aside0.mk (pw_below_drewN HB.out n1)) | (go_at_call 62; (with_reducible refine (eliminate_calls _ _ M (colsN M) (colsN M) _ (Kd.C_below HR0.out HB2.out) HC0.out HM.out (Nat.le_refl _) HL1.out HL2.out HL3.out).mono ?_); rintro e w3 ⟨gx, rfl, hE, hB3⟩; obtain ⟨vr, vp, hg, hS, hP⟩ := hE.out; obtain ⟨A4, c4, rfl⟩ := Kd.S_slice hS; obtain ⟨A5, c5, rfl⟩ := Kd.R_slice hP; rw [show (natInts (elimRun M (colsN M)).2.1).length = (elimRun M (colsN M)).2.1.length from List.length_map _] at hg hP; have hx0 : w3.cell? ⟨gx, 0, none⟩ = some (.slice A4 (up2 (elimRun M (colsN M)).1).length c4) := (by rw [blk_cell hg]; rfl); have hx1 : w3.cell? ⟨gx, 1, none⟩ = some (.slice A5 (elimRun M (colsN M)).2.1.length c5) := (by rw [blk_cell hg]; rfl); have hx2 : w3.cell? ⟨gx, 2, none⟩ = some (.int .u8 (b2i (elimRun M (colsN M)).2.2)) := (by rw [blk_cell hg]; rfl); have HS := Aside0.mk hS; have HP := Aside0.mk hP; have HB3 := Aside0.mk hB3; clear hE hg hS hP hB3))
  have hs : w.heap.size ≤ (w1.drewN n1).heap.size := HB2.out.size
  go_ret
  exact ⟨rfl, HB2.out.trans (HB3.out.mono hs)⟩
set_option maxRecDepth 100000 in
set_option maxHeartbeats 2000000 in
theorem rank_bad (A0 : Option Addr) (c0 : Nat) (M : List (List Int)) (w : World) (hr0 : Kd.C (Kd.slice 5 (Kd.int .u8)) w A0 M.length M) (hc0 : M.length ≤ c0) (hv : validB M = false) :
    Calls Try.prog 28 #[.slice A0 M.length c0] w fun e w' => e = .returned (.int .i64 (-1)) ∧ Below w.heap.size w w' := by
  have HR0 := Aside0.mk hr0
  have HC0 := Aside0.mk hc0
  have HV := Aside0.mk (show matrix_Valid.f M = some false by rw [matrix_Valid.f, hv])
  clear hr0 hc0 hv
  go_enter Try.func28, Try.ntmps28
  go_wp2_with (first | (go_at_call 17; (with_reducible refine (matrix_Valid.calls _ _ M _ _ HR0.out HC0.out HV.out).mono ?_); rintro e w1 ⟨rfl, hb⟩; have HB := Aside0.mk hb; clear hb))
  go_ret
  exact ⟨rfl, HB.out⟩
theorem matrix_Rank.calls (A0 : Option Addr) (c0 : Nat) (l0 : List (List Int)) (r : Int) (w : World) (hr0 : Kd.C (Kd.slice 5 (Kd.int .u8)) w A0 l0.length l0) (hc0 : l0.length ≤ c0) (h : matrix_Rank.f l0 = some r) :
    Calls Try.prog 28 #[.slice A0 l0.length c0] w fun e w' => e = .returned (.int .i64 r) ∧ Below w.heap.size w w' := by
  cases hv : validB l0 with
  | true =>
    unfold matrix_Rank.f at h
    rw [if_pos hv] at h
    split at h
    · rename_i hb
      obtain ⟨M, rfl⟩ := exists_bytes2 hb
      rw [toB2_up2, colsN_up2] at h
      obtain rfl := Option.some.inj h
      exact rank_good A0 c0 M w hr0 hc0 (by rw [← validB_up2]; exact hv)
    · cases h
  | false =>
    unfold matrix_Rank.f at h
    rw [if_neg (by rw [hv]; simp)] at h
    obtain rfl := Option.some.inj h
    exact rank_bad A0 c0 l0 w hr0 hc0 hv
end Go.Proofs.Ytpkghpljgjlmjaa.K
/- reedsolomon.distinct, combine: contracts. -/
namespace Go.Proofs.Ytpkghpljgjlmjaa.K
open Go.RowKit Go.Proofs.YtpkghpljgjlmjaaW.PrintWords Go.Proofs.YtpkghpljgjlmjaaW.PrintLast Go.Proofs.YtpkghpljgjlmjaaW.PrintMore Kin
set_option linter.unusedSimpArgs false
set_option linter.unusedVariables false
/-- The marks behind the first indices. -/
def KnownSt (w0 w : World) (l : List Int) (k : Nat) : Prop := ∃ cs : Array Value, w.heap[w0.heap.size]? = some (.cells cs 120 (0, 0)) ∧ cs.size = 16 ∧ (∀ j, j < 16 → cs[j]? = some (.bool (decide ((j : Int) ∈ l.take k)))) ∧ Below w0.heap.size w0 w
theorem known_start (w : World) (l : List Int) : KnownSt w (w.alloc (.cells #[.bool false, .bool false, .bool false, .bool false, .bool false, .bool false, .bool false, .bool false, .bool false, .bool false, .bool false, .bool false, .bool false, .bool false, .bool false, .bool false] 120 (0, 0))) l 0 := by
  have h : (#[.bool false, .bool false, .bool false, .bool false, .bool false, .bool false, .bool false, .bool false, .bool false, .bool false, .bool false, .bool false, .bool false, .bool false, .bool false, .bool false] : Array Value) = Array.replicate 16 (.bool false) := rfl
  refine ⟨_, blk_new _ _, rfl, fun j hj => ?_, below_alloc (Below.refl _ _) _⟩
  rw [h, Array.getElem?_replicate, if_pos hj]
  simp
theorem known_step {w0 w : World} {l : List Int} {k n : Nat} (h : KnownSt w0 w l k) (hk : k < l.length) (hn : n < 16) (he : l[k] = (n : Int)) : KnownSt w0 (w.setCell ⟨w0.heap.size, n, none⟩ (.bool true)) l (k + 1) := by
  obtain ⟨cs, h1, h2, h3, h4⟩ := h
  refine ⟨cs.setIfInBounds n (.bool true), blk_set h1 _ _, by simpa using h2, fun j hj => ?_, h4.setCell (Nat.le_refl _) _⟩
  rw [List.take_succ_eq_append_getElem hk, he]
  by_cases e : n = j
  · subst e
    rw [Array.getElem?_setIfInBounds_self_of_lt (by omega)]
    simp
  · rw [Array.getElem?_setIfInBounds_ne e, h3 j hj]
    congr 2
    simp only [List.mem_append, List.mem_singleton, decide_eq_decide]
    constructor
    · exact fun h => .inl h
    · rintro (h | h)
      · exact h
      · omega
theorem distB_take {t : Int} {l : List Int} {k : Nat} (h : distB t (l.take k) = true) (hk : k < l.length) (h0 : 0 ≤ l[k]) (h1 : l[k] < t) (h2 : l[k] ∉ l.take k) : distB t (l.take (k + 1)) = true := by
  unfold distB at h ⊢
  rw [Bool.and_eq_true, decide_eq_true_eq, List.all_eq_true] at h ⊢
  rw [List.take_succ_eq_append_getElem hk]
  refine ⟨?_, fun x hx => ?_⟩
  · rw [List.nodup_append]
    refine ⟨h.1, by simp, fun a ha b hb => ?_⟩
    rw [List.mem_singleton] at hb
    subst hb
    rintro rfl
    exact h2 ha
  · rcases List.mem_append.1 hx with hx | hx
    · exact h.2 x hx
    · rw [List.mem_singleton] at hx
      subst hx
      exact decide_eq_true ⟨h0, h1⟩
theorem distB_bad {t : Int} {l : List Int} {k : Nat} (hk : k < l.length) (h : ¬ (0 ≤ l[k] ∧ l[k] < t) ∨ l[k] ∈ l.take k) : distB t l = false := by
  cases hd : distB t l with
  | false => rfl
  | true =>
    exfalso
    unfold distB at hd
    rw [Bool.and_eq_true, decide_eq_true_eq, List.all_eq_true] at hd
    rcases h with h | h
    · exact h (by simpa using hd.2 _ (List.getElem_mem hk))
    · have hn := hd.1
      rw [← List.take_append_drop k l, List.nodup_append] at hn
      exact hn.2.2 _ h _ (by rw [List.drop_eq_getElem_cons hk]; exact List.mem_cons_self) rfl
def reedsolomon_distinct.f (a0 : Int) (l1 : List Int) : Option Bool := if a0 ≤ 16 then some (distB a0 l1) else none
set_option maxRecDepth 100000 in
set_option maxHeartbeats 2000000 in
theorem reedsolomon_distinct.calls (a0 : Int) (A1 : Option Addr) (c1 : Nat) (l1 : List Int) (r : Bool) (w : World) (hr1 : Kd.C (Kd.int .i64) w A1 l1.length l1) (hc1 : l1.length ≤ c1) (h : reedsolomon_distinct.f a0 l1 = some r) :
    Calls Try.prog 93 #[.int .i64 a0, .slice A1 l1.length c1] w fun e w' => e = .returned (.bool r) ∧ Below w.heap.size w w' := by
  unfold reedsolomon_distinct.f at h
  split at h
  · rename_i h16
    obtain rfl := Option.some.inj h
    have HR := Aside0.mk hr1
    have hlim := hr1.2.1
    clear hr1 hc1 h
    go_enter Try.func93, Try.ntmps93
    go_wp2
    go_loopw [10] (fun v10 wr => ∃ k : Nat, k ≤ l1.length ∧ v10 = .int .i64 (k : Int) ∧ Aside0 (KnownSt w wr l1 k ∧ distB a0 (l1.take k) = true)) (fun v10 _ => l1.length - (intOf v10).toNat)
    case atStart => exact ⟨0, by omega, rfl, ⟨known_start w l1, by rw [List.take_zero]; rfl⟩⟩
    case round =>
      obtain ⟨k, hk, rfl, HA⟩ := hrel
      by_cases hlt : k < l1.length
      · obtain ⟨ad, e, hx⟩ := Kd.at_int HR.out (k : Int) (by omega) (by omega)
        subst e
        have hrd : rd l1 (k : Int) = l1[k] := by unfold rd; rw [Int.toNat_natCast, List.getD_eq_getElem?_getD, List.getElem?_eq_getElem hlt]; rfl
        rw [Int.toNat_natCast, hrd] at hx
        have HBw : Aside0 (Below w.heap.size w wr) := by obtain ⟨_, _, _, _, h⟩ := HA.out.1; exact ⟨h⟩
        replace hx := (HBw.out.cell (World.block_lt_of_cell? w _ hx)).trans hx
        clear hrd
        by_cases h0 : l1[k] < 0
        · have HD := Aside0.mk (distB_bad (t := a0) hlt (.inl (by omega)))
          generalize l1[k] = x at hx h0
          have d0 : decide (x < 0) = true := decide_eq_true h0
          clear h0 HA
          go_wp2
          go_ret
          exact ⟨by rw [HD.out]; rfl, HBw.out⟩
        · by_cases h1 : a0 ≤ l1[k]
          · have HD := Aside0.mk (distB_bad (t := a0) hlt (.inl (by omega)))
            generalize l1[k] = x at hx h0 h1
            have d0 : decide (x < 0) = false := decide_eq_false h0
            have d1 : decide (a0 ≤ x) = true := decide_eq_true h1
            clear h0 h1 HA
            go_wp2
            go_ret
            exact ⟨by rw [HD.out]; rfl, HBw.out⟩
          · have HT : Aside0 (l1[k] ∉ l1.take k → distB a0 (l1.take (k + 1)) = true) := ⟨fun h2 => distB_take HA.out.2 hlt (by omega) (by omega) h2⟩
            have HF : Aside0 (l1[k] ∈ l1.take k → distB a0 l1 = false) := ⟨fun h2 => distB_bad hlt (.inr h2)⟩
            obtain ⟨n, hn⟩ := Int.eq_ofNat_of_zero_le (show 0 ≤ l1[k] by omega)
            have hn16 : n < 16 := by omega
            have HS : Aside0 (KnownSt w (wr.setCell ⟨w.heap.size, n, none⟩ (.bool true)) l1 (k + 1)) := ⟨known_step HA.out.1 hlt hn16 hn⟩
            obtain ⟨cs, hcs, _, hcell, _⟩ := HA.out.1
            have hc := (blk_cell (i := n) hcs).trans (hcell n hn16)
            have hf := blk_frozen hcs n
            rw [hn] at hx h0 h1 HT HF
            have n1 : (n : Int) < 16 := by omega
            have d0 : decide ((n : Int) < 0) = false := decide_eq_false h0
            have d1 : decide (a0 ≤ (n : Int)) = false := decide_eq_false h1
            clear hcs hcell h0 h1 HA hn
            by_cases h2 : (n : Int) ∈ l1.take k
            · have HD := Aside0.mk (HF.out h2)
              rw [decide_eq_true h2] at hc
              clear h2 HT HF
              go_wp2
              go_ret
              exact ⟨by rw [HD.out]; rfl, HBw.out⟩
            · have HD := Aside0.mk (HT.out h2)
              rw [decide_eq_false h2] at hc
              clear h2 HT HF
              go_wp2
              go_roundw
              case rel => exact ⟨k + 1, by omega, by go_num, ⟨HS.out, HD.out⟩⟩
              case measure => simp [intOf]; omega
      · obtain rfl : k = l1.length := by omega
        have HD := Aside0.mk (show distB a0 l1 = true by have := HA.out.2; rwa [List.take_length] at this)
        have HBw : Aside0 (Below w.heap.size w wr) := by obtain ⟨_, _, _, _, h⟩ := HA.out.1; exact ⟨h⟩
        clear HA
        go_wp2
        go_ret
        exact ⟨by rw [HD.out]; rfl, HBw.out⟩
  · cases h
end Go.Proofs.Ytpkghpljgjlmjaa.K
/- An argument that is a list of lists of bytes, opened. -/
namespace Go.Proofs.Ytpkghpljgjlmjaa.K
open Go.RowKit Go.Proofs.YtpkghpljgjlmjaaW.PrintWords Go.Proofs.YtpkghpljgjlmjaaW.PrintLast Go.Proofs.YtpkghpljgjlmjaaW.PrintMore
set_option linter.unusedSimpArgs false
set_option linter.unusedVariables false
theorem rows_of_trod {H : Type} {enc : TypeId × Value → H} {W : World} {a : Option Addr} {len cap : Nat} {d : DataW H} {p : List MemPlace} (h : DataW.Trod enc Try.prog W 0 (fun _ => true) true 22 (.slice a len cap) d p) :
    ∃ zs : List (List Int), len = zs.length ∧ zs.length ≤ cap ∧ Kd.C (Kd.slice 5 (Kd.int .u8)) W a zs.length zs ∧ bytes2 zs = true := by
  obtain ⟨fuel, hf⟩ := h
  rcases Go.Deep.open_int_rows Try.underlying22 Try.underlying34 Try.underlying5 (by kernel_rfl) (by kernel_rfl) hf with ⟨hcs, _⟩ | ⟨x, l, c, A, L, C, Z, hcs, _, hl, hm, _, hcell⟩
  · simp [Value.cells] at hcs
    obtain ⟨rfl, rfl, rfl⟩ := hcs
    exact ⟨[], rfl, Nat.zero_le _, ⟨rfl, by decide, fun hp => absurd hp (by decide)⟩, rfl⟩
  · simp [Value.cells] at hcs
    obtain ⟨rfl, rfl, rfl⟩ := hcs
    have hm' : len ≤ 9223372036854775807 := by
      have : cap ≤ 9223372036854775807 := hm
      omega
    have hlen : ((List.range len).map fun r => (Z r).take (L r)).length = len := by simp
    refine ⟨(List.range len).map fun r => (Z r).take (L r), by rw [hlen], by rw [hlen]; exact hl, ⟨rfl, by rw [hlen]; exact hm', fun hp => ⟨x, rfl, fun j q hj => ?_⟩⟩, ?_⟩
    · have hjl : j < len := by
        have := (List.getElem?_eq_some_iff.1 hj).1
        rwa [hlen] at this
      have hq : q = (Z j).take (L j) := by
        rw [List.getElem?_map, List.getElem?_range hjl] at hj
        simpa using hj.symm
      subst hq
      obtain ⟨h1, h2, h3, h4, h5, h6, h7⟩ := hcell j (by omega)
      have hql : ((Z j).take (L j)).length = L j := by rw [List.length_take]; omega
      refine ⟨[.slice (A j) ((Z j).take (L j)).length (C j)], rfl, ⟨A j, C j, rfl, by rw [hql]; exact h2, ⟨rfl, by rw [hql]; have : C j ≤ 9223372036854775807 := h3; omega, fun hp2 => ?_⟩⟩, fun i u hi => ?_⟩
      · rw [hql] at hp2
        cases ha : A j with
        | none => rw [h6 ha] at h2; omega
        | some a' =>
          refine ⟨a', rfl, fun i y hi => ?_⟩
          have hil : i < L j := by
            have := (List.getElem?_eq_some_iff.1 hi).1
            rwa [hql] at this
          have hy : y = (Z j).getD i 0 := by
            rw [List.getElem?_take_of_lt hil] at hi
            rw [List.getD_eq_getElem?_getD, hi]; rfl
          subst hy
          refine ⟨[.int .u8 ((Z j).getD i 0)], rfl, rfl, fun k u hk => ?_⟩
          cases k with
          | zero =>
            simp only [List.getElem?_cons_zero, Option.some.injEq] at hk
            subst hk
            have := (h7 a' ha).2 i (by omega)
            rw [show i * (Kd.int .u8).sz + 0 = i from by show i * 1 + 0 = i; omega]
            exact this
          | succ k => simp at hk
      · cases i with
        | zero =>
          simp only [List.getElem?_cons_zero, Option.some.injEq] at hi
          subst hi
          rw [show j * (Kd.slice 5 (Kd.int .u8)).sz + 0 = j from by show j * 1 + 0 = j; omega, hql]
          exact h1
        | succ i => simp at hi
    · unfold bytes2
      rw [List.all_eq_true]
      intro q hq
      obtain ⟨r, hr, rfl⟩ := List.mem_map.1 hq
      rw [List.mem_range] at hr
      rw [List.all_eq_true]
      intro y hy
      obtain ⟨_, _, _, _, h5, _, _⟩ := hcell r (by omega)
      exact isB_of_wf (h5 y (List.mem_of_mem_take hy))
end Go.Proofs.Ytpkghpljgjlmjaa.K
/- An argument that is a list of bytes or of ints, opened. -/
namespace Go.Proofs.Ytpkghpljgjlmjaa.K
open Go.RowKit Go.WideShapes Go.ChangeShapes Go.ChangeAt Go.Proofs.YtpkghpljgjlmjaaW.PrintWords Go.Proofs.YtpkghpljgjlmjaaW.PrintLast Go.Proofs.YtpkghpljgjlmjaaW.PrintMore
set_option linter.unusedSimpArgs false
set_option linter.unusedVariables false
theorem C_of_cells {k : IntKind} {W : World} {x : Addr} {len cap : Nat} {zs : List Int} (hl : len ≤ cap) (hm : cap ≤ maxLen) (hz : zs.length = cap) (hcell : ∀ i, i < zs.length → W.cell? (x.add i) = some (.int k (zs.getD i 0))) :
    len = (zs.take len).length ∧ (zs.take len).length ≤ cap ∧ Kd.C (Kd.int k) W (some x) (zs.take len).length (zs.take len) := by
  have hlen : (zs.take len).length = len := by rw [List.length_take]; omega
  refine ⟨hlen.symm, by omega, rfl, by rw [hlen]; have : cap ≤ 9223372036854775807 := hm; omega, fun hp => ⟨x, rfl, fun i y hi => ?_⟩⟩
  have hil : i < len := by
    have := (List.getElem?_eq_some_iff.1 hi).1
    rwa [hlen] at this
  have hy : y = zs.getD i 0 := by
    rw [List.getElem?_take_of_lt hil] at hi
    rw [List.getD_eq_getElem?_getD, hi]; rfl
  subst hy
  refine ⟨[.int k (zs.getD i 0)], rfl, rfl, fun j u hj => ?_⟩
  cases j with
  | zero =>
    simp only [List.getElem?_cons_zero, Option.some.injEq] at hj
    subst hj
    rw [show i * (Kd.int k).sz + 0 = i from by show i * 1 + 0 = i; omega]
    exact hcell i (by omega)
  | succ j => simp at hj
theorem nums_of_trod {H : Type} {enc : TypeId × Value → H} {W : World} {a : Option Addr} {len cap : Nat} {d : DataW H} {p : List MemPlace} (h : DataW.Trod enc Try.prog W 0 (fun _ => true) true 29 (.slice a len cap) d p) :
    ∃ zs : List Int, len = zs.length ∧ zs.length ≤ cap ∧ Kd.C (Kd.int .i64) W a zs.length zs ∧ ∀ x ∈ zs, (Lit.int .i64 x).wf = true := by
  obtain ⟨fuel, hf⟩ := h
  rcases open_ints Try.underlying29 Try.underlying3 (by kernel_rfl) hf with ⟨hcs, _⟩ | ⟨x, l, c, zs, hcs, _, hl, hm, hz, _, hcell, hwz⟩
  · simp [Value.cells] at hcs
    obtain ⟨rfl, rfl, rfl⟩ := hcs
    exact ⟨[], rfl, Nat.zero_le _, ⟨rfl, by decide, fun hp => absurd hp (by decide)⟩, fun x hx => by simp at hx⟩
  · simp [Value.cells] at hcs
    obtain ⟨rfl, rfl, rfl⟩ := hcs
    obtain ⟨h1, h2, h3⟩ := C_of_cells hl hm (by simpa using hz) hcell
    exact ⟨zs.take len, h1, h2, h3, fun y hy => hwz y (List.mem_of_mem_take hy)⟩
end Go.Proofs.Ytpkghpljgjlmjaa.K
/- Row operations over the field of 256 elements, matrices as functions. No program in sight. -/
namespace Kin
set_option linter.unusedSimpArgs false
set_option linter.unusedVariables false
theorem mulF_assoc (n m : Nat) (A C E : Mx) : mulF m (mulF n A C) E = mulF n A (mulF m C E) := by
  funext i j
  unfold mulF
  rw [show (fun t => gmul (bsum n fun t_1 => gmul (A i t_1) (C t_1 t)) (E t j)) = fun t => bsum n (fun u => gmul (A i u) (gmul (C u t) (E t j))) from by
    funext t
    rw [← bsum_mul_right]
    exact bsum_congr fun u _ => gmul_assoc _ _ _]
  rw [bsum_swap]
  refine bsum_congr fun u _ => ?_
  rw [bsum_mul]
end Kin
-- Lines of this claim, written by the session's own program kprint.py (it runs print.py).
namespace Go.Proofs.Ytpkghpljgjlmjaa.K
open Go.RowKit Go.Proofs.YtpkghpljgjlmjaaW.PrintWords Go.Proofs.YtpkghpljgjlmjaaW.PrintLast Go.Proofs.YtpkghpljgjlmjaaW.PrintMore
attribute [local go_sem] max2_int min2_int max_two min_two max_three min_three max_four min_four   -- for this text's walks alone
set_option linter.unusedVariables false
set_option linter.unusedSimpArgs false

/-! ### kinkeeptop_a04Blocks: function 38 -/
def kinkeeptop_a04Blocks.l0 : Nat → Int → List (List Int) → Int → List (List Int) → Int → Int → Option (Bool)
  | 0, _, _, _, _, _, _ => none
  | k + 1, x0, x1, x2, x9, x10, x11 => if x11 < x10 then (if 0 ≤ x11 then (if x11 < (x9.length : Int) then (if ((rd_L1 x9 x11).length : Int) < 1 then (some false) else (if ((rd_L1 x9 x11).length : Int) > x2 then (some false) else (if 0 < (x1.length : Int) then (if ((rd_L1 x9 x11).length : Int) = ((rd_L1 x1 0).length : Int) then (kinkeeptop_a04Blocks.l0 k x0 x1 x2 x9 x10 (wrap64 (x11 + 1))) else (some false)) else (none)))) else (none)) else (none)) else (some ((x1.length : Int) == x0))
def kinkeeptop_a04Blocks.f (k : Nat) (a0 : Int) (l1 : List (List Int)) (a2 : Int) : Option (Bool) := kinkeeptop_a04Blocks.l0 k a0 l1 a2 l1 (l1.length : Int) 0
set_option maxHeartbeats 8000000 in
set_option maxRecDepth 100000 in
theorem kinkeeptop_a04Blocks.calls (k : Nat) (a0 : Int) (A1 : Option Addr) (c1 : Nat) (l1 : List (List Int)) (a2 : Int) (r : Bool) (w : World) (hr1 : Kd.C (Kd.slice 5 (Kd.int .u8)) w A1 l1.length l1) (hc1 : l1.length ≤ c1) (h : kinkeeptop_a04Blocks.f k a0 l1 a2 = some r) :
    Calls Try.prog 38 #[.int .i64 a0, .slice A1 l1.length c1, .int .i64 a2] w fun e w' => e = .returned (.bool r) ∧ Drawn0 w w' := by
  have HR1 := Aside0.mk hr1
  have HC1 := Aside0.mk hc1
  clear hr1 hc1
  have H : (kinkeeptop_a04Blocks.l0 k a0 l1 a2 l1 (l1.length : Int) 0) = some r := h
  clear h
  have H' := Aside0.mk H
  clear H
  go_enter Try.func38, Try.ntmps38
  go_wp2
  go_loopg [11] k (fun kq v11 w' => ∃ (x11_1 : Int), v11 = .int .i64 x11_1 ∧ Aside0 (kinkeeptop_a04Blocks.l0 kq a0 l1 a2 l1 (l1.length : Int) x11_1 = some r) ∧ Aside0 (kq ≤ k) ∧ Drawn0 w w')
  case atStart => exact ⟨(0), (by first | rfl | (simp; done) | (simp [*]; done)), H', ⟨Nat.le_refl _⟩, by repeat (first | exact Drawn0.refl _ | apply Drawn0.step)⟩
  case round =>
    clear H'; (try clear c1); (try clear p2); (try clear c3)
    obtain ⟨x11_1, rfl, HA, HK1, ⟨m1, rfl⟩⟩ := hrel
    cases gk with
    | zero => exact absurd HA.out (by simp [kinkeeptop_a04Blocks.l0])
    | succ k1 =>
      have H := HA.out
      clear HA
      simp only [kinkeeptop_a04Blocks.l0] at H
      by_cases c4 : x11_1 < (l1.length : Int)
      · rw [if_pos c4] at H
        have c4b0 : decide (x11_1 < (l1.length : Int)) = true := decide_eq_true c4
        clear c4
        by_cases c5 : 0 ≤ x11_1
        · rw [if_pos c5] at H
          have c5b0 : decide (0 ≤ x11_1) = true := decide_eq_true c5
          clear c5
          by_cases c6 : x11_1 < (l1.length : Int)
          · rw [if_pos c6] at H
            have c6b0 : decide (x11_1 < (l1.length : Int)) = true := decide_eq_true c6
            clear c6
            by_cases c7 : ((rd_L1 l1 x11_1).length : Int) < 1
            · rw [if_pos c7] at H
              have c7b0 : decide (((rd_L1 l1 x11_1).length : Int) < 1) = true := decide_eq_true c7
              have c7b1 : decide ((rd_L1 l1 x11_1).length < 1) = true := decide_eq_true (by omega)
              clear c7
              obtain rfl := Option.some.inj H
              have p226 : 0 ≤ (x11_1 : Int) := of_decide_eq_true (by first | (with_reducible assumption) | assumption)
              have q226 : x11_1 < (l1.length : Int) := of_decide_eq_true (by first | (with_reducible assumption) | assumption)
              obtain ⟨ad226, A226_0, c226_0, e226, hx226_0, hl226_0, hi226_0⟩ := at_L1 HR1.out x11_1 p226 q226
              cases e226
              have HR226_0 := Aside0.mk hi226_0
              have HC226_0 := Aside0.mk hl226_0
              clear hi226_0 hl226_0
              replace p226 := eq_true p226
              replace q226 := eq_true q226
              go_wp2
              go_ret
              exact ⟨by first | rfl | (simp; done) | (simp [*]; done), by repeat (first | exact Drawn0.refl _ | apply Drawn0.step)⟩
            · rw [if_neg c7] at H
              have c7b0 : decide (((rd_L1 l1 x11_1).length : Int) < 1) = false := decide_eq_false c7
              have c7b1 : decide ((rd_L1 l1 x11_1).length < 1) = false := decide_eq_false (by omega)
              clear c7
              by_cases c8 : ((rd_L1 l1 x11_1).length : Int) > a2
              · rw [if_pos c8] at H
                have c8b0 : decide (a2 < ((rd_L1 l1 x11_1).length : Int)) = true := decide_eq_true c8
                clear c8
                obtain rfl := Option.some.inj H
                have p226 : 0 ≤ (x11_1 : Int) := of_decide_eq_true (by first | (with_reducible assumption) | assumption)
                have q226 : x11_1 < (l1.length : Int) := of_decide_eq_true (by first | (with_reducible assumption) | assumption)
                obtain ⟨ad226, A226_0, c226_0, e226, hx226_0, hl226_0, hi226_0⟩ := at_L1 HR1.out x11_1 p226 q226
                cases e226
                have HR226_0 := Aside0.mk hi226_0
                have HC226_0 := Aside0.mk hl226_0
                clear hi226_0 hl226_0
                replace p226 := eq_true p226
                replace q226 := eq_true q226
                go_wp2
                go_ret
                exact ⟨by first | rfl | (simp; done) | (simp [*]; done), by repeat (first | exact Drawn0.refl _ | apply Drawn0.step)⟩
              · rw [if_neg c8] at H
                have c8b0 : decide (a2 < ((rd_L1 l1 x11_1).length : Int)) = false := decide_eq_false c8
                clear c8
                by_cases c9 : 0 < (l1.length : Int)
                · rw [if_pos c9] at H
                  have c9b0 : decide (0 < (l1.length : Int)) = true := decide_eq_true c9
                  have c9b1 : decide (0 < l1.length) = true := decide_eq_true (by omega)
                  clear c9
                  by_cases c10 : ((rd_L1 l1 x11_1).length : Int) = ((rd_L1 l1 0).length : Int)
                  · rw [if_pos c10] at H
                    have c10b0 : (((rd_L1 l1 x11_1).length : Int) == ((rd_L1 l1 0).length : Int)) = true := beq_iff_eq.mpr c10
                    have c10b1 : (((rd_L1 l1 x11_1).length : Int) != ((rd_L1 l1 0).length : Int)) = false := bne_eq_false_iff_eq.mpr c10
                    have c10b2 : ((rd_L1 l1 x11_1).length == (rd_L1 l1 0).length) = true := by first | simpa using c10 | (simp at c10 ⊢; omega)
                    clear c10
                    have H' := Aside0.mk H
                    clear H
                    have p226 : 0 ≤ (x11_1 : Int) := of_decide_eq_true (by first | (with_reducible assumption) | assumption)
                    have q226 : x11_1 < (l1.length : Int) := of_decide_eq_true (by first | (with_reducible assumption) | assumption)
                    obtain ⟨ad226, A226_0, c226_0, e226, hx226_0, hl226_0, hi226_0⟩ := at_L1 HR1.out x11_1 p226 q226
                    cases e226
                    have HR226_0 := Aside0.mk hi226_0
                    have HC226_0 := Aside0.mk hl226_0
                    clear hi226_0 hl226_0
                    replace p226 := eq_true p226
                    replace q226 := eq_true q226
                    have p227 : 0 ≤ (0 : Int) := (by omega)
                    have q227 : 0 < (l1.length : Int) := of_decide_eq_true (by first | (with_reducible assumption) | assumption)
                    obtain ⟨ad227, A227_0, c227_0, e227, hx227_0, hl227_0, hi227_0⟩ := at_L1 HR1.out 0 p227 q227
                    obtain rfl : ad226 = ad227 := (by injection e227)
                    have qi227 : (0 < l1.length) = True := eq_true (by omega)
                    (try rw [show ((0 : Int)).toNat = 0 from rfl] at hx227_0)
                    (try rw [Addr.add_zero'] at hx227_0)
                    have HR227_0 := Aside0.mk hi227_0
                    have HC227_0 := Aside0.mk hl227_0
                    clear hi227_0 hl227_0
                    replace p227 := eq_true p227
                    replace q227 := eq_true q227
                    go_wp2
                    go_roundg k1
                    case measure => have := HK1.out; omega
                    case rel => exact ⟨(wrap64 (x11_1 + 1)), (by first | rfl | (simp; done) | (simp [*]; done)), H', ⟨by have := HK1.out; omega⟩, by repeat (first | exact Drawn0.refl _ | apply Drawn0.step)⟩
                  · rw [if_neg c10] at H
                    have c10b0 : (((rd_L1 l1 x11_1).length : Int) == ((rd_L1 l1 0).length : Int)) = false := beq_eq_false_iff_ne.mpr c10
                    have c10b1 : (((rd_L1 l1 x11_1).length : Int) != ((rd_L1 l1 0).length : Int)) = true := bne_iff_ne.mpr c10
                    have c10b2 : ((rd_L1 l1 x11_1).length == (rd_L1 l1 0).length) = false := by first | simpa using c10 | (simp at c10 ⊢; omega)
                    obtain rfl := Option.some.inj H
                    have p226 : 0 ≤ (x11_1 : Int) := of_decide_eq_true (by first | (with_reducible assumption) | assumption)
                    have q226 : x11_1 < (l1.length : Int) := of_decide_eq_true (by first | (with_reducible assumption) | assumption)
                    obtain ⟨ad226, A226_0, c226_0, e226, hx226_0, hl226_0, hi226_0⟩ := at_L1 HR1.out x11_1 p226 q226
                    cases e226
                    have HR226_0 := Aside0.mk hi226_0
                    have HC226_0 := Aside0.mk hl226_0
                    clear hi226_0 hl226_0
                    replace p226 := eq_true p226
                    replace q226 := eq_true q226
                    have p227 : 0 ≤ (0 : Int) := (by omega)
                    have q227 : 0 < (l1.length : Int) := of_decide_eq_true (by first | (with_reducible assumption) | assumption)
                    obtain ⟨ad227, A227_0, c227_0, e227, hx227_0, hl227_0, hi227_0⟩ := at_L1 HR1.out 0 p227 q227
                    obtain rfl : ad226 = ad227 := (by injection e227)
                    have qi227 : (0 < l1.length) = True := eq_true (by omega)
                    (try rw [show ((0 : Int)).toNat = 0 from rfl] at hx227_0)
                    (try rw [Addr.add_zero'] at hx227_0)
                    have HR227_0 := Aside0.mk hi227_0
                    have HC227_0 := Aside0.mk hl227_0
                    clear hi227_0 hl227_0
                    replace p227 := eq_true p227
                    replace q227 := eq_true q227
                    go_wp2
                    go_ret
                    exact ⟨by first | rfl | (simp; done) | (simp [*]; done), by repeat (first | exact Drawn0.refl _ | apply Drawn0.step)⟩
                · rw [if_neg c9] at H
                  exact absurd H (by simp)
          · rw [if_neg c6] at H
            exact absurd H (by simp)
        · rw [if_neg c5] at H
          exact absurd H (by simp)
      · rw [if_neg c4] at H
        have c4b0 : decide (x11_1 < (l1.length : Int)) = false := decide_eq_false c4
        clear c4
        obtain rfl := Option.some.inj H
        go_wp2
        go_ret
        exact ⟨by first | rfl | (simp; done) | (simp [*]; done), by repeat (first | exact Drawn0.refl _ | apply Drawn0.step)⟩
end Go.Proofs.Ytpkghpljgjlmjaa.K
-- Lines of this claim, written by the session's own program kprint.py (it runs print.py).
namespace Go.Proofs.Ytpkghpljgjlmjaa.K
open Go.RowKit Go.Proofs.YtpkghpljgjlmjaaW.PrintWords Go.Proofs.YtpkghpljgjlmjaaW.PrintLast Go.Proofs.YtpkghpljgjlmjaaW.PrintMore
attribute [local go_sem] max2_int min2_int max_two min_two max_three min_three max_four min_four   -- for this text's walks alone
set_option linter.unusedVariables false
set_option linter.unusedSimpArgs false

/-! ### reedsolomon_given: function 72 -/
def reedsolomon_given.j0 : Nat → Int → List (List Int) → Bool → Option (Int)
  | 0, _, _, _ => none
  | k + 1, x0, x3, x9 => if x9 = true then (some 1) else (if (x3.length : Int) < x0 then (some 10) else (some 0))
def reedsolomon_given.f (k : Nat) (a0 : Int) (a1 : Int) (l2 : List Int) (l3 : List (List Int)) : Option (Int) := (reedsolomon_Valid.f a0 a1).bind fun t101 => (if t101 = true then (if (l2.length : Int) = (l3.length : Int) then ((reedsolomon_distinct.f a1 l2).bind fun t102 => (if t102 = true then ((reedsolomon_level.f l3).bind fun t103 => (reedsolomon_given.j0 k a0 l3 (!t103))) else (reedsolomon_given.j0 k a0 l3 true))) else (reedsolomon_given.j0 k a0 l3 true)) else (reedsolomon_given.j0 k a0 l3 true))
set_option maxHeartbeats 8000000 in
set_option maxRecDepth 100000 in
theorem reedsolomon_given.calls (k : Nat) (a0 : Int) (a1 : Int) (A2 : Option Addr) (c2 : Nat) (l2 : List Int) (A3 : Option Addr) (c3 : Nat) (l3 : List (List Int)) (r : Int) (w : World) (hr2 : Kd.C (Kd.int .i64) w A2 l2.length l2) (hc2 : l2.length ≤ c2) (hr3 : Kd.C (Kd.slice 5 (Kd.int .u8)) w A3 l3.length l3) (hc3 : l3.length ≤ c3) (h : reedsolomon_given.f k a0 a1 l2 l3 = some r) :
    Calls Try.prog 72 #[.int .i64 a0, .int .i64 a1, .slice A2 l2.length c2, .slice A3 l3.length c3] w fun e w' => e = .returned (.int .i64 r) ∧ Below w.heap.size w w' := by
  have HR2 := Aside0.mk hr2
  have HC2 := Aside0.mk hc2
  clear hr2 hc2
  have HR3 := Aside0.mk hr3
  have HC3 := Aside0.mk hc3
  clear hr3 hc3
  have HB := Aside0.mk (Below.refl w.heap.size w)
  have H : ((reedsolomon_Valid.f a0 a1).bind fun t101 => (if t101 = true then (if (l2.length : Int) = (l3.length : Int) then ((reedsolomon_distinct.f a1 l2).bind fun t102 => (if t102 = true then ((reedsolomon_level.f l3).bind fun t103 => (reedsolomon_given.j0 k a0 l3 (!t103))) else (reedsolomon_given.j0 k a0 l3 true))) else (reedsolomon_given.j0 k a0 l3 true)) else (reedsolomon_given.j0 k a0 l3 true))) = some r := h
  clear h
  have HC5 := Aside0.mk H
  clear H
  go_enter Try.func72, Try.ntmps72
  go_upto_region 1 with (fail)
  go_cut [9] (fun v9 wc => ∃ (kq : Nat) (x9_4 : Bool), v9 = .bool x9_4 ∧ Aside0 (reedsolomon_given.j0 kq a0 l3 x9_4 = some r) ∧ Aside0 (kq ≤ k) ∧ Aside0 (Below w.heap.size w wc))
  case first =>
    have H := HC5.out
    clear HC5
    replace H := Option.bind_eq_some_iff.mp H
    obtain ⟨t101, A60, H⟩ := H
    replace H : (if t101 = true then (if (l2.length : Int) = (l3.length : Int) then ((reedsolomon_distinct.f a1 l2).bind fun t102 => (if t102 = true then ((reedsolomon_level.f l3).bind fun t103 => (reedsolomon_given.j0 k a0 l3 (!t103))) else (reedsolomon_given.j0 k a0 l3 true))) else (reedsolomon_given.j0 k a0 l3 true)) else (reedsolomon_given.j0 k a0 l3 true)) = some r := H
    have A6 := Aside0.mk A60
    clear A60
    by_cases c7 : t101 = true
    · subst c7
      have H1 : (if (l2.length : Int) = (l3.length : Int) then ((reedsolomon_distinct.f a1 l2).bind fun t102 => (if t102 = true then ((reedsolomon_level.f l3).bind fun t103 => (reedsolomon_given.j0 k a0 l3 (!t103))) else (reedsolomon_given.j0 k a0 l3 true))) else (reedsolomon_given.j0 k a0 l3 true)) = some r := by rw [if_pos rfl] at H; exact H
      clear H
      have H := H1
      clear H1
      by_cases c8 : (l2.length : Int) = (l3.length : Int)
      · rw [if_pos c8] at H
        have c8b0 : ((l2.length : Int) == (l3.length : Int)) = true := beq_iff_eq.mpr c8
        have c8b1 : ((l2.length : Int) != (l3.length : Int)) = false := bne_eq_false_iff_eq.mpr c8
        have c8b2 : (l2.length == l3.length) = true := by first | simpa using c8 | (simp at c8 ⊢; omega)
        clear c8
        (first | rw [c8b0] | rw [c8b1] | rw [c8b2] | (simp only [i64_w, i32_w]; rw [c8b0]) | skip)
        replace H := Option.bind_eq_some_iff.mp H
        obtain ⟨t102, A90, H⟩ := H
        replace H : (if t102 = true then ((reedsolomon_level.f l3).bind fun t103 => (reedsolomon_given.j0 k a0 l3 (!t103))) else (reedsolomon_given.j0 k a0 l3 true)) = some r := H
        have A9 := Aside0.mk A90
        clear A90
        by_cases c10 : t102 = true
        · subst c10
          have H1 : ((reedsolomon_level.f l3).bind fun t103 => (reedsolomon_given.j0 k a0 l3 (!t103))) = some r := by rw [if_pos rfl] at H; exact H
          clear H
          have H := H1
          clear H1
          replace H := Option.bind_eq_some_iff.mp H
          obtain ⟨t103, A110, H⟩ := H
          replace H : (reedsolomon_given.j0 k a0 l3 (!t103)) = some r := H
          have A11 := Aside0.mk A110
          clear A110
          have H' := Aside0.mk H
          clear H
          go_wp2_with (first | ((with_reducible refine gate_callee (f := 37) rfl ?_); refine goesL_ (some 12) rfl rfl Try.func37 (by kernel_rfl) rfl #[.int .i64 a0, .int .i64 a1] rfl (by (try simp only [List.map_toArray, List.map_cons, List.map_nil]); first | done | rfl | (simp only [List.length_drop, List.length_take]; rfl)) ?_; (with_reducible refine (reedsolomon_Valid.calls a0 a1 true _ A6.out).mono ?_); rintro e w' ⟨rfl, ⟨nd, rfl⟩⟩; refine ⟨_, rfl, ?_⟩) | (go_at_call 93; (with_reducible refine (reedsolomon_distinct.calls a1 _ _ l2 true _ ?side1 ?side2 A9.out).mono ?_); (case side1 => repeat (first | exact (Kd.C_below HR2.out (by repeat (first | (with_reducible first | exact HB.out | apply below_alloc | apply pw_below_drewN | apply below_drew1) | exact HB.out))) | (with_reducible refine Kd.C_alloc ?_ _) | (with_reducible refine Kd.C_drewN ?_ _) | (with_reducible refine Kd.C_drew ?_))); (case side2 => exact HC2.out); rintro e w12 ⟨rfl, hb⟩; have n0_ := Aside0.mk (below_step (by repeat (first | (with_reducible first | exact HB.out | apply below_alloc | apply pw_below_drewN | apply below_drew1) | exact HB.out)) hb); clear HB; have HB := n0_; clear n0_; (try clear hb); (try clear hb2); (try clear hk); (try clear hi)) | (go_at_call 69; (with_reducible refine (reedsolomon_level.calls _ _ l3 t103 _ ?side1 ?side2 A11.out).mono ?_); (case side1 => repeat (first | exact (Kd.C_below HR3.out HB.out) | (with_reducible refine Kd.C_alloc ?_ _) | (with_reducible refine Kd.C_drewN ?_ _) | (with_reducible refine Kd.C_drew ?_))); (case side2 => exact HC3.out); rintro e w13 ⟨rfl, hb⟩; have n0_ := Aside0.mk (below_step (by repeat (first | (with_reducible first | exact HB.out | apply below_alloc | apply pw_below_drewN | apply below_drew1) | exact HB.out)) hb); clear HB; have HB := n0_; clear n0_; (try clear hb); (try clear hb2); (try clear hk); (try clear hi)))
          go_meet
          case rel => exact ⟨_, (!t103), (by first | rfl | (simp; done) | (simp [*]; done)), H', ⟨by first | omega | exact Nat.le_refl _⟩, ⟨by repeat (first | (with_reducible first | exact HB.out | apply below_alloc | apply pw_below_drewN | apply below_drew1) | exact HB.out)⟩⟩
        · replace c10 := Bool.eq_false_iff.mpr c10
          subst c10
          have H1 : (reedsolomon_given.j0 k a0 l3 true) = some r := by rw [if_neg (show ¬ (false = true) by decide)] at H; exact H
          clear H
          have H := H1
          clear H1
          have H' := Aside0.mk H
          clear H
          go_wp2_with (first | ((with_reducible refine gate_callee (f := 37) rfl ?_); refine goesL_ (some 12) rfl rfl Try.func37 (by kernel_rfl) rfl #[.int .i64 a0, .int .i64 a1] rfl (by (try simp only [List.map_toArray, List.map_cons, List.map_nil]); first | done | rfl | (simp only [List.length_drop, List.length_take]; rfl)) ?_; (with_reducible refine (reedsolomon_Valid.calls a0 a1 true _ A6.out).mono ?_); rintro e w' ⟨rfl, ⟨nd, rfl⟩⟩; refine ⟨_, rfl, ?_⟩) | (go_at_call 93; (with_reducible refine (reedsolomon_distinct.calls a1 _ _ l2 false _ ?side1 ?side2 A9.out).mono ?_); (case side1 => repeat (first | exact (Kd.C_below HR2.out (by repeat (first | (with_reducible first | exact HB.out | apply below_alloc | apply pw_below_drewN | apply below_drew1) | exact HB.out))) | (with_reducible refine Kd.C_alloc ?_ _) | (with_reducible refine Kd.C_drewN ?_ _) | (with_reducible refine Kd.C_drew ?_))); (case side2 => exact HC2.out); rintro e w14 ⟨rfl, hb⟩; have n0_ := Aside0.mk (below_step (by repeat (first | (with_reducible first | exact HB.out | apply below_alloc | apply pw_below_drewN | apply below_drew1) | exact HB.out)) hb); clear HB; have HB := n0_; clear n0_; (try clear hb); (try clear hb2); (try clear hk); (try clear hi)))
          go_meet
          case rel => exact ⟨_, (true), (by first | rfl | (simp; done) | (simp [*]; done)), H', ⟨by first | omega | exact Nat.le_refl _⟩, ⟨by repeat (first | (with_reducible first | exact HB.out | apply below_alloc | apply pw_below_drewN | apply below_drew1) | exact HB.out)⟩⟩
      · rw [if_neg c8] at H
        have c8b0 : ((l2.length : Int) == (l3.length : Int)) = false := beq_eq_false_iff_ne.mpr c8
        have c8b1 : ((l2.length : Int) != (l3.length : Int)) = true := bne_iff_ne.mpr c8
        have c8b2 : (l2.length == l3.length) = false := by first | simpa using c8 | (simp at c8 ⊢; omega)
        (first | rw [c8b0] | rw [c8b1] | rw [c8b2] | (simp only [i64_w, i32_w]; rw [c8b0]) | skip)
        have H' := Aside0.mk H
        clear H
        go_wp2_with (first | ((with_reducible refine gate_callee (f := 37) rfl ?_); refine goesL_ (some 12) rfl rfl Try.func37 (by kernel_rfl) rfl #[.int .i64 a0, .int .i64 a1] rfl (by (try simp only [List.map_toArray, List.map_cons, List.map_nil]); first | done | rfl | (simp only [List.length_drop, List.length_take]; rfl)) ?_; (with_reducible refine (reedsolomon_Valid.calls a0 a1 true _ A6.out).mono ?_); rintro e w' ⟨rfl, ⟨nd, rfl⟩⟩; refine ⟨_, rfl, ?_⟩))
        go_meet
        case rel => exact ⟨_, (true), (by first | rfl | (simp; done) | (simp [*]; done)), H', ⟨by first | omega | exact Nat.le_refl _⟩, ⟨by repeat (first | (with_reducible first | exact HB.out | apply below_alloc | apply pw_below_drewN | apply below_drew1) | exact HB.out)⟩⟩
    · replace c7 := Bool.eq_false_iff.mpr c7
      subst c7
      have H1 : (reedsolomon_given.j0 k a0 l3 true) = some r := by rw [if_neg (show ¬ (false = true) by decide)] at H; exact H
      clear H
      have H := H1
      clear H1
      have H' := Aside0.mk H
      clear H
      go_wp2_with (first | ((with_reducible refine gate_callee (f := 37) rfl ?_); refine goesL_ (some 12) rfl rfl Try.func37 (by kernel_rfl) rfl #[.int .i64 a0, .int .i64 a1] rfl (by (try simp only [List.map_toArray, List.map_cons, List.map_nil]); first | done | rfl | (simp only [List.length_drop, List.length_take]; rfl)) ?_; (with_reducible refine (reedsolomon_Valid.calls a0 a1 false _ A6.out).mono ?_); rintro e w' ⟨rfl, ⟨nd, rfl⟩⟩; refine ⟨_, rfl, ?_⟩))
      go_meet
      case rel => exact ⟨_, (true), (by first | rfl | (simp; done) | (simp [*]; done)), H', ⟨by first | omega | exact Nat.le_refl _⟩, ⟨by repeat (first | (with_reducible first | exact HB.out | apply below_alloc | apply pw_below_drewN | apply below_drew1) | exact HB.out)⟩⟩
  case rest =>
    clear HC5; (try clear c1); (try clear c2); (try clear p2); (try clear c3); (try clear c7); (try clear c8); (try clear c8b0); (try clear c8b1); (try clear c8b2); (try clear c10)
    obtain ⟨kq, x9_4, rfl, HA, HJ4, HB⟩ := hcut
    cases kq with
    | zero => exact absurd HA.out (by simp [reedsolomon_given.j0])
    | succ kj4 =>
      have H := HA.out
      clear HA
      simp only [reedsolomon_given.j0] at H
      by_cases c15 : x9_4 = true
      · subst c15
        have H1 : (some 1) = some r := by rw [if_pos rfl] at H; exact H
        clear H
        have H := H1
        clear H1
        obtain rfl := Option.some.inj H
        go_wp2
        go_ret
        exact ⟨by first | rfl | (simp [errW_none, errW_some] <;> rfl) | (simp [*, errW_none, errW_some] <;> rfl), by repeat (first | (with_reducible first | exact HB.out | apply below_alloc | apply pw_below_drewN | apply below_drew1) | exact HB.out)⟩
      · replace c15 := Bool.eq_false_iff.mpr c15
        subst c15
        have H1 : (if (l3.length : Int) < a0 then (some 10) else (some 0)) = some r := by rw [if_neg (show ¬ (false = true) by decide)] at H; exact H
        clear H
        have H := H1
        clear H1
        by_cases c16 : (l3.length : Int) < a0
        · rw [if_pos c16] at H
          have c16b0 : decide ((l3.length : Int) < a0) = true := decide_eq_true c16
          clear c16
          obtain rfl := Option.some.inj H
          go_wp2
          go_ret
          exact ⟨by first | rfl | (simp [errW_none, errW_some] <;> rfl) | (simp [*, errW_none, errW_some] <;> rfl), by repeat (first | (with_reducible first | exact HB.out | apply below_alloc | apply pw_below_drewN | apply below_drew1) | exact HB.out)⟩
        · rw [if_neg c16] at H
          have c16b0 : decide ((l3.length : Int) < a0) = false := decide_eq_false c16
          clear c16
          obtain rfl := Option.some.inj H
          go_wp2
          go_ret
          exact ⟨by first | rfl | (simp [errW_none, errW_some] <;> rfl) | (simp [*, errW_none, errW_some] <;> rfl), by repeat (first | (with_reducible first | exact HB.out | apply below_alloc | apply pw_below_drewN | apply below_drew1) | exact HB.out)⟩
/-! ### reedsolomon_Reconstruct: function 41 -/
def reedsolomon_Reconstruct.l0 : Nat → Int → List Int → List (List Int) → List (List Int) → Int → Int → Option ((List (List Int)) × Int)
  | 0, _, _, _, _, _, _ => none
  | k + 1, x0, x2, x3, x11, x21, x22 => if x22 < x21 then ((reedsolomon_piece.f x0 x2 x3 x22).bind fun t116 => (if x11.length < 5864062014805 then (reedsolomon_Reconstruct.l0 k x0 x2 x3 (x11 ++ [t116]) x21 (wrap64 (x22 + 1))) else (none))) else (some (x11, 0))
def reedsolomon_Reconstruct.f (k : Nat) (a0 : Int) (a1 : Int) (l2 : List Int) (l3 : List (List Int)) : Option ((List (List Int)) × Int) := (reedsolomon_given.f k a0 a1 l2 l3).bind fun t115 => (if t115 = 0 then (reedsolomon_Reconstruct.l0 k a0 l2 l3 ([] : List (List Int)) a0 0) else (some (([] : List (List Int)), t115)))
set_option maxHeartbeats 8000000 in
set_option maxRecDepth 100000 in
theorem reedsolomon_Reconstruct.calls (k : Nat) (a0 : Int) (a1 : Int) (A2 : Option Addr) (c2 : Nat) (l2 : List Int) (A3 : Option Addr) (c3 : Nat) (l3 : List (List Int)) (r1 : List (List Int)) (r2 : Int) (w : World) (hr2 : Kd.C (Kd.int .i64) w A2 l2.length l2) (hc2 : l2.length ≤ c2) (hr3 : Kd.C (Kd.slice 5 (Kd.int .u8)) w A3 l3.length l3) (hc3 : l3.length ≤ c3) (h : reedsolomon_Reconstruct.f k a0 a1 l2 l3 = some (r1, r2)) :
    Calls Try.prog 41 #[.int .i64 a0, .int .i64 a1, .slice A2 l2.length c2, .slice A3 l3.length c3] w fun e w' => ∃ v0_ : Value, e = .returned (.tuple #[v0_, .int .i64 r2]) ∧ Kd.S (Kd.slice 5 (Kd.int .u8)) 34 w' w.heap.size (fun _ => True) v0_ r1 ∧ Below w.heap.size w w' := by
  have HR2 := Aside0.mk hr2
  have HC2 := Aside0.mk hc2
  clear hr2 hc2
  have HR3 := Aside0.mk hr3
  have HC3 := Aside0.mk hc3
  clear hr3 hc3
  have HB := Aside0.mk (Below.refl w.heap.size w)
  have H : ((reedsolomon_given.f k a0 a1 l2 l3).bind fun t115 => (if t115 = 0 then (reedsolomon_Reconstruct.l0 k a0 l2 l3 ([] : List (List Int)) a0 0) else (some (([] : List (List Int)), t115)))) = some (r1, r2) := h
  clear h
  replace H := Option.bind_eq_some_iff.mp H
  obtain ⟨t115, A50, H⟩ := H
  replace H : (if t115 = 0 then (reedsolomon_Reconstruct.l0 k a0 l2 l3 ([] : List (List Int)) a0 0) else (some (([] : List (List Int)), t115))) = some (r1, r2) := H
  have A5 := Aside0.mk A50
  clear A50
  by_cases c6 : t115 = 0
  · rw [if_pos c6] at H
    have c6b0 : (t115 == 0) = true := beq_iff_eq.mpr c6
    have c6b1 : (t115 != 0) = false := bne_eq_false_iff_eq.mpr c6
    clear c6
    have H' := Aside0.mk H
    clear H
    go_enter Try.func41, Try.ntmps41
    go_wp2_with (first | ((with_reducible refine gate_callee (f := 72) rfl ?_); refine goesL_ (some 17) rfl rfl Try.func72 (by kernel_rfl) rfl #[.int .i64 a0, .int .i64 a1, .slice A2 l2.length c2, .slice A3 l3.length c3] rfl (by (try simp only [List.map_toArray, List.map_cons, List.map_nil]); first | done | rfl | (simp only [List.length_drop, List.length_take]; rfl)) ?_; (with_reducible refine (reedsolomon_given.calls k a0 a1 _ _ l2 _ _ l3 t115 _ ?side1 ?side2 ?side3 ?side4 A5.out).mono ?_); (case side1 => repeat (first | exact HR2.out | (with_reducible refine Kd.C_alloc ?_ _) | (with_reducible refine Kd.C_drewN ?_ _) | (with_reducible refine Kd.C_drew ?_))); (case side2 => exact HC2.out); (case side3 => repeat (first | exact HR3.out | (with_reducible refine Kd.C_alloc ?_ _) | (with_reducible refine Kd.C_drewN ?_ _) | (with_reducible refine Kd.C_drew ?_))); (case side4 => exact HC3.out); rintro e w7 ⟨rfl, hb⟩; refine ⟨_, rfl, ?_⟩; have n0_ := Aside0.mk (below_step (by repeat (first | (with_reducible first | exact HB.out | apply below_alloc | apply pw_below_drewN | apply below_drew1) | exact HB.out)) hb); clear HB; have HB := n0_; clear n0_; (try clear hb); (try clear hb2); (try clear hk); (try clear hi)))
    go_loopg [11, 22] k (fun kq v11 v22 w' => ∃ (x11_1 : List (List Int)) (x22_1 : Int), v22 = .int .i64 x22_1 ∧ Aside0 (reedsolomon_Reconstruct.l0 kq a0 l2 l3 x11_1 a0 x22_1 = some (r1, r2)) ∧ Aside0 (kq ≤ k) ∧ Aside0 (Kd.S (Kd.slice 5 (Kd.int .u8)) 34 w' w.heap.size (fun _ => True) v11 x11_1) ∧ Aside0 (Below w.heap.size w w'))
    case atStart => exact ⟨(([] : List (List Int))), (0), (by first | rfl | (simp; done) | (simp [*]; done)), H', ⟨Nat.le_refl _⟩, ⟨by first | exact Kd.S_nil _ _ _ _ _ | exact Kd.N_nil _ _ _ _ _ | exact Kd.V_nil _ _ _ _ _ | exact Kd.Q_nil _ _ _ _ _ | exact Kd.R_nil _ _ _ _ _⟩, ⟨by repeat (first | (with_reducible first | exact HB.out | apply below_alloc | apply pw_below_drewN | apply below_drew1) | exact HB.out)⟩⟩
    case round =>
      clear H'; (try clear c2); (try clear p2); (try clear c3); (try clear c4); (try clear c6); (try clear c6b0); (try clear c6b1); (try clear c7)
      obtain ⟨x11_1, x22_1, rfl, HA, HK1, HO_11, HB⟩ := hrel
      cases gk with
      | zero => exact absurd HA.out (by simp [reedsolomon_Reconstruct.l0])
      | succ k1 =>
        have H := HA.out
        clear HA
        simp only [reedsolomon_Reconstruct.l0] at H
        by_cases c8 : x22_1 < a0
        · rw [if_pos c8] at H
          have c8b0 : decide (x22_1 < a0) = true := decide_eq_true c8
          clear c8
          replace H := Option.bind_eq_some_iff.mp H
          obtain ⟨t116, A90, H⟩ := H
          replace H : (if x11_1.length < 5864062014805 then (reedsolomon_Reconstruct.l0 k1 a0 l2 l3 (x11_1 ++ [t116]) a0 (wrap64 (x22_1 + 1))) else (none)) = some (r1, r2) := H
          have A9 := Aside0.mk A90
          clear A90
          by_cases c10 : x11_1.length < 5864062014805
          · rw [if_pos c10] at H
            have LMc10 := Aside0.mk c10
            clear c10
            obtain ⟨y119, hy119⟩ : ∃ y_ : List (List Int), y_ = (x11_1 ++ [t116]) := ⟨_, rfl⟩
            replace H : (reedsolomon_Reconstruct.l0 k1 a0 l2 l3 y119 a0 (wrap64 (x22_1 + 1))) = some (r1, r2) := by first | (rw [hy119]; with_reducible exact H) | (have H2_ := (Option.bind_some _ _).symm.trans H; rw [hy119]; with_reducible exact H2_) | (have H2_ := (Option.bind_some _ _).symm.trans H; with_reducible exact H2_) | with_reducible exact H | (rw [hy119]; exact H) | exact H
            have Ny119 := Aside0.mk hy119
            clear hy119
            have H' := Aside0.mk H
            clear H
            go_wp2_with (first | ((with_reducible refine gate_callee (f := 73) rfl ?_); refine goesL_ (some 30) rfl rfl Try.func73 (by kernel_rfl) rfl #[.int .i64 a0, .slice A2 l2.length c2, .slice A3 l3.length c3, .int .i64 x22_1] rfl (by (try simp only [List.map_toArray, List.map_cons, List.map_nil]); first | done | rfl | (simp only [List.length_drop, List.length_take]; rfl)) ?_; (with_reducible refine (reedsolomon_piece.calls a0 _ _ l2 _ _ l3 x22_1 t116 _ ?side1 ?side2 ?side3 ?side4 A9.out).mono ?_); (case side1 => repeat (first | exact (Kd.C_below HR2.out HB.out) | (with_reducible refine Kd.C_alloc ?_ _) | (with_reducible refine Kd.C_drewN ?_ _) | (with_reducible refine Kd.C_drew ?_))); (case side2 => exact HC2.out); (case side3 => repeat (first | exact (Kd.C_below HR3.out HB.out) | (with_reducible refine Kd.C_alloc ?_ _) | (with_reducible refine Kd.C_drewN ?_ _) | (with_reducible refine Kd.C_drew ?_))); (case side4 => exact HC3.out); rintro e w11 ⟨v117, rfl, ho0, hb⟩; refine ⟨_, rfl, ?_⟩; have n0_ := Aside0.mk (Kd.S_elder' (by (with_reducible repeat (first | apply Kd.S_alloc | apply Kd.S_drewN | apply Kd.S_drew)); exact HO_11.out) (Kd.R_base ho0) hb); have n1_ := Aside0.mk (Kd.R_lower ho0 (below_size (by repeat (first | (with_reducible first | exact HB.out | apply below_alloc | apply pw_below_drewN | apply below_drew1) | exact HB.out)))); have n2_ := Aside0.mk (below_step (by repeat (first | (with_reducible first | exact HB.out | apply below_alloc | apply pw_below_drewN | apply below_drew1) | exact HB.out)) hb); clear HO_11; clear HB; have HO_11 := n0_; have HO118 := n1_; have HB := n2_; clear n0_ n1_ n2_; (try clear hb); (try clear hb2); (try clear hk); (try clear hi); (try clear ho0); obtain ⟨Ao13, co13, eo13⟩ := Kd.R_slice HO118.out; subst eo13) | ((with_reducible refine gate_builtin (b := .append) (xs := #[.tmp 25, .tmp 31]) rfl ?_); at_builtin; refine Kd.S_append (Kd.slice 5 (Kd.int .u8)) (w0 := w) w.heap.size rfl (.tmp 25) (.tmp 31) 22 34 (.slice none 0 0) 24 rfl Try.underlying22 info34 rfl (by decide) (by omega) u11 x11_1 t116 [.slice Ao13 t116.length co13] (fun _ => True) (fun k_ => some k_ = (.slice Ao13 t116.length co13 : Value).ownBlock) rfl rfl ?aP (fun k_ hk_ => ((Kd.R_mono (ok' := fun k_ => ((fun _ => True)) k_ ∧ some k_ ≠ (u11 : Value).ownBlock) (Kd.R_apart' (HO118.out) (Kd.S_typed HO_11.out) (by decide)) (fun k_ hk => ⟨trivial, hk.2⟩))).1 k_ hk_.symm) ?aF ?aO ?aB ?aS ?aL ?_; (case aP => exact Kd.M_row (Kd.R_mono (Kd.R_tight rfl (Kd.R_mono (ok' := fun k_ => ((fun _ => True)) k_ ∧ some k_ ≠ (u11 : Value).ownBlock) (Kd.R_apart' (HO118.out) (Kd.S_typed HO_11.out) (by decide)) (fun k_ hk => ⟨trivial, hk.2⟩))) (fun _ h_ => h_))); (case aB => exact (by repeat (first | (with_reducible first | exact HB.out | apply below_alloc | apply pw_below_drewN | apply below_drew1) | exact HB.out))); (case aF => exact (fun _ _ => trivial)); (case aO => exact (by (with_reducible repeat (first | apply Kd.S_alloc | apply Kd.S_drewN | apply Kd.S_drew)); exact Kd.S_mono HO_11.out (fun k_ hk => ⟨trivial, fun e_ => hk.2 e_⟩))); (case aS => exact (below_size (by repeat (first | (with_reducible first | exact HB.out | apply below_alloc | apply pw_below_drewN | apply below_drew1) | exact HB.out)))); (case aL => have := LMc10.out; omega); intro v120 w12 ho hb hg hat; rw [← Ny119.out] at ho; have n0_ := Aside0.mk (hb); have n1_ := Aside0.mk (ho); clear HB; clear HO_11; clear HO118; have HB := n0_; have HO121 := n1_; clear n0_ n1_; clear ho hb hg hat))
            go_roundg k1
            case measure => have := HK1.out; omega
            case rel => exact ⟨(y119), (wrap64 (x22_1 + 1)), (by first | rfl | (simp; done) | (simp [*]; done)), H', ⟨by have := HK1.out; omega⟩, ⟨by (with_reducible repeat (first | apply Kd.S_alloc | apply Kd.S_drewN | apply Kd.S_drew)); exact HO121.out⟩, ⟨by repeat (first | (with_reducible first | exact HB.out | apply below_alloc | apply pw_below_drewN | apply below_drew1) | exact HB.out)⟩⟩
          · rw [if_neg c10] at H
            exact absurd H (by simp)
        · rw [if_neg c8] at H
          have c8b0 : decide (x22_1 < a0) = false := decide_eq_false c8
          clear c8
          simp only [Option.some.injEq, Prod.mk.injEq] at H
          obtain ⟨rfl, rfl⟩ := H
          go_wp2
          go_ret2
          exact ⟨_, by first | rfl | (simp [errW_none, errW_some] <;> rfl) | (simp [*, errW_none, errW_some] <;> rfl), by (with_reducible repeat (first | apply Kd.S_alloc | apply Kd.S_drewN | apply Kd.S_drew)); exact HO_11.out, by repeat (first | (with_reducible first | exact HB.out | apply below_alloc | apply pw_below_drewN | apply below_drew1) | exact HB.out)⟩
  · rw [if_neg c6] at H
    have c6b0 : (t115 == 0) = false := beq_eq_false_iff_ne.mpr c6
    have c6b1 : (t115 != 0) = true := bne_iff_ne.mpr c6
    simp only [Option.some.injEq, Prod.mk.injEq] at H
    obtain ⟨rfl, rfl⟩ := H
    go_enter Try.func41, Try.ntmps41
    go_wp2_with (first | ((with_reducible refine gate_callee (f := 72) rfl ?_); refine goesL_ (some 17) rfl rfl Try.func72 (by kernel_rfl) rfl #[.int .i64 a0, .int .i64 a1, .slice A2 l2.length c2, .slice A3 l3.length c3] rfl (by (try simp only [List.map_toArray, List.map_cons, List.map_nil]); first | done | rfl | (simp only [List.length_drop, List.length_take]; rfl)) ?_; (with_reducible refine (reedsolomon_given.calls k a0 a1 _ _ l2 _ _ l3 t115 _ ?side1 ?side2 ?side3 ?side4 A5.out).mono ?_); (case side1 => repeat (first | exact HR2.out | (with_reducible refine Kd.C_alloc ?_ _) | (with_reducible refine Kd.C_drewN ?_ _) | (with_reducible refine Kd.C_drew ?_))); (case side2 => exact HC2.out); (case side3 => repeat (first | exact HR3.out | (with_reducible refine Kd.C_alloc ?_ _) | (with_reducible refine Kd.C_drewN ?_ _) | (with_reducible refine Kd.C_drew ?_))); (case side4 => exact HC3.out); rintro e w14 ⟨rfl, hb⟩; refine ⟨_, rfl, ?_⟩; have n0_ := Aside0.mk (below_step (by repeat (first | (with_reducible first | exact HB.out | apply below_alloc | apply pw_below_drewN | apply below_drew1) | exact HB.out)) hb); clear HB; have HB := n0_; clear n0_; (try clear hb); (try clear hb2); (try clear hk); (try clear hi)))
    go_ret2
    exact ⟨_, by first | rfl | (simp [errW_none, errW_some] <;> rfl) | (simp [*, errW_none, errW_some] <;> rfl), by first | exact Kd.S_nil _ _ _ _ _ | exact Kd.N_nil _ _ _ _ _ | exact Kd.V_nil _ _ _ _ _ | exact Kd.Q_nil _ _ _ _ _ | exact Kd.R_nil _ _ _ _ _, by repeat (first | (with_reducible first | exact HB.out | apply below_alloc | apply pw_below_drewN | apply below_drew1) | exact HB.out)⟩
end Go.Proofs.Ytpkghpljgjlmjaa.K
/- A set of ints: map[int]bool of the call's own. -/
namespace Go.Proofs.Ytpkghpljgjlmjaa.K
open Go.RowKit Go.Proofs.YtpkghpljgjlmjaaW.PrintWords Go.Maps
set_option linter.unusedSimpArgs false
set_option linter.unusedVariables false
theorem plainElem_bool_inv {H : Type} {P : Program} {e : TypeId} (he : P.underlying e = some .bool) {v : Value} {z : DataW H × List MemPlace} (h : plainElem P e v = some z) : ∃ x, v = .bool x ∧ z = (.lit (.bool x), []) := by
  unfold plainElem at h
  rw [he] at h
  cases v <;> simp at h
  subst h
  exact ⟨_, rfl, rfl⟩
/-- Block b is a map with at most n entries whose keys with true are those of the list. -/
def SetSt (w : World) (b n : Nat) (I : List Int) : Prop := ∃ D : DataW Unit, w.ownsMap Try.prog 3 (plainElem Try.prog 4) b n D ∧ IsMap D ∧ ∀ x : Int, D.atKey (.int .i64 x) (.lit (.bool false)) = .lit (.bool (decide (x ∈ I)))
theorem set_made (w : World) : SetSt (w.alloc (.map #[] 0)) w.heap.size 0 [] := by
  refine ⟨.map [], World.ownsMap_made _ _ _ _, ⟨_, rfl⟩, fun x => ?_⟩
  show DataW.lit (Lit.bool false) = _
  simp
theorem SetSt.lt {w : World} {b n : Nat} {I : List Int} (h : SetSt w b n I) : b < w.heap.size := by
  obtain ⟨D, h1, _⟩ := h
  exact h1.lt
theorem SetSt.kept {w w' : World} {b n : Nat} {I : List Int} {row : Option Nat} (h : SetSt w b n I) (hg : w.grownBy w' row) (hne : some b ≠ row) : SetSt w' b n I := by
  obtain ⟨D, h1, h2, h3⟩ := h
  exact ⟨D, h1.kept hg hne, h2, h3⟩
theorem SetSt.below {w w' : World} {b n : Nat} {I : List Int} (h : SetSt w b n I) (hb : Below w.heap.size w w') : SetSt w' b n I := h.kept (grown_of_below hb none) (by simp)
theorem SetSt.typed {w : World} {b n : Nat} {I : List Int} (h : SetSt w b n I) : ∃ es clock, w.heap[b]? = some (.map es clock) := by
  obtain ⟨D, ⟨es, clock, h1, _⟩, _⟩ := h
  exact ⟨es, clock, h1⟩
set_option maxRecDepth 100000 in
theorem set_look {w : World} {b n : Nat} {I : List Int} (h : SetSt w b n I) {x : Int} (hw : (Lit.int .i64 x).wf = true) : (Instr.lookup 53 (.map (some b)) (.int .i64 x) false).run Try.prog w = .ok (.bool (decide (x ∈ I))) w := by
  obtain ⟨D, h1, h2, h3⟩ := h
  have hz : (zeroValue 4).run Try.prog w = .ok (.bool false) w := by kernel_rfl
  obtain ⟨v, ps, hrun, hv⟩ := h1.lookup (int_keyed Try.underlying3) Try.underlying53 hz (plainElem_bool Try.underlying4 false) (keyOf_int_mk Try.underlying3 hw)
  rw [h3 x] at hv
  obtain ⟨y, rfl, hy⟩ := plainElem_bool_inv Try.underlying4 hv
  simp only [Prod.mk.injEq] at hy
  have := hy.1
  injection this with this
  injection this with this
  rw [hrun, this]
set_option maxRecDepth 100000 in
theorem set_put {ops : Array Oper} {rest : List Oper} {o : Oper} {a : Act} {Q : Exit → Act → World → Prop} (w : World) (hg : o.guard = none) (m x : Operand) (hop : o.op = Op.mapUpdate 53 m x (.const (.bool true))) {b n : Nat} {I : List Int} {k : Int}
    (hm : a.eval m = .map (some b)) (hx : a.eval x = .int .i64 k) (h : SetSt w b n I) (hn : n < 1000000) (hw : (Lit.int .i64 k).wf = true)
    (hK : ∀ w', SetSt w' b (n + 1) (k :: I) → w.grownBy w' (some b) → wpList Try.prog ops Q rest (a.put o.dst undef) w') : wpList Try.prog ops Q (o :: rest) a w := by
  obtain ⟨D, h1, h2, h3⟩ := h
  refine wpList_mapUpdate_own w hg m x (.const (.bool true)) 53 hop 3 4 (int_keyed Try.underlying3) Try.underlying53 _ b n D hm h1 (by unfold maxLen; omega) (.int .i64 k) (.bool true) (.int .i64 k) hx rfl (keyOf_int_mk Try.underlying3 hw) (.lit (.bool true)) [] (plainElem_bool Try.underlying4 true) ?_
  intro w' h1' hg'
  refine hK w' ⟨_, h1', ?_, fun z => ?_⟩ hg'
  · exact h2.put _ _
  · by_cases e : z = k
    · subst e
      rw [atKey_put_same h2 (by trivial)]
      simp
    · rw [atKey_put_other (by simpa using e), h3 z]
      simp [e]
end Go.Proofs.Ytpkghpljgjlmjaa.K
/- What the law of any pieces holds while it picks: words. -/
namespace Go.Proofs.Ytpkghpljgjlmjaa.K
open Go.RowKit Go.Proofs.YtpkghpljgjlmjaaW.PrintWords Go.Proofs.YtpkghpljgjlmjaaW.PrintLast Go.Proofs.YtpkghpljgjlmjaaW.PrintMore Go.Maps
set_option linter.unusedSimpArgs false
set_option linter.unusedVariables false
theorem three_ {P : Program} {ops : Array Oper} {Q : Exit → Act → World → Prop} {md : Region.Mode} {S : World → Prop} {ds : List Nat} {i j k : Nat} {Ni Nj Nk : Option Tmp} {oi oj ok : Oper} {fuel : Nat} {l : Array Bool} {a : Act} {w : World} (li lj lk : Array Bool) (hi : ops[i]? = some oi) (hj : ops[j]? = some oj) (hk : ops[k]? = some ok) (hNi : oi.dst = Ni) (hNj : oj.dst = Nj) (hNk : ok.dst = Nk)
    (hc : (Region.ready md ops l == [i, j, k] && l.setIfInBounds i true == li && l.setIfInBounds j true == lj && l.setIfInBounds k true == lk) = true) (hdi : i ∉ ds) (hdj : j ∉ ds) (hdk : k ∉ ds)
    (h1 : ∀ K : Act → World → Prop, Shut (∀ a' w', S w' → (S w' → wpAnyLast P md ops Q S ds fuel li a' w') → K a' w') → if Region.wanted oi (yielded ops a.tmps) = true then Oper.wp P oi a w K Q else K (a.put Ni undef) w)
    (h2 : ∀ K : Act → World → Prop, Shut (∀ a' w', S w' → (S w' → wpAnyLast P md ops Q S ds fuel lj a' w') → K a' w') → if Region.wanted oj (yielded ops a.tmps) = true then Oper.wp P oj a w K Q else K (a.put Nj undef) w)
    (h3 : ∀ K : Act → World → Prop, Shut (∀ a' w', S w' → (S w' → wpAnyLast P md ops Q S ds fuel lk a' w') → K a' w') → if Region.wanted ok (yielded ops a.tmps) = true then Oper.wp P ok a w K Q else K (a.put Nk undef) w) :
    wpAnyLast P md ops Q S ds (fuel + 1) l a w := by
  subst hNi
  subst hNj
  subst hNk
  simp only [Bool.and_eq_true, beq_iff_eq] at hc
  obtain ⟨⟨⟨h4, h5⟩, h6⟩, h7⟩ := hc
  subst h5
  subst h6
  subst h7
  exact wpAnyLast_ready h4 (by simp) (AllReadyL.cons hi hdi (fun K hK => h1 K hK) (AllReadyL.cons hj hdj (fun K hK => h2 K hK) (AllReadyL.cons hk hdk (fun K hK => h3 K hK) AllReadyL.nil)))
theorem three_of {md : Region.Mode} {ops : Array Oper} {T : Bool × List (List Nat × List Nat)} {l li lj lk : Array Bool} {i j k : Nat} (hT : rtab md ops = T) (h : (readyT T.2 l.toList == [i, j, k] && l.toList.set i true == li.toList && l.toList.set j true == lj.toList && l.toList.set k true == lk.toList) = true) :
    (Region.ready md ops l == [i, j, k] && l.setIfInBounds i true == li && l.setIfInBounds j true == lj && l.setIfInBounds k true == lk) = true := by
  simp only [Bool.and_eq_true] at h ⊢
  obtain ⟨⟨⟨h1, h2⟩, h3⟩, h4⟩ := h
  subst hT
  exact ⟨⟨⟨by rw [ready_eq]; exact h1, set_of h2⟩, set_of h3⟩, set_of h4⟩
section
variable {α : Type} {d : Kd α} {e base : Nat} {ok : Nat → Prop} {w w1 : World} {v : Value} {xs : List α}
theorem R_overmap (h : d.R e w base ok v xs) {g : Nat} {es : Array MapEntry} {c : Nat} (hm : w.heap[g]? = some (.map es c)) (hg : w.grownBy w1 (some g)) : d.R e w1 base ok v xs :=
  Kd.R_mono (Kd.R_move (Kd.R_bound h) (fun k hk => hg.block k hk.2.2.1 (fun he => by
    obtain ⟨_, _, _, q, hq, cells, hc⟩ := hk
    injection he with he
    subst he
    rw [hc] at hm
    cases hm))) (fun _ hk => hk.1)
end
def RowC (w : World) (v : Value) (r : List Int) : Prop := ∃ A c, v = .slice A r.length c ∧ r.length ≤ c ∧ Kd.C (Kd.int .u8) w A r.length r
theorem RowC.later {w w1 : World} {v : Value} {r : List Int} (h : RowC w v r) (hb : Below w.heap.size w w1) : RowC w1 v r := by
  obtain ⟨A, c, h1, h2, h3⟩ := h
  exact ⟨A, c, h1, h2, Kd.C_below h3 hb⟩
theorem RowC.of_R {w : World} {base e : Nat} {ok : Nat → Prop} {v : Value} {r : List Int} (h : Kd.R (Kd.int .u8) e w base ok v r) : RowC w v r := Kd.R_reads h
theorem C_raw1 {w : World} {g : Nat} {v : Value} {t : Nat} (h : w.heap[g]? = some (.cells #[v] t (0, 0))) (hv : v.oneCell' = true) : Kd.C (Kd.raw 1) w (some ⟨g, 0, none⟩) 1 [[v]] := by
  refine ⟨rfl, by omega, fun _ => ⟨_, rfl, fun j p hj => ?_⟩⟩
  cases j with
  | zero =>
    simp only [List.getElem?_cons_zero, Option.some.injEq] at hj
    subst hj
    refine ⟨[v], rfl, ⟨rfl, rfl, fun u hu => by rw [List.mem_singleton.1 hu]; exact hv⟩, fun i u hi => ?_⟩
    cases i with
    | zero =>
      simp only [List.getElem?_cons_zero, Option.some.injEq] at hi
      subst hi
      rw [show 0 * (Kd.raw 1).sz + 0 = 0 from by omega, Addr.add_zero', blk_cell h]
      rfl
    | succ i => simp at hi
  | succ j => simp at hj
theorem C_int1 {w : World} {g : Nat} {x : Int} {t : Nat} (h : w.heap[g]? = some (.cells #[.int .i64 x] t (0, 0))) : Kd.C (Kd.int .i64) w (some ⟨g, 0, none⟩) 1 [x] := by
  refine C_at (zs := [x]) (by simp [maxLen]) fun i hi => ?_
  obtain rfl : i = 0 := by simpa using hi
  rw [Addr.add_zero', blk_cell h]
  rfl
/-- Headers that a list of the call's own holds, of rows that can be read: a list of rows. -/
theorem C_of_raw {w : World} {base e : Nat} {ok : Nat → Prop} {v : Value} {H : List Value} {P : List (List Int)} (h : Kd.R (Kd.raw 1) e w base ok v (H.map fun x => [x])) (hl : H.length = P.length) (hr : ∀ (j : Nat) (x : Value), H[j]? = some x → ∃ r, P[j]? = some r ∧ RowC w x r) :
    ∃ A c, v = .slice A P.length c ∧ P.length ≤ c ∧ Kd.C (Kd.slice 5 (Kd.int .u8)) w A P.length P := by
  obtain ⟨A, c, hv, hc, h1, h2, h3⟩ := Kd.R_reads h
  rw [List.length_map, hl] at hv hc h2 h3
  refine ⟨A, c, hv, hc, rfl, h2, fun hp => ?_⟩
  obtain ⟨ad, ha, hcell⟩ := h3 hp
  refine ⟨ad, ha, fun j r hj => ?_⟩
  have hjl : j < H.length := by have := (List.getElem?_eq_some_iff.1 hj).1; omega
  obtain ⟨r', hr1, hr2⟩ := hr j H[j] (List.getElem?_eq_getElem hjl)
  rw [hj] at hr1
  injection hr1 with hr1
  subst hr1
  obtain ⟨cs, hcl, hK, hcc⟩ := hcell j [H[j]] (by rw [List.getElem?_map, List.getElem?_eq_getElem hjl]; rfl)
  obtain ⟨A2, c2, e1, e2, e3⟩ := hr2
  refine ⟨cs, hcl, ⟨A2, c2, ?_, e2, e3⟩, hcc⟩
  rw [hK.1, e1]
/-- The state of the picking: the numbers, the pieces' headers, the rows' headers; the set of what is picked. -/
structure AnySt (w0 w : World) (gm nm : Nat) (J : List Int) (v12 : Value) (xs : List Int) (v13 : Value) (H13 : List Value) (P13 : List (List Int)) (v14 : Value) (H14 : List Value) (P14 : List (List Int)) : Prop where
  r12 : Kd.R (Kd.int .i64) 3 w w0.heap.size (fun _ => True) v12 xs
  r13 : Kd.R (Kd.raw 1) 34 w w0.heap.size (fun k => some k ≠ v14.ownBlock) v13 (H13.map fun x => [x])
  r14 : Kd.R (Kd.raw 1) 34 w w0.heap.size (fun k => some k ≠ v13.ownBlock) v14 (H14.map fun x => [x])
  l13 : H13.length = P13.length
  l14 : H14.length = P14.length
  e13 : ∀ (j : Nat) (x : Value), H13[j]? = some x → ∃ r, P13[j]? = some r ∧ RowC w0 x r
  e14 : ∀ (j : Nat) (x : Value), H14[j]? = some x → ∃ r, P14[j]? = some r ∧ Kd.R (Kd.int .u8) 5 w w0.heap.size (fun _ => True) x r
  set : SetSt w gm nm J
  below : Below w0.heap.size w0 w
  gm0 : w0.heap.size ≤ gm
section
variable {w0 w w1 : World} {gm nm : Nat} {J : List Int} {v12 v13 v14 : Value} {xs : List Int} {H13 H14 : List Value} {P13 P14 : List (List Int)}
theorem AnySt.later (h : AnySt w0 w gm nm J v12 xs v13 H13 P13 v14 H14 P14) (hb : Below w.heap.size w w1) : AnySt w0 w1 gm nm J v12 xs v13 H13 P13 v14 H14 P14 :=
  ⟨Kd.R_below h.r12 hb, Kd.R_below h.r13 hb, Kd.R_below h.r14 hb, h.l13, h.l14, h.e13, fun j x hx => by obtain ⟨r, h1, h2⟩ := h.e14 j x hx; exact ⟨r, h1, Kd.R_below h2 hb⟩, h.set.below hb, h.below.trans (hb.mono h.below.size), h.gm0⟩
theorem AnySt.put (h : AnySt w0 w gm nm J v12 xs v13 H13 P13 v14 H14 P14) {nm' : Nat} {J' : List Int} (hs : SetSt w1 gm nm' J') (hg : w.grownBy w1 (some gm)) : AnySt w0 w1 gm nm' J' v12 xs v13 H13 P13 v14 H14 P14 := by
  obtain ⟨es, c, hm⟩ := h.set.typed
  refine ⟨R_overmap h.r12 hm hg, R_overmap h.r13 hm hg, R_overmap h.r14 hm hg, h.l13, h.l14, h.e13, fun j x hx => ?_, hs, ⟨hg.os.trans h.below.os, hg.tape.trans h.below.tape, hg.output.trans h.below.output, Nat.le_trans h.below.size hg.size, fun k hk => ?_⟩, h.gm0⟩
  · obtain ⟨r, h1, h2⟩ := h.e14 j x hx
    exact ⟨r, h1, R_overmap h2 hm hg⟩
  · rw [hg.block k (by have := h.below.size; omega) (by intro e; injection e with e; have := h.gm0; omega)]
    exact h.below.block k hk
theorem AnySt.app12 (h : AnySt w0 w gm nm J v12 xs v13 H13 P13 v14 H14 P14) {v : Value} {ys : List Int} (hr : Kd.R (Kd.int .i64) 3 w1 w0.heap.size (fun _ => True) v ys) (hb : Below w0.heap.size w0 w1) (hg : w.grownBy w1 v12.ownBlock) : AnySt w0 w1 gm nm J v ys v13 H13 P13 v14 H14 P14 := by
  have ty := Kd.R_typed h.r12
  refine ⟨hr, Kd.R_over' h.r13 ty (by intro q hq; simp [Kd.raw] at hq; rw [hq]; decide) hg, Kd.R_over' h.r14 ty (by intro q hq; simp [Kd.raw] at hq; rw [hq]; decide) hg, h.l13, h.l14, h.e13, fun j x hx => ?_, h.set.kept hg (fun e => ?_), hb, h.gm0⟩
  · obtain ⟨r, h1, h2⟩ := h.e14 j x hx
    exact ⟨r, h1, Kd.R_over' h2 ty (by intro q hq; simp [Kd.int, Kd.scalar] at hq; rw [hq]; decide) hg⟩
  · obtain ⟨es, c, hm⟩ := h.set.typed
    obtain ⟨cells, hc⟩ := ty gm e.symm
    rw [hm] at hc
    cases hc
theorem AnySt.app13 (h : AnySt w0 w gm nm J v12 xs v13 H13 P13 v14 H14 P14) {v x : Value} {r : List Int} (hr : Kd.R (Kd.raw 1) 34 w1 w0.heap.size (fun k => some k ≠ v14.ownBlock) v ((H13.map fun x => [x]) ++ [[x]])) (hx : RowC w0 x r) (hb : Below w0.heap.size w0 w1) (hg : w.grownBy w1 v13.ownBlock) (hat : v.ownBlock = v13.ownBlock ∨ ∃ b, v.ownBlock = some b ∧ w.heap.size ≤ b) :
    AnySt w0 w1 gm nm J v12 xs v (H13 ++ [x]) (P13 ++ [r]) v14 H14 P14 := by
  have ty := Kd.R_typed h.r13
  refine ⟨Kd.R_over' h.r12 ty (by intro q hq; simp [Kd.int, Kd.scalar] at hq; rw [hq]; decide) hg, by rw [List.map_append]; exact hr, Kd.R_mono (Kd.R_after (ok := fun _ => True) (Kd.R_mono h.r14 (fun k hk => ⟨trivial, hk⟩)) hg hat) (fun k hk => hk.2), by rw [List.length_append, List.length_append, h.l13]; rfl, h.l14, fun j y hy => ?_, fun j y hy => ?_, h.set.kept hg (fun e => ?_), hb, h.gm0⟩
  · by_cases hj : j < H13.length
    · rw [List.getElem?_append_left hj] at hy
      obtain ⟨s, h1, h2⟩ := h.e13 j y hy
      exact ⟨s, by rw [List.getElem?_append_left (by rw [← h.l13]; exact hj)]; exact h1, h2⟩
    · have hjl := (List.getElem?_eq_some_iff.1 hy).1
      rw [List.length_append] at hjl
      have hje : j = H13.length := by simp at hjl; omega
      subst hje
      rw [List.getElem?_append_right (Nat.le_refl _)] at hy
      simp at hy
      subst hy
      exact ⟨r, by rw [h.l13, List.getElem?_append_right (Nat.le_refl _)]; simp, hx⟩
  · obtain ⟨s, h1, h2⟩ := h.e14 j y hy
    exact ⟨s, h1, Kd.R_over' h2 ty (by intro q hq; simp [Kd.int, Kd.scalar] at hq; rw [hq]; decide) hg⟩
  · obtain ⟨es, c, hm⟩ := h.set.typed
    obtain ⟨cells, hc⟩ := ty gm e.symm
    rw [hm] at hc
    cases hc
theorem AnySt.app14 (h : AnySt w0 w gm nm J v12 xs v13 H13 P13 v14 H14 P14) {v x : Value} {r : List Int} (hr : Kd.R (Kd.raw 1) 34 w1 w0.heap.size (fun k => some k ≠ v13.ownBlock) v ((H14.map fun x => [x]) ++ [[x]])) (hx : Kd.R (Kd.int .u8) 5 w w0.heap.size (fun _ => True) x r) (hb : Below w0.heap.size w0 w1) (hg : w.grownBy w1 v14.ownBlock) (hat : v.ownBlock = v14.ownBlock ∨ ∃ b, v.ownBlock = some b ∧ w.heap.size ≤ b) :
    AnySt w0 w1 gm nm J v12 xs v13 H13 P13 v (H14 ++ [x]) (P14 ++ [r]) := by
  have ty := Kd.R_typed h.r14
  refine ⟨Kd.R_over' h.r12 ty (by intro q hq; simp [Kd.int, Kd.scalar] at hq; rw [hq]; decide) hg, Kd.R_mono (Kd.R_after (ok := fun _ => True) (Kd.R_mono h.r13 (fun k hk => ⟨trivial, hk⟩)) hg hat) (fun k hk => hk.2), by rw [List.map_append]; exact hr, h.l13, by rw [List.length_append, List.length_append, h.l14]; rfl, h.e13, fun j y hy => ?_, h.set.kept hg (fun e => ?_), hb, h.gm0⟩
  · by_cases hj : j < H14.length
    · rw [List.getElem?_append_left hj] at hy
      obtain ⟨s, h1, h2⟩ := h.e14 j y hy
      exact ⟨s, by rw [List.getElem?_append_left (by rw [← h.l14]; exact hj)]; exact h1, Kd.R_over' h2 ty (by intro q hq; simp [Kd.int, Kd.scalar] at hq; rw [hq]; decide) hg⟩
    · have hjl := (List.getElem?_eq_some_iff.1 hy).1
      rw [List.length_append] at hjl
      have hje : j = H14.length := by simp at hjl; omega
      subst hje
      rw [List.getElem?_append_right (Nat.le_refl _)] at hy
      simp at hy
      subst hy
      exact ⟨r, by rw [h.l14, List.getElem?_append_right (Nat.le_refl _)]; simp, Kd.R_over' hx ty (by intro q hq; simp [Kd.int, Kd.scalar] at hq; rw [hq]; decide) hg⟩
  · obtain ⟨es, c, hm⟩ := h.set.typed
    obtain ⟨cells, hc⟩ := ty gm e.symm
    rw [hm] at hc
    cases hc
end
/-- Between the parts of the statement that appends three times: what each variable holds; the literals that are made and not used yet. -/
structure S17 (w0 w : World) (gm nm : Nat) (J : List Int) (v12 : Value) (xs : List Int) (v13 : Value) (H13 : List Value) (P13 : List (List Int)) (v14 : Value) (H14 : List Value) (P14 : List (List Int)) (v6 : Value) (r6 : List Int) (L1 L2 L3 : Option Nat) (x1 x2 x3 : Value) : Prop where
  st : AnySt w0 w gm nm J v12 xs v13 H13 P13 v14 H14 P14
  row : Kd.R (Kd.int .u8) 5 w w0.heap.size (fun _ => True) v6 r6
  l1 : ∀ b, L1 = some b → w.heap[b]? = some (.cells #[x1] 3 (0, 0)) ∧ v12.ownBlock ≠ some b
  l2 : ∀ b, L2 = some b → w.heap[b]? = some (.cells #[x2] 34 (0, 0)) ∧ v13.ownBlock ≠ some b ∧ v14.ownBlock ≠ some b
  l3 : ∀ b, L3 = some b → w.heap[b]? = some (.cells #[x3] 34 (0, 0)) ∧ v13.ownBlock ≠ some b ∧ v14.ownBlock ≠ some b
section
variable {w0 w w1 : World} {gm nm : Nat} {J : List Int} {v12 v13 v14 v6 x1 x2 x3 : Value} {xs r6 : List Int} {H13 H14 : List Value} {P13 P14 : List (List Int)} {L1 L2 L3 : Option Nat}
theorem S17.later (h : S17 w0 w gm nm J v12 xs v13 H13 P13 v14 H14 P14 v6 r6 L1 L2 L3 x1 x2 x3) (hb : Below w.heap.size w w1) : S17 w0 w1 gm nm J v12 xs v13 H13 P13 v14 H14 P14 v6 r6 L1 L2 L3 x1 x2 x3 :=
  ⟨h.st.later hb, Kd.R_below h.row hb, fun b e => ⟨(hb.block b (blk_lt (h.l1 b e).1)).trans (h.l1 b e).1, (h.l1 b e).2⟩, fun b e => ⟨(hb.block b (blk_lt (h.l2 b e).1)).trans (h.l2 b e).1, (h.l2 b e).2⟩, fun b e => ⟨(hb.block b (blk_lt (h.l3 b e).1)).trans (h.l3 b e).1, (h.l3 b e).2⟩⟩
theorem S17.new1 (h : S17 w0 w gm nm J v12 xs v13 H13 P13 v14 H14 P14 v6 r6 L1 L2 L3 x1 x2 x3) : S17 w0 (w.alloc (.cells #[x1] 3 (0, 0))) gm nm J v12 xs v13 H13 P13 v14 H14 P14 v6 r6 (some w.heap.size) L2 L3 x1 x2 x3 := by
  have hl := h.later (below_alloc (Below.refl _ w) (.cells #[x1] 3 (0, 0)))
  refine ⟨hl.st, hl.row, fun b e => ?_, hl.l2, hl.l3⟩
  injection e with e
  subst e
  exact ⟨heap_alloc_new _ _, fun e => Nat.lt_irrefl _ (Kd.R_lt h.st.r12 _ e)⟩
theorem S17.new2 (h : S17 w0 w gm nm J v12 xs v13 H13 P13 v14 H14 P14 v6 r6 L1 L2 L3 x1 x2 x3) : S17 w0 (w.alloc (.cells #[x2] 34 (0, 0))) gm nm J v12 xs v13 H13 P13 v14 H14 P14 v6 r6 L1 (some w.heap.size) L3 x1 x2 x3 := by
  have hl := h.later (below_alloc (Below.refl _ w) (.cells #[x2] 34 (0, 0)))
  refine ⟨hl.st, hl.row, hl.l1, fun b e => ?_, hl.l3⟩
  injection e with e
  subst e
  exact ⟨heap_alloc_new _ _, fun e => Nat.lt_irrefl _ (Kd.R_lt h.st.r13 _ e), fun e => Nat.lt_irrefl _ (Kd.R_lt h.st.r14 _ e)⟩
theorem S17.new3 (h : S17 w0 w gm nm J v12 xs v13 H13 P13 v14 H14 P14 v6 r6 L1 L2 L3 x1 x2 x3) : S17 w0 (w.alloc (.cells #[x3] 34 (0, 0))) gm nm J v12 xs v13 H13 P13 v14 H14 P14 v6 r6 L1 L2 (some w.heap.size) x1 x2 x3 := by
  have hl := h.later (below_alloc (Below.refl _ w) (.cells #[x3] 34 (0, 0)))
  refine ⟨hl.st, hl.row, hl.l1, hl.l2, fun b e => ?_⟩
  injection e with e
  subst e
  exact ⟨heap_alloc_new _ _, fun e => Nat.lt_irrefl _ (Kd.R_lt h.st.r13 _ e), fun e => Nat.lt_irrefl _ (Kd.R_lt h.st.r14 _ e)⟩
theorem ne_type {w : World} {b : Nat} {x : Value} {t t' : Nat} {v : Value} (ty : ∀ k, v.ownBlock = some k → ∃ cells, w.heap[k]? = some (.cells cells t (0, 0))) (h : w.heap[b]? = some (.cells #[x] t' (0, 0))) (hne : t ≠ t') : some b ≠ v.ownBlock := by
  intro e
  obtain ⟨cells, hc⟩ := ty b e.symm
  rw [h] at hc
  injection hc with hc
  injection hc with _ hc
  exact hne hc.symm
theorem ne_after {w : World} {v v' : Value} {b : Nat} (hat : v'.ownBlock = v.ownBlock ∨ ∃ q, v'.ownBlock = some q ∧ w.heap.size ≤ q) (hb : b < w.heap.size) (h : v.ownBlock ≠ some b) : v'.ownBlock ≠ some b := by
  rcases hat with e | ⟨q, e, hq⟩
  · rw [e]; exact h
  · rw [e]; intro e2; injection e2 with e2; omega
theorem S17.app12 (h : S17 w0 w gm nm J v12 xs v13 H13 P13 v14 H14 P14 v6 r6 L1 L2 L3 x1 x2 x3) {v : Value} {ys : List Int} (hr : Kd.R (Kd.int .i64) 3 w1 w0.heap.size (fun _ => True) v ys) (hb : Below w0.heap.size w0 w1) (hg : w.grownBy w1 v12.ownBlock) :
    S17 w0 w1 gm nm J v ys v13 H13 P13 v14 H14 P14 v6 r6 none L2 L3 x1 x2 x3 := by
  have ty := Kd.R_typed h.st.r12
  exact ⟨h.st.app12 hr hb hg, Kd.R_over' h.row ty (by intro q hq; simp [Kd.int, Kd.scalar] at hq; rw [hq]; decide) hg, fun b e => (by cases e), fun b e => ⟨blk_grown (h.l2 b e).1 hg (ne_type ty (h.l2 b e).1 (by decide)), (h.l2 b e).2⟩, fun b e => ⟨blk_grown (h.l3 b e).1 hg (ne_type ty (h.l3 b e).1 (by decide)), (h.l3 b e).2⟩⟩
theorem S17.app13 (h : S17 w0 w gm nm J v12 xs v13 H13 P13 v14 H14 P14 v6 r6 L1 L2 L3 x1 x2 x3) {v x : Value} {r : List Int} (hr : Kd.R (Kd.raw 1) 34 w1 w0.heap.size (fun k => some k ≠ v14.ownBlock) v ((H13.map fun x => [x]) ++ [[x]])) (hx : RowC w0 x r) (hb : Below w0.heap.size w0 w1) (hg : w.grownBy w1 v13.ownBlock) (hat : v.ownBlock = v13.ownBlock ∨ ∃ b, v.ownBlock = some b ∧ w.heap.size ≤ b) :
    S17 w0 w1 gm nm J v12 xs v (H13 ++ [x]) (P13 ++ [r]) v14 H14 P14 v6 r6 none none L3 x1 x2 x3 := by
  have ty := Kd.R_typed h.st.r13
  exact ⟨h.st.app13 hr hx hb hg hat, Kd.R_over' h.row ty (by intro q hq; simp [Kd.int, Kd.scalar] at hq; rw [hq]; decide) hg, fun b e => (by cases e), fun b e => (by cases e), fun b e => ⟨blk_grown (h.l3 b e).1 hg (fun e2 => (h.l3 b e).2.1 e2.symm), ne_after hat (blk_lt (h.l3 b e).1) (h.l3 b e).2.1, (h.l3 b e).2.2⟩⟩
theorem S17.app14 (h : S17 w0 w gm nm J v12 xs v13 H13 P13 v14 H14 P14 v6 r6 L1 L2 L3 x1 x2 x3) {v : Value} (hr : Kd.R (Kd.raw 1) 34 w1 w0.heap.size (fun k => some k ≠ v13.ownBlock) v ((H14.map fun x => [x]) ++ [[v6]])) (hb : Below w0.heap.size w0 w1) (hg : w.grownBy w1 v14.ownBlock) (hat : v.ownBlock = v14.ownBlock ∨ ∃ b, v.ownBlock = some b ∧ w.heap.size ≤ b) :
    AnySt w0 w1 gm nm J v12 xs v13 H13 P13 v (H14 ++ [v6]) (P14 ++ [r6]) := h.st.app14 hr h.row hb hg hat
end
end Go.Proofs.Ytpkghpljgjlmjaa.K
-- Lines of this claim, written by the session's own program kprint.py (it runs print.py).
namespace Go.Proofs.Ytpkghpljgjlmjaa.K
open Go.RowKit Go.Proofs.YtpkghpljgjlmjaaW.PrintWords Go.Proofs.YtpkghpljgjlmjaaW.PrintLast Go.Proofs.YtpkghpljgjlmjaaW.PrintMore
attribute [local go_sem] max2_int min2_int max_two min_two max_three min_three max_four min_four   -- for this text's walks alone
set_option linter.unusedVariables false
set_option linter.unusedSimpArgs false

/-! ### reedsolomon_Check: function 43 -/
def reedsolomon_Check.f (k : Nat) (a0 : Int) (a1 : Int) (l2 : List Int) (l3 : List (List Int)) : Option (Bool × Int) := (reedsolomon_given.f k a0 a1 l2 l3).bind fun t101 => (if t101 = 0 then ((reedsolomon_spoiled.f a0 l2 l3).bind fun t102 => (some (((t102.length : Int) == 0), 0))) else (some (false, t101)))
set_option maxHeartbeats 8000000 in
set_option maxRecDepth 100000 in
theorem reedsolomon_Check.calls (k : Nat) (a0 : Int) (a1 : Int) (A2 : Option Addr) (c2 : Nat) (l2 : List Int) (A3 : Option Addr) (c3 : Nat) (l3 : List (List Int)) (r1 : Bool) (r2 : Int) (w : World) (hr2 : Kd.C (Kd.int .i64) w A2 l2.length l2) (hc2 : l2.length ≤ c2) (hr3 : Kd.C (Kd.slice 5 (Kd.int .u8)) w A3 l3.length l3) (hc3 : l3.length ≤ c3) (h : reedsolomon_Check.f k a0 a1 l2 l3 = some (r1, r2)) :
    Calls Try.prog 43 #[.int .i64 a0, .int .i64 a1, .slice A2 l2.length c2, .slice A3 l3.length c3] w fun e w' => e = .returned (.tuple #[.bool r1, .int .i64 r2]) ∧ Below w.heap.size w w' := by
  have HR2 := Aside0.mk hr2
  have HC2 := Aside0.mk hc2
  clear hr2 hc2
  have HR3 := Aside0.mk hr3
  have HC3 := Aside0.mk hc3
  clear hr3 hc3
  have HB := Aside0.mk (Below.refl w.heap.size w)
  have H : ((reedsolomon_given.f k a0 a1 l2 l3).bind fun t101 => (if t101 = 0 then ((reedsolomon_spoiled.f a0 l2 l3).bind fun t102 => (some (((t102.length : Int) == 0), 0))) else (some (false, t101)))) = some (r1, r2) := h
  clear h
  replace H := Option.bind_eq_some_iff.mp H
  obtain ⟨t101, A50, H⟩ := H
  replace H : (if t101 = 0 then ((reedsolomon_spoiled.f a0 l2 l3).bind fun t102 => (some (((t102.length : Int) == 0), 0))) else (some (false, t101))) = some (r1, r2) := H
  have A5 := Aside0.mk A50
  clear A50
  by_cases c6 : t101 = 0
  · rw [if_pos c6] at H
    have c6b0 : (t101 == 0) = true := beq_iff_eq.mpr c6
    have c6b1 : (t101 != 0) = false := bne_eq_false_iff_eq.mpr c6
    clear c6
    replace H := Option.bind_eq_some_iff.mp H
    obtain ⟨t102, A70, H⟩ := H
    replace H : (some (((t102.length : Int) == 0), 0)) = some (r1, r2) := H
    have A7 := Aside0.mk A70
    clear A70
    simp only [Option.some.injEq, Prod.mk.injEq] at H
    obtain ⟨rfl, rfl⟩ := H
    go_enter Try.func43, Try.ntmps43
    go_wp2_with (first | ((with_reducible refine gate_callee (f := 72) rfl ?_); refine goesL_ (some 15) rfl rfl Try.func72 (by kernel_rfl) rfl #[.int .i64 a0, .int .i64 a1, .slice A2 l2.length c2, .slice A3 l3.length c3] rfl (by (try simp only [List.map_toArray, List.map_cons, List.map_nil]); first | done | rfl | (simp only [List.length_drop, List.length_take]; rfl)) ?_; (with_reducible refine (reedsolomon_given.calls k a0 a1 _ _ l2 _ _ l3 t101 _ ?side1 ?side2 ?side3 ?side4 A5.out).mono ?_); (case side1 => repeat (first | exact HR2.out | (with_reducible refine Kd.C_alloc ?_ _) | (with_reducible refine Kd.C_drewN ?_ _) | (with_reducible refine Kd.C_drew ?_))); (case side2 => exact HC2.out); (case side3 => repeat (first | exact HR3.out | (with_reducible refine Kd.C_alloc ?_ _) | (with_reducible refine Kd.C_drewN ?_ _) | (with_reducible refine Kd.C_drew ?_))); (case side4 => exact HC3.out); rintro e w8 ⟨rfl, hb⟩; refine ⟨_, rfl, ?_⟩; have n0_ := Aside0.mk (below_step (by repeat (first | (with_reducible first | exact HB.out | apply below_alloc | apply pw_below_drewN | apply below_drew1) | exact HB.out)) hb); clear HB; have HB := n0_; clear n0_; (try clear hb); (try clear hb2); (try clear hk); (try clear hi)) | ((with_reducible refine gate_callee (f := 75) rfl ?_); refine goesL_ (some 22) rfl rfl Try.func75 (by kernel_rfl) rfl #[.int .i64 a0, .slice A2 l2.length c2, .slice A3 l3.length c3] rfl (by (try simp only [List.map_toArray, List.map_cons, List.map_nil]); first | done | rfl | (simp only [List.length_drop, List.length_take]; rfl)) ?_; (with_reducible refine (reedsolomon_spoiled.calls a0 _ _ l2 _ _ l3 t102 _ ?side1 ?side2 ?side3 ?side4 A7.out).mono ?_); (case side1 => repeat (first | exact (Kd.C_below HR2.out HB.out) | (with_reducible refine Kd.C_alloc ?_ _) | (with_reducible refine Kd.C_drewN ?_ _) | (with_reducible refine Kd.C_drew ?_))); (case side2 => exact HC2.out); (case side3 => repeat (first | exact (Kd.C_below HR3.out HB.out) | (with_reducible refine Kd.C_alloc ?_ _) | (with_reducible refine Kd.C_drewN ?_ _) | (with_reducible refine Kd.C_drew ?_))); (case side4 => exact HC3.out); rintro e w9 ⟨v103, rfl, ho0, hb⟩; refine ⟨_, rfl, ?_⟩; have n0_ := Aside0.mk (Kd.R_lower ho0 (below_size (by repeat (first | (with_reducible first | exact HB.out | apply below_alloc | apply pw_below_drewN | apply below_drew1) | exact HB.out)))); have n1_ := Aside0.mk (below_step (by repeat (first | (with_reducible first | exact HB.out | apply below_alloc | apply pw_below_drewN | apply below_drew1) | exact HB.out)) hb); clear HB; have HO104 := n0_; have HB := n1_; clear n0_ n1_; (try clear hb); (try clear hb2); (try clear hk); (try clear hi); (try clear ho0); obtain ⟨Ao10, co10, eo10⟩ := Kd.R_slice HO104.out; subst eo10))
    go_ret2
    exact ⟨by first | rfl | (simp [errW_none, errW_some] <;> rfl) | (simp [*, errW_none, errW_some] <;> rfl), by repeat (first | (with_reducible first | exact HB.out | apply below_alloc | apply pw_below_drewN | apply below_drew1) | exact HB.out)⟩
  · rw [if_neg c6] at H
    have c6b0 : (t101 == 0) = false := beq_eq_false_iff_ne.mpr c6
    have c6b1 : (t101 != 0) = true := bne_iff_ne.mpr c6
    simp only [Option.some.injEq, Prod.mk.injEq] at H
    obtain ⟨rfl, rfl⟩ := H
    go_enter Try.func43, Try.ntmps43
    go_wp2_with (first | ((with_reducible refine gate_callee (f := 72) rfl ?_); refine goesL_ (some 15) rfl rfl Try.func72 (by kernel_rfl) rfl #[.int .i64 a0, .int .i64 a1, .slice A2 l2.length c2, .slice A3 l3.length c3] rfl (by (try simp only [List.map_toArray, List.map_cons, List.map_nil]); first | done | rfl | (simp only [List.length_drop, List.length_take]; rfl)) ?_; (with_reducible refine (reedsolomon_given.calls k a0 a1 _ _ l2 _ _ l3 t101 _ ?side1 ?side2 ?side3 ?side4 A5.out).mono ?_); (case side1 => repeat (first | exact HR2.out | (with_reducible refine Kd.C_alloc ?_ _) | (with_reducible refine Kd.C_drewN ?_ _) | (with_reducible refine Kd.C_drew ?_))); (case side2 => exact HC2.out); (case side3 => repeat (first | exact HR3.out | (with_reducible refine Kd.C_alloc ?_ _) | (with_reducible refine Kd.C_drewN ?_ _) | (with_reducible refine Kd.C_drew ?_))); (case side4 => exact HC3.out); rintro e w11 ⟨rfl, hb⟩; refine ⟨_, rfl, ?_⟩; have n0_ := Aside0.mk (below_step (by repeat (first | (with_reducible first | exact HB.out | apply below_alloc | apply pw_below_drewN | apply below_drew1) | exact HB.out)) hb); clear HB; have HB := n0_; clear n0_; (try clear hb); (try clear hb2); (try clear hk); (try clear hi)))
    go_ret2
    exact ⟨by first | rfl | (simp [errW_none, errW_some] <;> rfl) | (simp [*, errW_none, errW_some] <;> rfl), by repeat (first | (with_reducible first | exact HB.out | apply below_alloc | apply pw_below_drewN | apply below_drew1) | exact HB.out)⟩
/-! ### bits_OnesCount64: function 99 -/
def bits_OnesCount64.f (a0 : Int) : Option (Int) := some (Go.bits .and .i64 (wrap64 (IntKind.u64.wrap ((IntKind.u64.wrap ((IntKind.u64.wrap ((Go.bits .and .u64 (IntKind.u64.wrap (((IntKind.u64.wrap ((Go.bits .and .u64 ((IntKind.u64.wrap ((Go.bits .and .u64 (a0 / 2) 6148914691236517205) + (Go.bits .and .u64 a0 6148914691236517205))) / 4) 3689348814741910323) + (Go.bits .and .u64 (IntKind.u64.wrap ((Go.bits .and .u64 (a0 / 2) 6148914691236517205) + (Go.bits .and .u64 a0 6148914691236517205))) 3689348814741910323))) / 16) + (IntKind.u64.wrap ((Go.bits .and .u64 ((IntKind.u64.wrap ((Go.bits .and .u64 (a0 / 2) 6148914691236517205) + (Go.bits .and .u64 a0 6148914691236517205))) / 4) 3689348814741910323) + (Go.bits .and .u64 (IntKind.u64.wrap ((Go.bits .and .u64 (a0 / 2) 6148914691236517205) + (Go.bits .and .u64 a0 6148914691236517205))) 3689348814741910323))))) 1085102592571150095) + ((Go.bits .and .u64 (IntKind.u64.wrap (((IntKind.u64.wrap ((Go.bits .and .u64 ((IntKind.u64.wrap ((Go.bits .and .u64 (a0 / 2) 6148914691236517205) + (Go.bits .and .u64 a0 6148914691236517205))) / 4) 3689348814741910323) + (Go.bits .and .u64 (IntKind.u64.wrap ((Go.bits .and .u64 (a0 / 2) 6148914691236517205) + (Go.bits .and .u64 a0 6148914691236517205))) 3689348814741910323))) / 16) + (IntKind.u64.wrap ((Go.bits .and .u64 ((IntKind.u64.wrap ((Go.bits .and .u64 (a0 / 2) 6148914691236517205) + (Go.bits .and .u64 a0 6148914691236517205))) / 4) 3689348814741910323) + (Go.bits .and .u64 (IntKind.u64.wrap ((Go.bits .and .u64 (a0 / 2) 6148914691236517205) + (Go.bits .and .u64 a0 6148914691236517205))) 3689348814741910323))))) 1085102592571150095) / 256))) + ((IntKind.u64.wrap ((Go.bits .and .u64 (IntKind.u64.wrap (((IntKind.u64.wrap ((Go.bits .and .u64 ((IntKind.u64.wrap ((Go.bits .and .u64 (a0 / 2) 6148914691236517205) + (Go.bits .and .u64 a0 6148914691236517205))) / 4) 3689348814741910323) + (Go.bits .and .u64 (IntKind.u64.wrap ((Go.bits .and .u64 (a0 / 2) 6148914691236517205) + (Go.bits .and .u64 a0 6148914691236517205))) 3689348814741910323))) / 16) + (IntKind.u64.wrap ((Go.bits .and .u64 ((IntKind.u64.wrap ((Go.bits .and .u64 (a0 / 2) 6148914691236517205) + (Go.bits .and .u64 a0 6148914691236517205))) / 4) 3689348814741910323) + (Go.bits .and .u64 (IntKind.u64.wrap ((Go.bits .and .u64 (a0 / 2) 6148914691236517205) + (Go.bits .and .u64 a0 6148914691236517205))) 3689348814741910323))))) 1085102592571150095) + ((Go.bits .and .u64 (IntKind.u64.wrap (((IntKind.u64.wrap ((Go.bits .and .u64 ((IntKind.u64.wrap ((Go.bits .and .u64 (a0 / 2) 6148914691236517205) + (Go.bits .and .u64 a0 6148914691236517205))) / 4) 3689348814741910323) + (Go.bits .and .u64 (IntKind.u64.wrap ((Go.bits .and .u64 (a0 / 2) 6148914691236517205) + (Go.bits .and .u64 a0 6148914691236517205))) 3689348814741910323))) / 16) + (IntKind.u64.wrap ((Go.bits .and .u64 ((IntKind.u64.wrap ((Go.bits .and .u64 (a0 / 2) 6148914691236517205) + (Go.bits .and .u64 a0 6148914691236517205))) / 4) 3689348814741910323) + (Go.bits .and .u64 (IntKind.u64.wrap ((Go.bits .and .u64 (a0 / 2) 6148914691236517205) + (Go.bits .and .u64 a0 6148914691236517205))) 3689348814741910323))))) 1085102592571150095) / 256))) / 65536))) + ((IntKind.u64.wrap ((IntKind.u64.wrap ((Go.bits .and .u64 (IntKind.u64.wrap (((IntKind.u64.wrap ((Go.bits .and .u64 ((IntKind.u64.wrap ((Go.bits .and .u64 (a0 / 2) 6148914691236517205) + (Go.bits .and .u64 a0 6148914691236517205))) / 4) 3689348814741910323) + (Go.bits .and .u64 (IntKind.u64.wrap ((Go.bits .and .u64 (a0 / 2) 6148914691236517205) + (Go.bits .and .u64 a0 6148914691236517205))) 3689348814741910323))) / 16) + (IntKind.u64.wrap ((Go.bits .and .u64 ((IntKind.u64.wrap ((Go.bits .and .u64 (a0 / 2) 6148914691236517205) + (Go.bits .and .u64 a0 6148914691236517205))) / 4) 3689348814741910323) + (Go.bits .and .u64 (IntKind.u64.wrap ((Go.bits .and .u64 (a0 / 2) 6148914691236517205) + (Go.bits .and .u64 a0 6148914691236517205))) 3689348814741910323))))) 1085102592571150095) + ((Go.bits .and .u64 (IntKind.u64.wrap (((IntKind.u64.wrap ((Go.bits .and .u64 ((IntKind.u64.wrap ((Go.bits .and .u64 (a0 / 2) 6148914691236517205) + (Go.bits .and .u64 a0 6148914691236517205))) / 4) 3689348814741910323) + (Go.bits .and .u64 (IntKind.u64.wrap ((Go.bits .and .u64 (a0 / 2) 6148914691236517205) + (Go.bits .and .u64 a0 6148914691236517205))) 3689348814741910323))) / 16) + (IntKind.u64.wrap ((Go.bits .and .u64 ((IntKind.u64.wrap ((Go.bits .and .u64 (a0 / 2) 6148914691236517205) + (Go.bits .and .u64 a0 6148914691236517205))) / 4) 3689348814741910323) + (Go.bits .and .u64 (IntKind.u64.wrap ((Go.bits .and .u64 (a0 / 2) 6148914691236517205) + (Go.bits .and .u64 a0 6148914691236517205))) 3689348814741910323))))) 1085102592571150095) / 256))) + ((IntKind.u64.wrap ((Go.bits .and .u64 (IntKind.u64.wrap (((IntKind.u64.wrap ((Go.bits .and .u64 ((IntKind.u64.wrap ((Go.bits .and .u64 (a0 / 2) 6148914691236517205) + (Go.bits .and .u64 a0 6148914691236517205))) / 4) 3689348814741910323) + (Go.bits .and .u64 (IntKind.u64.wrap ((Go.bits .and .u64 (a0 / 2) 6148914691236517205) + (Go.bits .and .u64 a0 6148914691236517205))) 3689348814741910323))) / 16) + (IntKind.u64.wrap ((Go.bits .and .u64 ((IntKind.u64.wrap ((Go.bits .and .u64 (a0 / 2) 6148914691236517205) + (Go.bits .and .u64 a0 6148914691236517205))) / 4) 3689348814741910323) + (Go.bits .and .u64 (IntKind.u64.wrap ((Go.bits .and .u64 (a0 / 2) 6148914691236517205) + (Go.bits .and .u64 a0 6148914691236517205))) 3689348814741910323))))) 1085102592571150095) + ((Go.bits .and .u64 (IntKind.u64.wrap (((IntKind.u64.wrap ((Go.bits .and .u64 ((IntKind.u64.wrap ((Go.bits .and .u64 (a0 / 2) 6148914691236517205) + (Go.bits .and .u64 a0 6148914691236517205))) / 4) 3689348814741910323) + (Go.bits .and .u64 (IntKind.u64.wrap ((Go.bits .and .u64 (a0 / 2) 6148914691236517205) + (Go.bits .and .u64 a0 6148914691236517205))) 3689348814741910323))) / 16) + (IntKind.u64.wrap ((Go.bits .and .u64 ((IntKind.u64.wrap ((Go.bits .and .u64 (a0 / 2) 6148914691236517205) + (Go.bits .and .u64 a0 6148914691236517205))) / 4) 3689348814741910323) + (Go.bits .and .u64 (IntKind.u64.wrap ((Go.bits .and .u64 (a0 / 2) 6148914691236517205) + (Go.bits .and .u64 a0 6148914691236517205))) 3689348814741910323))))) 1085102592571150095) / 256))) / 65536))) / 4294967296)))) 127)
set_option maxHeartbeats 8000000 in
set_option maxRecDepth 100000 in
theorem bits_OnesCount64.calls (a0 : Int) (r : Int) (w : World) (h : bits_OnesCount64.f a0 = some r) :
    Calls Try.prog 99 #[.int .u64 a0] w fun e w' => e = .returned (.int .i64 r) ∧ Drawn0 w w' := by
  have H : (some (Go.bits .and .i64 (wrap64 (IntKind.u64.wrap ((IntKind.u64.wrap ((IntKind.u64.wrap ((Go.bits .and .u64 (IntKind.u64.wrap (((IntKind.u64.wrap ((Go.bits .and .u64 ((IntKind.u64.wrap ((Go.bits .and .u64 (a0 / 2) 6148914691236517205) + (Go.bits .and .u64 a0 6148914691236517205))) / 4) 3689348814741910323) + (Go.bits .and .u64 (IntKind.u64.wrap ((Go.bits .and .u64 (a0 / 2) 6148914691236517205) + (Go.bits .and .u64 a0 6148914691236517205))) 3689348814741910323))) / 16) + (IntKind.u64.wrap ((Go.bits .and .u64 ((IntKind.u64.wrap ((Go.bits .and .u64 (a0 / 2) 6148914691236517205) + (Go.bits .and .u64 a0 6148914691236517205))) / 4) 3689348814741910323) + (Go.bits .and .u64 (IntKind.u64.wrap ((Go.bits .and .u64 (a0 / 2) 6148914691236517205) + (Go.bits .and .u64 a0 6148914691236517205))) 3689348814741910323))))) 1085102592571150095) + ((Go.bits .and .u64 (IntKind.u64.wrap (((IntKind.u64.wrap ((Go.bits .and .u64 ((IntKind.u64.wrap ((Go.bits .and .u64 (a0 / 2) 6148914691236517205) + (Go.bits .and .u64 a0 6148914691236517205))) / 4) 3689348814741910323) + (Go.bits .and .u64 (IntKind.u64.wrap ((Go.bits .and .u64 (a0 / 2) 6148914691236517205) + (Go.bits .and .u64 a0 6148914691236517205))) 3689348814741910323))) / 16) + (IntKind.u64.wrap ((Go.bits .and .u64 ((IntKind.u64.wrap ((Go.bits .and .u64 (a0 / 2) 6148914691236517205) + (Go.bits .and .u64 a0 6148914691236517205))) / 4) 3689348814741910323) + (Go.bits .and .u64 (IntKind.u64.wrap ((Go.bits .and .u64 (a0 / 2) 6148914691236517205) + (Go.bits .and .u64 a0 6148914691236517205))) 3689348814741910323))))) 1085102592571150095) / 256))) + ((IntKind.u64.wrap ((Go.bits .and .u64 (IntKind.u64.wrap (((IntKind.u64.wrap ((Go.bits .and .u64 ((IntKind.u64.wrap ((Go.bits .and .u64 (a0 / 2) 6148914691236517205) + (Go.bits .and .u64 a0 6148914691236517205))) / 4) 3689348814741910323) + (Go.bits .and .u64 (IntKind.u64.wrap ((Go.bits .and .u64 (a0 / 2) 6148914691236517205) + (Go.bits .and .u64 a0 6148914691236517205))) 3689348814741910323))) / 16) + (IntKind.u64.wrap ((Go.bits .and .u64 ((IntKind.u64.wrap ((Go.bits .and .u64 (a0 / 2) 6148914691236517205) + (Go.bits .and .u64 a0 6148914691236517205))) / 4) 3689348814741910323) + (Go.bits .and .u64 (IntKind.u64.wrap ((Go.bits .and .u64 (a0 / 2) 6148914691236517205) + (Go.bits .and .u64 a0 6148914691236517205))) 3689348814741910323))))) 1085102592571150095) + ((Go.bits .and .u64 (IntKind.u64.wrap (((IntKind.u64.wrap ((Go.bits .and .u64 ((IntKind.u64.wrap ((Go.bits .and .u64 (a0 / 2) 6148914691236517205) + (Go.bits .and .u64 a0 6148914691236517205))) / 4) 3689348814741910323) + (Go.bits .and .u64 (IntKind.u64.wrap ((Go.bits .and .u64 (a0 / 2) 6148914691236517205) + (Go.bits .and .u64 a0 6148914691236517205))) 3689348814741910323))) / 16) + (IntKind.u64.wrap ((Go.bits .and .u64 ((IntKind.u64.wrap ((Go.bits .and .u64 (a0 / 2) 6148914691236517205) + (Go.bits .and .u64 a0 6148914691236517205))) / 4) 3689348814741910323) + (Go.bits .and .u64 (IntKind.u64.wrap ((Go.bits .and .u64 (a0 / 2) 6148914691236517205) + (Go.bits .and .u64 a0 6148914691236517205))) 3689348814741910323))))) 1085102592571150095) / 256))) / 65536))) + ((IntKind.u64.wrap ((IntKind.u64.wrap ((Go.bits .and .u64 (IntKind.u64.wrap (((IntKind.u64.wrap ((Go.bits .and .u64 ((IntKind.u64.wrap ((Go.bits .and .u64 (a0 / 2) 6148914691236517205) + (Go.bits .and .u64 a0 6148914691236517205))) / 4) 3689348814741910323) + (Go.bits .and .u64 (IntKind.u64.wrap ((Go.bits .and .u64 (a0 / 2) 6148914691236517205) + (Go.bits .and .u64 a0 6148914691236517205))) 3689348814741910323))) / 16) + (IntKind.u64.wrap ((Go.bits .and .u64 ((IntKind.u64.wrap ((Go.bits .and .u64 (a0 / 2) 6148914691236517205) + (Go.bits .and .u64 a0 6148914691236517205))) / 4) 3689348814741910323) + (Go.bits .and .u64 (IntKind.u64.wrap ((Go.bits .and .u64 (a0 / 2) 6148914691236517205) + (Go.bits .and .u64 a0 6148914691236517205))) 3689348814741910323))))) 1085102592571150095) + ((Go.bits .and .u64 (IntKind.u64.wrap (((IntKind.u64.wrap ((Go.bits .and .u64 ((IntKind.u64.wrap ((Go.bits .and .u64 (a0 / 2) 6148914691236517205) + (Go.bits .and .u64 a0 6148914691236517205))) / 4) 3689348814741910323) + (Go.bits .and .u64 (IntKind.u64.wrap ((Go.bits .and .u64 (a0 / 2) 6148914691236517205) + (Go.bits .and .u64 a0 6148914691236517205))) 3689348814741910323))) / 16) + (IntKind.u64.wrap ((Go.bits .and .u64 ((IntKind.u64.wrap ((Go.bits .and .u64 (a0 / 2) 6148914691236517205) + (Go.bits .and .u64 a0 6148914691236517205))) / 4) 3689348814741910323) + (Go.bits .and .u64 (IntKind.u64.wrap ((Go.bits .and .u64 (a0 / 2) 6148914691236517205) + (Go.bits .and .u64 a0 6148914691236517205))) 3689348814741910323))))) 1085102592571150095) / 256))) + ((IntKind.u64.wrap ((Go.bits .and .u64 (IntKind.u64.wrap (((IntKind.u64.wrap ((Go.bits .and .u64 ((IntKind.u64.wrap ((Go.bits .and .u64 (a0 / 2) 6148914691236517205) + (Go.bits .and .u64 a0 6148914691236517205))) / 4) 3689348814741910323) + (Go.bits .and .u64 (IntKind.u64.wrap ((Go.bits .and .u64 (a0 / 2) 6148914691236517205) + (Go.bits .and .u64 a0 6148914691236517205))) 3689348814741910323))) / 16) + (IntKind.u64.wrap ((Go.bits .and .u64 ((IntKind.u64.wrap ((Go.bits .and .u64 (a0 / 2) 6148914691236517205) + (Go.bits .and .u64 a0 6148914691236517205))) / 4) 3689348814741910323) + (Go.bits .and .u64 (IntKind.u64.wrap ((Go.bits .and .u64 (a0 / 2) 6148914691236517205) + (Go.bits .and .u64 a0 6148914691236517205))) 3689348814741910323))))) 1085102592571150095) + ((Go.bits .and .u64 (IntKind.u64.wrap (((IntKind.u64.wrap ((Go.bits .and .u64 ((IntKind.u64.wrap ((Go.bits .and .u64 (a0 / 2) 6148914691236517205) + (Go.bits .and .u64 a0 6148914691236517205))) / 4) 3689348814741910323) + (Go.bits .and .u64 (IntKind.u64.wrap ((Go.bits .and .u64 (a0 / 2) 6148914691236517205) + (Go.bits .and .u64 a0 6148914691236517205))) 3689348814741910323))) / 16) + (IntKind.u64.wrap ((Go.bits .and .u64 ((IntKind.u64.wrap ((Go.bits .and .u64 (a0 / 2) 6148914691236517205) + (Go.bits .and .u64 a0 6148914691236517205))) / 4) 3689348814741910323) + (Go.bits .and .u64 (IntKind.u64.wrap ((Go.bits .and .u64 (a0 / 2) 6148914691236517205) + (Go.bits .and .u64 a0 6148914691236517205))) 3689348814741910323))))) 1085102592571150095) / 256))) / 65536))) / 4294967296)))) 127)) = some r := h
  clear h
  obtain rfl := Option.some.inj H
  go_enter Try.func99, Try.ntmps99
  go_wp2
  go_ret
  exact ⟨by first | rfl | (simp; done) | (simp [*]; done), by repeat (first | exact Drawn0.refl _ | apply Drawn0.step)⟩
/-! ### bits_OnesCount: function 81 -/
def bits_OnesCount.f (a0 : Int) : Option (Int) := (bits_OnesCount64.f a0).bind fun t119 => (some t119)
set_option maxHeartbeats 8000000 in
set_option maxRecDepth 100000 in
theorem bits_OnesCount.calls (a0 : Int) (r : Int) (w : World) (h : bits_OnesCount.f a0 = some r) :
    Calls Try.prog 81 #[.int .u64 a0] w fun e w' => e = .returned (.int .i64 r) ∧ Drawn0 w w' := by
  have H : ((bits_OnesCount64.f a0).bind fun t119 => (some t119)) = some r := h
  clear h
  replace H := Option.bind_eq_some_iff.mp H
  obtain ⟨t119, A20, H⟩ := H
  replace H : (some t119) = some r := H
  have A2 := Aside0.mk A20
  clear A20
  obtain rfl := Option.some.inj H
  go_enter Try.func81, Try.ntmps81
  go_wp2_with (first | ((with_reducible refine gate_callee (f := 99) rfl ?_); refine goesL_ (some 7) rfl rfl Try.func99 (by kernel_rfl) rfl #[.int .u64 a0] rfl (by (try simp only [List.map_toArray, List.map_cons, List.map_nil]); first | done | rfl | (simp only [List.length_drop, List.length_take]; rfl)) ?_; (with_reducible refine (bits_OnesCount64.calls a0 t119 _ A2.out).mono ?_); rintro e w' ⟨rfl, ⟨nd, rfl⟩⟩; refine ⟨_, rfl, ?_⟩))
  go_ret
  exact ⟨by first | rfl | (simp; done) | (simp [*]; done), by repeat (first | exact Drawn0.refl _ | apply Drawn0.step)⟩
/-! ### kinkeeptop_a04Awake: function 36 -/
def kinkeeptop_a04Awake.f (k : Nat)  : Option (Bool) := (reedsolomon_Row.f 2 4 2).bind fun bt120 => (if bt120.2 = 0 then (if (bt120.1.length : Int) = 2 then (if 0 < (bt120.1.length : Int) then (if (rd bt120.1 0) = 142 then (if 1 < (bt120.1.length : Int) then (if (rd bt120.1 1) = 244 then ((matrix_Identity.f k 3).bind fun t126 => ((matrix_Rank.f t126).bind fun t129 => (if t129 = 3 then ((gf256_Mul.f k 2 128).bind fun t130 => (some (t130 == 29))) else (some false)))) else (some false)) else (none)) else (some false)) else (none)) else (some false)) else (some false))
set_option maxHeartbeats 8000000 in
set_option maxRecDepth 100000 in
theorem kinkeeptop_a04Awake.calls (k : Nat)  (r : Bool) (w : World) (h : kinkeeptop_a04Awake.f k  = some r) :
    Calls Try.prog 36 #[] w fun e w' => e = .returned (.bool r) ∧ Below w.heap.size w w' := by
  have HB := Aside0.mk (Below.refl w.heap.size w)
  have H : ((reedsolomon_Row.f 2 4 2).bind fun bt120 => (if bt120.2 = 0 then (if (bt120.1.length : Int) = 2 then (if 0 < (bt120.1.length : Int) then (if (rd bt120.1 0) = 142 then (if 1 < (bt120.1.length : Int) then (if (rd bt120.1 1) = 244 then ((matrix_Identity.f k 3).bind fun t126 => ((matrix_Rank.f t126).bind fun t129 => (if t129 = 3 then ((gf256_Mul.f k 2 128).bind fun t130 => (some (t130 == 29))) else (some false)))) else (some false)) else (none)) else (some false)) else (none)) else (some false)) else (some false))) = some r := h
  clear h
  replace H := Option.bind_eq_some_iff.mp H
  obtain ⟨⟨t120, t121⟩, A10, H⟩ := H
  replace H : (if t121 = 0 then (if (t120.length : Int) = 2 then (if 0 < (t120.length : Int) then (if (rd t120 0) = 142 then (if 1 < (t120.length : Int) then (if (rd t120 1) = 244 then ((matrix_Identity.f k 3).bind fun t126 => ((matrix_Rank.f t126).bind fun t129 => (if t129 = 3 then ((gf256_Mul.f k 2 128).bind fun t130 => (some (t130 == 29))) else (some false)))) else (some false)) else (none)) else (some false)) else (none)) else (some false)) else (some false)) = some r := H
  have A1 := Aside0.mk A10
  clear A10
  by_cases c2 : t121 = 0
  · rw [if_pos c2] at H
    have c2b0 : (t121 == 0) = true := beq_iff_eq.mpr c2
    have c2b1 : (t121 != 0) = false := bne_eq_false_iff_eq.mpr c2
    clear c2
    by_cases c3 : (t120.length : Int) = 2
    · rw [if_pos c3] at H
      have c3b0 : ((t120.length : Int) == 2) = true := beq_iff_eq.mpr c3
      have c3b1 : ((t120.length : Int) != 2) = false := bne_eq_false_iff_eq.mpr c3
      clear c3
      by_cases c4 : 0 < (t120.length : Int)
      · rw [if_pos c4] at H
        have c4b0 : decide (0 < (t120.length : Int)) = true := decide_eq_true c4
        have c4b1 : decide (0 < t120.length) = true := decide_eq_true (by omega)
        clear c4
        by_cases c5 : (rd t120 0) = 142
        · rw [if_pos c5] at H
          have c5b0 : ((rd t120 0) == 142) = true := beq_iff_eq.mpr c5
          have c5b1 : ((rd t120 0) != 142) = false := bne_eq_false_iff_eq.mpr c5
          clear c5
          by_cases c6 : 1 < (t120.length : Int)
          · rw [if_pos c6] at H
            have c6b0 : decide (1 < (t120.length : Int)) = true := decide_eq_true c6
            have c6b1 : decide (1 < t120.length) = true := decide_eq_true (by omega)
            clear c6
            by_cases c7 : (rd t120 1) = 244
            · rw [if_pos c7] at H
              have c7b0 : ((rd t120 1) == 244) = true := beq_iff_eq.mpr c7
              have c7b1 : ((rd t120 1) != 244) = false := bne_eq_false_iff_eq.mpr c7
              clear c7
              replace H := Option.bind_eq_some_iff.mp H
              obtain ⟨t126, A80, H⟩ := H
              replace H : ((matrix_Rank.f t126).bind fun t129 => (if t129 = 3 then ((gf256_Mul.f k 2 128).bind fun t130 => (some (t130 == 29))) else (some false))) = some r := H
              have A8 := Aside0.mk A80
              clear A80
              replace H := Option.bind_eq_some_iff.mp H
              obtain ⟨t129, A90, H⟩ := H
              replace H : (if t129 = 3 then ((gf256_Mul.f k 2 128).bind fun t130 => (some (t130 == 29))) else (some false)) = some r := H
              have A9 := Aside0.mk A90
              clear A90
              by_cases c10 : t129 = 3
              · rw [if_pos c10] at H
                have c10b0 : (t129 == 3) = true := beq_iff_eq.mpr c10
                have c10b1 : (t129 != 3) = false := bne_eq_false_iff_eq.mpr c10
                clear c10
                replace H := Option.bind_eq_some_iff.mp H
                obtain ⟨t130, A110, H⟩ := H
                replace H : (some (t130 == 29)) = some r := H
                have A11 := Aside0.mk A110
                clear A110
                obtain rfl := Option.some.inj H
                go_enter Try.func36, Try.ntmps36
                go_wp2_with (first | ((with_reducible refine gate_callee (f := 40) rfl ?_); refine goesL_ (some 4) rfl rfl Try.func40 (by kernel_rfl) rfl #[.int .i64 2, .int .i64 4, .int .i64 2] rfl (by (try simp only [List.map_toArray, List.map_cons, List.map_nil]); first | done | rfl | (simp only [List.length_drop, List.length_take]; rfl)) ?_; (with_reducible refine (reedsolomon_Row.calls 2 4 2 t120 t121 _ A1.out).mono ?_); rintro e w12 ⟨v122, rfl, ho0, hb⟩; refine ⟨_, rfl, ?_⟩; have n0_ := Aside0.mk (Kd.R_lower ho0 (below_size (by repeat (first | (with_reducible first | exact HB.out | apply below_alloc | apply pw_below_drewN | apply below_drew1) | exact HB.out)))); have n1_ := Aside0.mk (below_step (by repeat (first | (with_reducible first | exact HB.out | apply below_alloc | apply pw_below_drewN | apply below_drew1) | exact HB.out)) hb); clear HB; have HO123 := n0_; have HB := n1_; clear n0_ n1_; (try clear hb); (try clear hb2); (try clear hk); (try clear hi); (try clear ho0); obtain ⟨Ao13, co13, eo13⟩ := Kd.R_slice HO123.out; subst eo13; have p124 : 0 ≤ (0 : Int) := (by omega); have q124 : 0 < (t120.length : Int) := of_decide_eq_true (by first | (with_reducible assumption) | assumption); obtain ⟨ad124, e124, hx124_0⟩ := Kd.at_int (Kd.R_reads' HO123.out).2.2 0 p124 q124; cases e124; have qi124 : (0 < t120.length) = True := eq_true (by omega); (try rw [show ((0 : Int)).toNat = 0 from rfl] at hx124_0); (try rw [Addr.add_zero'] at hx124_0); replace p124 := eq_true p124; replace q124 := eq_true q124; have p125 : 0 ≤ (1 : Int) := (by omega); have q125 : 1 < (t120.length : Int) := of_decide_eq_true (by first | (with_reducible assumption) | assumption); obtain ⟨ad125, e125, hx125_0⟩ := Kd.at_int (Kd.R_reads' HO123.out).2.2 1 p125 q125; obtain rfl : ad124 = ad125 := (by injection e125); (try simp only [show (1 : Int).toNat = 1 from rfl, Nat.reduceMul, Nat.reduceEqDiff, Go.Addr.add, ↓reduceIte] at hx125_0); have qi125 : (1 < t120.length) = True := eq_true (by omega); (try rw [show ((1 : Int)).toNat = 1 from rfl] at hx125_0); replace p125 := eq_true p125; replace q125 := eq_true q125) | (go_at_call 48; (with_reducible refine (matrix_Identity.calls k 3 t126 _ A8.out).mono ?_); rintro e w14 ⟨v127, rfl, ho0, hb⟩; have n0_ := Aside0.mk (Kd.R_below (by (with_reducible repeat (first | apply Kd.R_alloc | apply Kd.R_drewN | apply Kd.R_drew)); exact HO123.out) hb); have n1_ := Aside0.mk (Kd.S_lower (Kd.S_new' ho0 (Kd.R_lt (by (with_reducible repeat (first | apply Kd.R_alloc | apply Kd.R_drewN | apply Kd.R_drew)); exact HO123.out))) (below_size (by repeat (first | (with_reducible first | exact HB.out | apply below_alloc | apply pw_below_drewN | apply below_drew1) | exact HB.out)))); have n2_ := Aside0.mk (below_step (by repeat (first | (with_reducible first | exact HB.out | apply below_alloc | apply pw_below_drewN | apply below_drew1) | exact HB.out)) hb); clear HO123; clear HB; have HO123 := n0_; have HO128 := n1_; have HB := n2_; clear n0_ n1_ n2_; (try clear hb); (try clear hb2); (try clear hk); (try clear hi); (try clear ho0); obtain ⟨Ao15, co15, eo15⟩ := Kd.S_slice HO128.out; subst eo15) | (go_at_call 28; (with_reducible refine (matrix_Rank.calls _ _ t126 t129 _ ?side1 ?side2 A9.out).mono ?_); (case side1 => repeat (first | exact (Kd.S_reads' HO128.out).2.2 | (with_reducible refine Kd.C_alloc ?_ _) | (with_reducible refine Kd.C_drewN ?_ _) | (with_reducible refine Kd.C_drew ?_))); (case side2 => exact (Kd.S_reads' HO128.out).2.1); rintro e w16 ⟨rfl, hb⟩; have n0_ := Aside0.mk (Kd.R_below (by (with_reducible repeat (first | apply Kd.R_alloc | apply Kd.R_drewN | apply Kd.R_drew)); exact HO123.out) hb); have n1_ := Aside0.mk (Kd.S_below (by (with_reducible repeat (first | apply Kd.S_alloc | apply Kd.S_drewN | apply Kd.S_drew)); exact HO128.out) hb); have n2_ := Aside0.mk (below_step (by repeat (first | (with_reducible first | exact HB.out | apply below_alloc | apply pw_below_drewN | apply below_drew1) | exact HB.out)) hb); clear HO123; clear HO128; clear HB; have HO123 := n0_; have HO128 := n1_; have HB := n2_; clear n0_ n1_ n2_; (try clear hb); (try clear hb2); (try clear hk); (try clear hi)) | (go_at_call 68; (with_reducible refine (gf256_Mul.calls k 2 128 t130 _ A11.out).mono ?_); rintro e w' ⟨rfl, ⟨nd, rfl⟩⟩))
                go_ret
                exact ⟨by first | rfl | (simp [errW_none, errW_some] <;> rfl) | (simp [*, errW_none, errW_some] <;> rfl), by repeat (first | (with_reducible first | exact HB.out | apply below_alloc | apply pw_below_drewN | apply below_drew1) | exact HB.out)⟩
              · rw [if_neg c10] at H
                have c10b0 : (t129 == 3) = false := beq_eq_false_iff_ne.mpr c10
                have c10b1 : (t129 != 3) = true := bne_iff_ne.mpr c10
                obtain rfl := Option.some.inj H
                go_enter Try.func36, Try.ntmps36
                go_wp2_with (first | ((with_reducible refine gate_callee (f := 40) rfl ?_); refine goesL_ (some 4) rfl rfl Try.func40 (by kernel_rfl) rfl #[.int .i64 2, .int .i64 4, .int .i64 2] rfl (by (try simp only [List.map_toArray, List.map_cons, List.map_nil]); first | done | rfl | (simp only [List.length_drop, List.length_take]; rfl)) ?_; (with_reducible refine (reedsolomon_Row.calls 2 4 2 t120 t121 _ A1.out).mono ?_); rintro e w17 ⟨v122, rfl, ho0, hb⟩; refine ⟨_, rfl, ?_⟩; have n0_ := Aside0.mk (Kd.R_lower ho0 (below_size (by repeat (first | (with_reducible first | exact HB.out | apply below_alloc | apply pw_below_drewN | apply below_drew1) | exact HB.out)))); have n1_ := Aside0.mk (below_step (by repeat (first | (with_reducible first | exact HB.out | apply below_alloc | apply pw_below_drewN | apply below_drew1) | exact HB.out)) hb); clear HB; have HO123 := n0_; have HB := n1_; clear n0_ n1_; (try clear hb); (try clear hb2); (try clear hk); (try clear hi); (try clear ho0); obtain ⟨Ao18, co18, eo18⟩ := Kd.R_slice HO123.out; subst eo18; have p124 : 0 ≤ (0 : Int) := (by omega); have q124 : 0 < (t120.length : Int) := of_decide_eq_true (by first | (with_reducible assumption) | assumption); obtain ⟨ad124, e124, hx124_0⟩ := Kd.at_int (Kd.R_reads' HO123.out).2.2 0 p124 q124; cases e124; have qi124 : (0 < t120.length) = True := eq_true (by omega); (try rw [show ((0 : Int)).toNat = 0 from rfl] at hx124_0); (try rw [Addr.add_zero'] at hx124_0); replace p124 := eq_true p124; replace q124 := eq_true q124; have p125 : 0 ≤ (1 : Int) := (by omega); have q125 : 1 < (t120.length : Int) := of_decide_eq_true (by first | (with_reducible assumption) | assumption); obtain ⟨ad125, e125, hx125_0⟩ := Kd.at_int (Kd.R_reads' HO123.out).2.2 1 p125 q125; obtain rfl : ad124 = ad125 := (by injection e125); (try simp only [show (1 : Int).toNat = 1 from rfl, Nat.reduceMul, Nat.reduceEqDiff, Go.Addr.add, ↓reduceIte] at hx125_0); have qi125 : (1 < t120.length) = True := eq_true (by omega); (try rw [show ((1 : Int)).toNat = 1 from rfl] at hx125_0); replace p125 := eq_true p125; replace q125 := eq_true q125) | (go_at_call 48; (with_reducible refine (matrix_Identity.calls k 3 t126 _ A8.out).mono ?_); rintro e w19 ⟨v127, rfl, ho0, hb⟩; have n0_ := Aside0.mk (Kd.R_below (by (with_reducible repeat (first | apply Kd.R_alloc | apply Kd.R_drewN | apply Kd.R_drew)); exact HO123.out) hb); have n1_ := Aside0.mk (Kd.S_lower (Kd.S_new' ho0 (Kd.R_lt (by (with_reducible repeat (first | apply Kd.R_alloc | apply Kd.R_drewN | apply Kd.R_drew)); exact HO123.out))) (below_size (by repeat (first | (with_reducible first | exact HB.out | apply below_alloc | apply pw_below_drewN | apply below_drew1) | exact HB.out)))); have n2_ := Aside0.mk (below_step (by repeat (first | (with_reducible first | exact HB.out | apply below_alloc | apply pw_below_drewN | apply below_drew1) | exact HB.out)) hb); clear HO123; clear HB; have HO123 := n0_; have HO128 := n1_; have HB := n2_; clear n0_ n1_ n2_; (try clear hb); (try clear hb2); (try clear hk); (try clear hi); (try clear ho0); obtain ⟨Ao20, co20, eo20⟩ := Kd.S_slice HO128.out; subst eo20) | (go_at_call 28; (with_reducible refine (matrix_Rank.calls _ _ t126 t129 _ ?side1 ?side2 A9.out).mono ?_); (case side1 => repeat (first | exact (Kd.S_reads' HO128.out).2.2 | (with_reducible refine Kd.C_alloc ?_ _) | (with_reducible refine Kd.C_drewN ?_ _) | (with_reducible refine Kd.C_drew ?_))); (case side2 => exact (Kd.S_reads' HO128.out).2.1); rintro e w21 ⟨rfl, hb⟩; have n0_ := Aside0.mk (Kd.R_below (by (with_reducible repeat (first | apply Kd.R_alloc | apply Kd.R_drewN | apply Kd.R_drew)); exact HO123.out) hb); have n1_ := Aside0.mk (Kd.S_below (by (with_reducible repeat (first | apply Kd.S_alloc | apply Kd.S_drewN | apply Kd.S_drew)); exact HO128.out) hb); have n2_ := Aside0.mk (below_step (by repeat (first | (with_reducible first | exact HB.out | apply below_alloc | apply pw_below_drewN | apply below_drew1) | exact HB.out)) hb); clear HO123; clear HO128; clear HB; have HO123 := n0_; have HO128 := n1_; have HB := n2_; clear n0_ n1_ n2_; (try clear hb); (try clear hb2); (try clear hk); (try clear hi)))
                go_ret
                exact ⟨by first | rfl | (simp [errW_none, errW_some] <;> rfl) | (simp [*, errW_none, errW_some] <;> rfl), by repeat (first | (with_reducible first | exact HB.out | apply below_alloc | apply pw_below_drewN | apply below_drew1) | exact HB.out)⟩
            · rw [if_neg c7] at H
              have c7b0 : ((rd t120 1) == 244) = false := beq_eq_false_iff_ne.mpr c7
              have c7b1 : ((rd t120 1) != 244) = true := bne_iff_ne.mpr c7
              obtain rfl := Option.some.inj H
              go_enter Try.func36, Try.ntmps36
              go_wp2_with (first | ((with_reducible refine gate_callee (f := 40) rfl ?_); refine goesL_ (some 4) rfl rfl Try.func40 (by kernel_rfl) rfl #[.int .i64 2, .int .i64 4, .int .i64 2] rfl (by (try simp only [List.map_toArray, List.map_cons, List.map_nil]); first | done | rfl | (simp only [List.length_drop, List.length_take]; rfl)) ?_; (with_reducible refine (reedsolomon_Row.calls 2 4 2 t120 t121 _ A1.out).mono ?_); rintro e w22 ⟨v122, rfl, ho0, hb⟩; refine ⟨_, rfl, ?_⟩; have n0_ := Aside0.mk (Kd.R_lower ho0 (below_size (by repeat (first | (with_reducible first | exact HB.out | apply below_alloc | apply pw_below_drewN | apply below_drew1) | exact HB.out)))); have n1_ := Aside0.mk (below_step (by repeat (first | (with_reducible first | exact HB.out | apply below_alloc | apply pw_below_drewN | apply below_drew1) | exact HB.out)) hb); clear HB; have HO123 := n0_; have HB := n1_; clear n0_ n1_; (try clear hb); (try clear hb2); (try clear hk); (try clear hi); (try clear ho0); obtain ⟨Ao23, co23, eo23⟩ := Kd.R_slice HO123.out; subst eo23; have p124 : 0 ≤ (0 : Int) := (by omega); have q124 : 0 < (t120.length : Int) := of_decide_eq_true (by first | (with_reducible assumption) | assumption); obtain ⟨ad124, e124, hx124_0⟩ := Kd.at_int (Kd.R_reads' HO123.out).2.2 0 p124 q124; cases e124; have qi124 : (0 < t120.length) = True := eq_true (by omega); (try rw [show ((0 : Int)).toNat = 0 from rfl] at hx124_0); (try rw [Addr.add_zero'] at hx124_0); replace p124 := eq_true p124; replace q124 := eq_true q124; have p125 : 0 ≤ (1 : Int) := (by omega); have q125 : 1 < (t120.length : Int) := of_decide_eq_true (by first | (with_reducible assumption) | assumption); obtain ⟨ad125, e125, hx125_0⟩ := Kd.at_int (Kd.R_reads' HO123.out).2.2 1 p125 q125; obtain rfl : ad124 = ad125 := (by injection e125); (try simp only [show (1 : Int).toNat = 1 from rfl, Nat.reduceMul, Nat.reduceEqDiff, Go.Addr.add, ↓reduceIte] at hx125_0); have qi125 : (1 < t120.length) = True := eq_true (by omega); (try rw [show ((1 : Int)).toNat = 1 from rfl] at hx125_0); replace p125 := eq_true p125; replace q125 := eq_true q125))
              go_ret
              exact ⟨by first | rfl | (simp [errW_none, errW_some] <;> rfl) | (simp [*, errW_none, errW_some] <;> rfl), by repeat (first | (with_reducible first | exact HB.out | apply below_alloc | apply pw_below_drewN | apply below_drew1) | exact HB.out)⟩
          · rw [if_neg c6] at H
            exact absurd H (by simp)
        · rw [if_neg c5] at H
          have c5b0 : ((rd t120 0) == 142) = false := beq_eq_false_iff_ne.mpr c5
          have c5b1 : ((rd t120 0) != 142) = true := bne_iff_ne.mpr c5
          obtain rfl := Option.some.inj H
          go_enter Try.func36, Try.ntmps36
          go_wp2_with (first | ((with_reducible refine gate_callee (f := 40) rfl ?_); refine goesL_ (some 4) rfl rfl Try.func40 (by kernel_rfl) rfl #[.int .i64 2, .int .i64 4, .int .i64 2] rfl (by (try simp only [List.map_toArray, List.map_cons, List.map_nil]); first | done | rfl | (simp only [List.length_drop, List.length_take]; rfl)) ?_; (with_reducible refine (reedsolomon_Row.calls 2 4 2 t120 t121 _ A1.out).mono ?_); rintro e w24 ⟨v122, rfl, ho0, hb⟩; refine ⟨_, rfl, ?_⟩; have n0_ := Aside0.mk (Kd.R_lower ho0 (below_size (by repeat (first | (with_reducible first | exact HB.out | apply below_alloc | apply pw_below_drewN | apply below_drew1) | exact HB.out)))); have n1_ := Aside0.mk (below_step (by repeat (first | (with_reducible first | exact HB.out | apply below_alloc | apply pw_below_drewN | apply below_drew1) | exact HB.out)) hb); clear HB; have HO123 := n0_; have HB := n1_; clear n0_ n1_; (try clear hb); (try clear hb2); (try clear hk); (try clear hi); (try clear ho0); obtain ⟨Ao25, co25, eo25⟩ := Kd.R_slice HO123.out; subst eo25; have p124 : 0 ≤ (0 : Int) := (by omega); have q124 : 0 < (t120.length : Int) := of_decide_eq_true (by first | (with_reducible assumption) | assumption); obtain ⟨ad124, e124, hx124_0⟩ := Kd.at_int (Kd.R_reads' HO123.out).2.2 0 p124 q124; cases e124; have qi124 : (0 < t120.length) = True := eq_true (by omega); (try rw [show ((0 : Int)).toNat = 0 from rfl] at hx124_0); (try rw [Addr.add_zero'] at hx124_0); replace p124 := eq_true p124; replace q124 := eq_true q124))
          go_ret
          exact ⟨by first | rfl | (simp [errW_none, errW_some] <;> rfl) | (simp [*, errW_none, errW_some] <;> rfl), by repeat (first | (with_reducible first | exact HB.out | apply below_alloc | apply pw_below_drewN | apply below_drew1) | exact HB.out)⟩
      · rw [if_neg c4] at H
        exact absurd H (by simp)
    · rw [if_neg c3] at H
      have c3b0 : ((t120.length : Int) == 2) = false := beq_eq_false_iff_ne.mpr c3
      have c3b1 : ((t120.length : Int) != 2) = true := bne_iff_ne.mpr c3
      obtain rfl := Option.some.inj H
      go_enter Try.func36, Try.ntmps36
      go_wp2_with (first | ((with_reducible refine gate_callee (f := 40) rfl ?_); refine goesL_ (some 4) rfl rfl Try.func40 (by kernel_rfl) rfl #[.int .i64 2, .int .i64 4, .int .i64 2] rfl (by (try simp only [List.map_toArray, List.map_cons, List.map_nil]); first | done | rfl | (simp only [List.length_drop, List.length_take]; rfl)) ?_; (with_reducible refine (reedsolomon_Row.calls 2 4 2 t120 t121 _ A1.out).mono ?_); rintro e w26 ⟨v122, rfl, ho0, hb⟩; refine ⟨_, rfl, ?_⟩; have n0_ := Aside0.mk (Kd.R_lower ho0 (below_size (by repeat (first | (with_reducible first | exact HB.out | apply below_alloc | apply pw_below_drewN | apply below_drew1) | exact HB.out)))); have n1_ := Aside0.mk (below_step (by repeat (first | (with_reducible first | exact HB.out | apply below_alloc | apply pw_below_drewN | apply below_drew1) | exact HB.out)) hb); clear HB; have HO123 := n0_; have HB := n1_; clear n0_ n1_; (try clear hb); (try clear hb2); (try clear hk); (try clear hi); (try clear ho0); obtain ⟨Ao27, co27, eo27⟩ := Kd.R_slice HO123.out; subst eo27))
      go_ret
      exact ⟨by first | rfl | (simp [errW_none, errW_some] <;> rfl) | (simp [*, errW_none, errW_some] <;> rfl), by repeat (first | (with_reducible first | exact HB.out | apply below_alloc | apply pw_below_drewN | apply below_drew1) | exact HB.out)⟩
  · rw [if_neg c2] at H
    have c2b0 : (t121 == 0) = false := beq_eq_false_iff_ne.mpr c2
    have c2b1 : (t121 != 0) = true := bne_iff_ne.mpr c2
    obtain rfl := Option.some.inj H
    go_enter Try.func36, Try.ntmps36
    go_wp2_with (first | ((with_reducible refine gate_callee (f := 40) rfl ?_); refine goesL_ (some 4) rfl rfl Try.func40 (by kernel_rfl) rfl #[.int .i64 2, .int .i64 4, .int .i64 2] rfl (by (try simp only [List.map_toArray, List.map_cons, List.map_nil]); first | done | rfl | (simp only [List.length_drop, List.length_take]; rfl)) ?_; (with_reducible refine (reedsolomon_Row.calls 2 4 2 t120 t121 _ A1.out).mono ?_); rintro e w28 ⟨v122, rfl, ho0, hb⟩; refine ⟨_, rfl, ?_⟩; have n0_ := Aside0.mk (Kd.R_lower ho0 (below_size (by repeat (first | (with_reducible first | exact HB.out | apply below_alloc | apply pw_below_drewN | apply below_drew1) | exact HB.out)))); have n1_ := Aside0.mk (below_step (by repeat (first | (with_reducible first | exact HB.out | apply below_alloc | apply pw_below_drewN | apply below_drew1) | exact HB.out)) hb); clear HB; have HO123 := n0_; have HB := n1_; clear n0_ n1_; (try clear hb); (try clear hb2); (try clear hk); (try clear hi); (try clear ho0)))
    go_ret
    exact ⟨by first | rfl | (simp [errW_none, errW_some] <;> rfl) | (simp [*, errW_none, errW_some] <;> rfl), by repeat (first | (with_reducible first | exact HB.out | apply below_alloc | apply pw_below_drewN | apply below_drew1) | exact HB.out)⟩
end Go.Proofs.Ytpkghpljgjlmjaa.K
/- Pieces and blocks in plain Lean: any pieces, as many as there are blocks, give the blocks back. -/
namespace Go.Proofs.Ytpkghpljgjlmjaa.K
open Go.RowKit Kin
set_option linter.unusedVariables false
set_option linter.unusedSimpArgs false
section
variable {d : Nat} {Bs : List (List B)}
theorem encRow_length (hB : ∀ b ∈ Bs, b.length = colsN Bs) (p : Nat) : (encRow d Bs p).length = colsN Bs := applyPart_length _ _ _ hB _
theorem encRow_get (hB : ∀ b ∈ Bs, b.length = colsN Bs) (p c : Nat) : (encRow d Bs p).getD c 0 = bsum Bs.length (fun j => gmul (coefEl d p j) (fn Bs j c)) := by
  unfold encRow
  rw [applyPart_getD hB c Bs.length (by rw [coefRow_length]; exact Nat.le_refl _) (Nat.le_refl _)]
  exact bsum_congr fun j hj => by rw [coefRow_get _ _ _ hj]
theorem encM_getD {t p : Nat} (hp : p < t) : (encM d Bs t).getD p [] = encRow d Bs p := by
  unfold encM
  rw [List.getD_eq_getElem?_getD, List.getElem?_map, List.getElem?_range hp]
  rfl
/-- The pieces with the numbers of a list. -/
def pickE (d : Nat) (Bs : List (List B)) (I : List Nat) : List (List B) := I.map (encRow d Bs)
theorem pickE_length (I : List Nat) : (pickE d Bs I).length = I.length := by simp [pickE]
theorem pickE_rows (hB : ∀ b ∈ Bs, b.length = colsN Bs) (I : List Nat) : ∀ r ∈ pickE d Bs I, r.length = colsN Bs := by
  intro r hr
  obtain ⟨p, _, rfl⟩ := List.mem_map.1 hr
  exact encRow_length hB p
theorem pickE_cols (hB : ∀ b ∈ Bs, b.length = colsN Bs) {I : List Nat} (h : 0 < I.length) : colsN (pickE d Bs I) = colsN Bs := colsN_rows (pickE_rows hB I) (by rw [pickE_length]; exact h)
theorem facRows_nat (I : List Nat) (h : I.length = d) : facRows d (natInts I) = I.map (coefRow d d) := by
  unfold facRows natInts
  rw [← List.map_take, List.map_map, List.take_of_length_le (by omega)]
  rfl
theorem fn_map {α : Type} (I : List α) (f : α → List B) {i : Nat} (hi : i < I.length) (c : Nat) : fn (I.map f) i c = (f I[i]).getD c 0 := by
  unfold fn
  congr 1
  rw [List.getD_eq_getElem?_getD, List.getElem?_map, List.getElem?_eq_getElem hi]
  rfl
/-- Pieces are products of their coefficients with the blocks. -/
theorem pick_mul (hB : ∀ b ∈ Bs, b.length = colsN Bs) (hd : Bs.length = d) {I : List Nat} (hI : I.length = d) {i : Nat} (hi : i < d) (c : Nat) : fn (pickE d Bs I) i c = mulF d (fn (facRows d (natInts I))) (fn Bs) i c := by
  rw [facRows_nat I hI]
  unfold pickE mulF
  rw [fn_map I _ (by omega), encRow_get hB, hd]
  exact bsum_congr fun j hj => by rw [fn_map I _ (by omega), coefRow_get _ _ _ hj]
theorem dist_nat {I : List Nat} {t : Nat} (hn : I.Nodup) (hb : ∀ p ∈ I, p < t) : distB (t : Int) (natInts I) = true := by
  unfold distB
  rw [Bool.and_eq_true, decide_eq_true_eq, List.all_eq_true]
  refine ⟨?_, fun x hx => ?_⟩
  · unfold natInts
    induction I with
    | nil => exact List.nodup_nil
    | cons a I ih =>
      obtain ⟨h1, h2⟩ := List.nodup_cons.1 hn
      rw [List.map_cons, List.nodup_cons]
      refine ⟨fun hm => ?_, ih h2 fun p hp => hb p (List.mem_cons_of_mem _ hp)⟩
      obtain ⟨b, hb1, hb2⟩ := List.mem_map.1 hm
      have : b = a := by omega
      exact h1 (this ▸ hb1)
  · obtain ⟨p, hp, rfl⟩ := List.mem_map.1 hx
    have := hb p hp
    exact decide_eq_true ⟨by omega, by omega⟩
theorem ix_nat {I : List Nat} (hn : I.Nodup) (hb : ∀ p ∈ I, p < 16) (hl : I.length = d) : ixOk d (natInts I) := by
  have hnl : (natInts I).length = I.length := by simp [natInts]
  exact ⟨by omega, by rw [List.take_of_length_le (by omega)]; exact dist_nat hn hb⟩
/-- The inverse times the pieces: the blocks. -/
theorem back_fn (hd1 : 1 ≤ d) (hd : d ≤ 8) (hB : ∀ b ∈ Bs, b.length = colsN Bs) (hl : Bs.length = d) {I : List Nat} (hn : I.Nodup) (hb : ∀ p ∈ I, p < 16) (hI : I.length = d) {i : Nat} (hi : i < d) (c : Nat) :
    mulF d (fn (facInv d (natInts I))) (fn (pickE d Bs I)) i c = fn Bs i c := by
  obtain ⟨_, _, _, _, h5⟩ := facInv_facts hd1 hd (ix_nat hn hb hI)
  have e1 : mulF d (fn (facInv d (natInts I))) (fn (pickE d Bs I)) i c = mulF d (fn (facInv d (natInts I))) (mulF d (fn (facRows d (natInts I))) (fn Bs)) i c :=
    mulF_congr (fun _ _ => rfl) (fun t ht => pick_mul hB hl hI ht c)
  rw [e1, ← mulF_assoc]
  have e2 : mulF d (mulF d (fn (facInv d (natInts I))) (fn (facRows d (natInts I)))) (fn Bs) i c = mulF d idF (fn Bs) i c :=
    mulF_congr (fun t ht => h5 i t hi ht) (fun _ _ => rfl)
  rw [e2, mulF_id_left _ hi]
theorem apply_back (hd1 : 1 ≤ d) (hd : d ≤ 8) (hB : ∀ b ∈ Bs, b.length = colsN Bs) (hl : Bs.length = d) (hlim : colsN Bs ≤ 65536) {I : List Nat} (hn : I.Nodup) (hb : ∀ p ∈ I, p < 16) (hI : I.length = d) :
    matrix_Apply.f (up2 (facInv d (natInts I))) (up2 (pickE d Bs I)) = some (up2 Bs, 0) := by
  obtain ⟨_, h2, h3, _, _⟩ := facInv_facts hd1 hd (ix_nat hn hb hI)
  have hc := pickE_cols (d := d) hB (I := I) (by omega)
  rw [apply_up _ _ (validB_tab h3 (by omega) (by omega)) (by rw [pickE_length, colsN_rows h3 (by omega), hI]) (fun b hb => by rw [hc]; exact pickE_rows hB I b hb) (by rw [hc]; omega), hc]
  congr 3
  rw [applyM_eq (fun r hr => by rw [h3 r hr, pickE_length, hI]) (fun b hb => pickE_rows hB I b hb)]
  refine mat_ext (r := d) (c := colsN Bs) (by rw [mulM, tabM_length, h2]) hl (tabM_rows _ _ _) hB (fun i j hi hj => ?_)
  rw [mulM, tabM_fn _ (by omega) hj, pickE_length, hI]
  exact back_fn hd1 hd hB hl hn hb hI hi j
theorem coefRow_unit {i k : Nat} (hi : i < d) (hk : k < d) : coefEl d i k = if i = k then 1 else 0 := by
  unfold coefEl rowEl
  rw [if_pos hk, if_pos hi]
theorem facRow_get (hd1 : 1 ≤ d) (hd : d ≤ 8) {L : List Int} (h : ixOk d L) (i : Nat) {j : Nat} (hj : j < d) : (facRow d L i).getD j 0 = bsum d (fun k => gmul (coefEl d i k) (fn (facInv d L) k j)) := by
  obtain ⟨_, h2, _, _, _⟩ := facInv_facts hd1 hd h
  unfold facRow
  have : ((mulM [coefRow d d i] (facInv d L) d).getD 0 []).getD j 0 = fn (mulM [coefRow d d i] (facInv d L) d) 0 j := rfl
  rw [this, mulM, tabM_fn _ (by simp) hj, h2]
  unfold mulF
  exact bsum_congr fun k hk => by
    have : fn [coefRow d d i] 0 k = (coefRow d d i).getD k 0 := rfl
    rw [this, coefRow_get _ _ _ hk]
theorem pieceRow_get (hd1 : 1 ≤ d) (hd : d ≤ 8) {L : List Int} (h : ixOk d L) {P : List (List B)} (hP : ∀ b ∈ P, b.length = colsN P) (hl : d ≤ P.length) (i c : Nat) : (pieceRow d L P i).getD c 0 = bsum d (fun j => gmul ((facRow d L i).getD j 0) (fn P j c)) := by
  unfold pieceRow
  rw [applyPart_getD (fun b hb => hP b (List.mem_of_mem_take hb)) c d (by rw [facRow_length hd1 hd h]; exact Nat.le_refl _) (by rw [List.length_take]; omega)]
  refine bsum_congr fun j hj => ?_
  congr 1
  unfold fn
  congr 1
  rw [List.getD_eq_getElem?_getD, List.getElem?_take_of_lt hj, ← List.getD_eq_getElem?_getD]
/-- The pieces that the first pieces give are those of the blocks. -/
theorem piece_back (hd1 : 1 ≤ d) (hd : d ≤ 8) (hB : ∀ b ∈ Bs, b.length = colsN Bs) (hl : Bs.length = d) {I : List Nat} (hn : I.Nodup) (hb : ∀ p ∈ I, p < 16) (hI : d ≤ I.length) (p : Nat) :
    pieceRow d (natInts I) (pickE d Bs I) p = encRow d Bs p := by
  have hI2 : (I.take d).length = d := by rw [List.length_take]; omega
  have hn2 : (I.take d).Nodup := hn.sublist (List.take_sublist _ _)
  have hb2 : ∀ p ∈ I.take d, p < 16 := fun p hp => hb p (List.mem_of_mem_take hp)
  have hnl : (natInts I).length = I.length := by simp [natInts]
  have hix : ixOk d (natInts I) := ⟨by omega, by
    have := dist_nat hn2 hb2
    rwa [show natInts (I.take d) = (natInts I).take d by simp [natInts, List.map_take]] at this⟩
  have hinv : facInv d (natInts I) = facInv d (natInts (I.take d)) := by
    unfold facInv facRows
    congr 3
    rw [show natInts (I.take d) = (natInts I).take d by simp [natInts, List.map_take], List.take_take, Nat.min_self]
  have hc := pickE_cols (d := d) hB (I := I) (by omega)
  have hrow : (pieceRow d (natInts I) (pickE d Bs I) p).length = colsN Bs := by
    unfold pieceRow
    rw [applyPart_length _ _ _ (fun b hb => by rw [hc]; exact pickE_rows hB I b (List.mem_of_mem_take hb)), hc]
  refine List.ext_getElem (by rw [hrow, encRow_length hB]) fun c h1 h2 => ?_
  have e1 := pieceRow_get hd1 hd hix (P := pickE d Bs I) (fun b hb => by rw [hc]; exact pickE_rows hB I b hb) (by rw [pickE_length]; exact hI) p c
  have e2 := encRow_get (d := d) hB p c
  rw [List.getD_eq_getElem?_getD, List.getElem?_eq_getElem h1] at e1
  rw [List.getD_eq_getElem?_getD, List.getElem?_eq_getElem h2] at e2
  simp only [Option.getD_some] at e1 e2
  rw [e1, e2, hl]
  have f1 : ∀ j, j < d → gmul ((facRow d (natInts I) p).getD j 0) (fn (pickE d Bs I) j c) = bsum d (fun k => gmul (gmul (coefEl d p k) (fn (facInv d (natInts I)) k j)) (fn (pickE d Bs I) j c)) := by
    intro j hj
    rw [facRow_get hd1 hd hix p hj, bsum_mul_right]
  rw [bsum_congr f1, bsum_swap]
  refine bsum_congr fun k hk => ?_
  have f2 : bsum d (fun j => gmul (gmul (coefEl d p k) (fn (facInv d (natInts I)) k j)) (fn (pickE d Bs I) j c)) = gmul (coefEl d p k) (mulF d (fn (facInv d (natInts I))) (fn (pickE d Bs I)) k c) := by
    unfold mulF
    rw [← bsum_mul]
    exact bsum_congr fun j _ => by rw [gmul_assoc]
  rw [f2]
  congr 1
  have f3 : mulF d (fn (facInv d (natInts I))) (fn (pickE d Bs I)) k c = mulF d (fn (facInv d (natInts (I.take d)))) (fn (pickE d Bs (I.take d))) k c := by
    rw [hinv]
    refine mulF_congr (fun _ _ => rfl) (fun t ht => ?_)
    unfold pickE
    rw [fn_map _ _ (by omega), fn_map _ _ (by omega), List.getElem_take]
  rw [f3]
  exact back_fn hd1 hd hB hl hn2 hb2 hI2 hk c
end
end Go.Proofs.Ytpkghpljgjlmjaa.K
/- What the printed functions of package reedsolomon say of pieces of blocks. -/
namespace Go.Proofs.Ytpkghpljgjlmjaa.K
open Go.RowKit Kin
set_option linter.unusedVariables false
set_option linter.unusedSimpArgs false
theorem a04same_l0 (l : List (List Int)) (hl : l.length ≤ 1000000) (n : Nat) : ∀ (k i : Nat), i + n = l.length → n < k → kinkeeptop_a04Same.l0 k l l (l.length : Int) (i : Int) = some true := by
  induction n with
  | zero =>
    intro k i hi hk
    obtain ⟨k, rfl⟩ : ∃ j, k = j + 1 := ⟨k - 1, by omega⟩
    simp only [kinkeeptop_a04Same.l0]
    rw [if_neg (by omega)]
  | succ n ih =>
    intro k i hi hk
    obtain ⟨k, rfl⟩ : ∃ j, k = j + 1 := ⟨k - 1, by omega⟩
    simp only [kinkeeptop_a04Same.l0]
    rw [if_pos (by omega), if_pos (by omega), if_pos (by omega), if_pos (by omega), if_pos trivial, wrap_nx _ (by omega)]
    exact ih k (i + 1) (by omega) (by omega)
theorem a04same_self (l : List (List Int)) (hl : l.length ≤ 1000000) {k : Nat} (hk : l.length < k) : kinkeeptop_a04Same.f k l l = some true := by
  unfold kinkeeptop_a04Same.f
  rw [if_pos rfl]
  exact a04same_l0 l hl l.length k 0 (by omega) hk
def blkOk {α : Type} (l : List (List α)) (most : Nat) (x : List α) : Bool := decide (1 ≤ x.length ∧ x.length ≤ most ∧ x.length = colsN l)
def blocksB {α : Type} (l : List (List α)) (d : Int) (most : Nat) : Bool := l.all (blkOk l most) && ((l.length : Int) == d)
theorem a04blocks_l0 (l : List (List Int)) (d : Int) (most : Nat) (hl : l.length ≤ 9223372036854775807) (n : Nat) : ∀ (k i : Nat), i + n = l.length → n < k → (∀ j (h : j < l.length), j < i → blkOk l most l[j] = true) →
    kinkeeptop_a04Blocks.l0 k d l (most : Int) l (l.length : Int) (i : Int) = some (blocksB l d most) := by
  induction n with
  | zero =>
    intro k i hi hk hp
    obtain ⟨k, rfl⟩ : ∃ j, k = j + 1 := ⟨k - 1, by omega⟩
    simp only [kinkeeptop_a04Blocks.l0]
    rw [if_neg (by omega)]
    unfold blocksB
    rw [show l.all (blkOk l most) = true from List.all_eq_true.2 fun x hx => by obtain ⟨j, hj, rfl⟩ := List.getElem_of_mem hx; exact hp j hj (by omega), Bool.true_and]
  | succ n ih =>
    intro k i hi hk hp
    obtain ⟨k, rfl⟩ : ∃ j, k = j + 1 := ⟨k - 1, by omega⟩
    have hil : i < l.length := by omega
    have hrd : rd_L1 l (i : Int) = l[i] := rd_L1_mem l i hil
    have h0 : (rd_L1 l 0).length = colsN l := by cases l with | nil => simp at hil | cons y t => rfl
    have bad : blkOk l most l[i] = false → blocksB l d most = false := fun h => by
      unfold blocksB
      rw [List.all_eq_false.2 ⟨l[i], List.getElem_mem hil, by rw [h]; simp⟩, Bool.false_and]
    simp only [kinkeeptop_a04Blocks.l0]
    rw [if_pos (by omega), if_pos (by omega), if_pos (by omega), hrd]
    by_cases h1 : (l[i].length : Int) < 1
    · rw [if_pos h1, bad (decide_eq_false (by omega))]
    · rw [if_neg h1]
      by_cases h2 : (l[i].length : Int) > (most : Int)
      · rw [if_pos h2, bad (decide_eq_false (by omega))]
      · rw [if_neg h2, if_pos (by omega), h0]
        by_cases h3 : (l[i].length : Int) = (colsN l : Int)
        · rw [if_pos h3, wrap_nx _ (by omega)]
          refine ih k (i + 1) (by omega) (by omega) fun j hj hji => ?_
          by_cases e : j = i
          · subst e; exact decide_eq_true ⟨by omega, by omega, by omega⟩
          · exact hp j hj (by omega)
        · rw [if_neg h3, bad (decide_eq_false (by omega))]
theorem a04blocks_b (l : List (List Int)) (d : Int) (most : Nat) (hl : l.length ≤ 9223372036854775807) {k : Nat} (hk : l.length < k) : kinkeeptop_a04Blocks.f k d l (most : Int) = some (blocksB l d most) :=
  a04blocks_l0 l d most hl l.length k 0 (by omega) hk (fun _ _ h => absurd h (by omega))
theorem blocksB_lim {Bs : List (List B)} {d : Int} {most : Nat} (h : blocksB (up2 Bs) d most = true) : (Bs.length : Int) = d ∧ (∀ b ∈ Bs, 1 ≤ b.length ∧ b.length ≤ most ∧ b.length = colsN Bs) := by
  unfold blocksB at h
  rw [Bool.and_eq_true, List.all_eq_true, beq_iff_eq, up2_length] at h
  refine ⟨h.2, fun b hb => ?_⟩
  have := h.1 (up b) (List.mem_map.2 ⟨b, hb, rfl⟩)
  unfold blkOk at this
  rw [decide_eq_true_eq, up_length, colsN_up2] at this
  exact this
theorem levelB_of {Bs : List (List B)} (h : ∀ b ∈ Bs, 1 ≤ b.length ∧ b.length ≤ 65536 ∧ b.length = colsN Bs) : levelB (up2 Bs) = true := by
  unfold levelB
  rw [Bool.not_eq_true', List.any_eq_false]
  intro x hx
  obtain ⟨b, hb, rfl⟩ := List.mem_map.1 hx
  have := h b hb
  rw [colsN_up2]
  unfold offLen
  rw [up_length]
  simp only [Bool.or_eq_true, decide_eq_true_eq]
  omega
theorem natInts_len (I : List Nat) : (natInts I).length = I.length := by simp [natInts]
section
variable {d t : Nat}
theorem given_ok (hd1 : 1 ≤ d) (hd : d ≤ 8) (ht1 : d ≤ t) (ht : t ≤ 16) {I : List Nat} (hn : I.Nodup) (hb : ∀ p ∈ I, p < t) {P : List (List B)} (hP : P.length = I.length) (hlv : levelB (up2 P) = true) {k : Nat} (hk : 1 ≤ k) :
    reedsolomon_given.f k (d : Int) (t : Int) (natInts I) (up2 P) = some (if P.length < d then 10 else 0) := by
  obtain ⟨k, rfl⟩ : ∃ j, k = j + 1 := ⟨k - 1, by omega⟩
  unfold reedsolomon_given.f
  rw [rsvalid_eq, decide_eq_true ⟨by omega, by omega, by omega, by omega⟩, Option.bind_some, if_pos rfl, if_pos (by rw [natInts_len, up2_length, hP])]
  unfold reedsolomon_distinct.f reedsolomon_level.f
  rw [if_pos (by omega), dist_nat hn hb, Option.bind_some, if_pos rfl, hlv, Option.bind_some]
  simp only [reedsolomon_given.j0]
  rw [if_neg (by simp), up2_length]
  by_cases h : P.length < d
  · rw [if_pos (by omega), if_pos h]
  · rw [if_neg (by omega), if_neg h]
variable {Bs : List (List B)}
/-- Blocks of one length from 1 on. -/
def blksOk (Bs : List (List B)) : Prop := (∀ b ∈ Bs, b.length = colsN Bs) ∧ 1 ≤ colsN Bs ∧ colsN Bs ≤ 65536
theorem pick_level (h : blksOk Bs) (I : List Nat) : levelB (up2 (pickE d Bs I)) = true := by
  refine levelB_of fun b hb => ?_
  have h0 : 0 < I.length := by
    obtain ⟨p, hp, _⟩ := List.mem_map.1 hb
    exact List.length_pos_of_mem hp
  rw [pickE_cols h.1 h0, pickE_rows h.1 I b hb]
  exact ⟨h.2.1, h.2.2, rfl⟩
theorem pick_spOk (hd1 : 1 ≤ d) (hd : d ≤ 8) (h : blksOk Bs) {I : List Nat} (hn : I.Nodup) (hb : ∀ p ∈ I, p < 16) (hI : d ≤ I.length) : spOk d (natInts I) (pickE d Bs I) :=
  ⟨⟨hd1, hd⟩, by rw [pickE_length]; exact hI, by rw [pickE_length, natInts_len]; exact Nat.le_refl _, dist_nat hn hb, pick_level h I⟩
theorem enc_first (hd : d ≤ 8) (hB : ∀ b ∈ Bs, b.length = colsN Bs) (hl : Bs.length = d) {i : Nat} (hi : i < d) : encRow d Bs i = Bs.getD i [] := by
  have hb : (Bs.getD i []).length = colsN Bs := hB _ (getD_mem' (by omega))
  refine List.ext_getElem (by rw [encRow_length hB, hb]) fun c h1 h2 => ?_
  have e2 := encRow_get (d := d) hB i c
  rw [List.getD_eq_getElem?_getD, List.getElem?_eq_getElem h1] at e2
  simp only [Option.getD_some] at e2
  rw [e2, hl, bsum_one (p := i) hi]
  · rw [coefRow_unit hi hi, if_pos rfl, one_gmul]
    unfold fn
    rw [List.getD_eq_getElem?_getD (l := Bs.getD i []), List.getElem?_eq_getElem h2]
    rfl
  · intro k hk hne
    rw [coefRow_unit hi hk, if_neg (Ne.symm hne), zero_gmul]
theorem recon_l0 (hd1 : 1 ≤ d) (hd : d ≤ 8) (h : blksOk Bs) (hl : Bs.length = d) {I : List Nat} (hn : I.Nodup) (hb : ∀ p ∈ I, p < 16) (hI : d ≤ I.length) (m : Nat) :
    ∀ k i, i + m = d → m < k → reedsolomon_Reconstruct.l0 k (d : Int) (natInts I) (up2 (pickE d Bs I)) (up2 (Bs.take i)) (d : Int) (i : Int) = some (up2 Bs, 0) := by
  induction m with
  | zero =>
    intro k i hi hk
    obtain ⟨k, rfl⟩ : ∃ j, k = j + 1 := ⟨k - 1, by omega⟩
    simp only [reedsolomon_Reconstruct.l0]
    rw [if_neg (by omega), List.take_of_length_le (by omega)]
  | succ m ih =>
    intro k i hi hk
    obtain ⟨k, rfl⟩ : ∃ j, k = j + 1 := ⟨k - 1, by omega⟩
    simp only [reedsolomon_Reconstruct.l0]
    rw [if_pos (by omega), piece_up (pick_spOk hd1 hd h hn hb hI) (by omega), Option.bind_some, if_pos (by rw [up2_length, List.length_take]; omega), wrap_nx _ (by omega), piece_back hd1 hd h.1 hl hn hb hI, enc_first hd h.1 hl (by omega)]
    have e : up2 (Bs.take i) ++ [up (Bs.getD i [])] = up2 (Bs.take (i + 1)) := by
      rw [List.take_succ_eq_append_getElem (by omega), up2_append, List.getD_eq_getElem?_getD, List.getElem?_eq_getElem (by omega)]
      rfl
    rw [e]
    exact ih k (i + 1) (by omega) (by omega)
theorem recon_ok (hd1 : 1 ≤ d) (hd : d ≤ 8) (ht1 : d ≤ t) (ht : t ≤ 16) (h : blksOk Bs) (hl : Bs.length = d) {I : List Nat} (hn : I.Nodup) (hb : ∀ p ∈ I, p < t) (hI : d ≤ I.length) {k : Nat} (hk : d < k) :
    reedsolomon_Reconstruct.f k (d : Int) (t : Int) (natInts I) (up2 (pickE d Bs I)) = some (up2 Bs, 0) := by
  unfold reedsolomon_Reconstruct.f
  rw [given_ok hd1 hd ht1 ht hn hb (pickE_length I) (pick_level h I) (by omega), if_neg (by rw [pickE_length]; omega), Option.bind_some, if_pos rfl]
  exact recon_l0 hd1 hd h hl hn (fun p hp => by have := hb p hp; omega) hI d k 0 (by omega) hk
theorem recon_short (hd1 : 1 ≤ d) (hd : d ≤ 8) (ht1 : d ≤ t) (ht : t ≤ 16) (h : blksOk Bs) {I : List Nat} (hn : I.Nodup) (hb : ∀ p ∈ I, p < t) (hI : I.length < d) {k : Nat} (hk : d < k) :
    reedsolomon_Reconstruct.f k (d : Int) (t : Int) (natInts I) (up2 (pickE d Bs I)) = some ([], 10) := by
  unfold reedsolomon_Reconstruct.f
  rw [given_ok hd1 hd ht1 ht hn hb (pickE_length I) (pick_level h I) (by omega), if_pos (by rw [pickE_length]; exact hI), Option.bind_some, if_neg (by decide)]
theorem diff_pick (hd1 : 1 ≤ d) (hd : d ≤ 8) (h : blksOk Bs) (hl : Bs.length = d) {I : List Nat} (hn : I.Nodup) (hb : ∀ p ∈ I, p < 16) (hI : d ≤ I.length) {k : Nat} (hk : k < I.length) (a : Nat) : diffAt d (natInts I) (pickE d Bs I) k a = false := by
  unfold diffAt
  rw [piece_back hd1 hd h.1 hl hn hb hI]
  have e1 : (pickE d Bs I).getD k [] = encRow d Bs I[k] := by
    unfold pickE
    rw [List.getD_eq_getElem?_getD, List.getElem?_map, List.getElem?_eq_getElem hk]
    rfl
  have e2 : ((natInts I).getD k 0).toNat = I[k] := by
    unfold natInts
    rw [List.getD_eq_getElem?_getD, List.getElem?_map, List.getElem?_eq_getElem hk]
    rfl
  rw [e1, e2]
  simp
theorem spoiled_pick (hd1 : 1 ≤ d) (hd : d ≤ 8) (h : blksOk Bs) (hl : Bs.length = d) {I : List Nat} (hn : I.Nodup) (hb : ∀ p ∈ I, p < 16) (hI : d ≤ I.length) : spoiledL d (natInts I) (pickE d Bs I) = [] := by
  unfold spoiledL
  rw [List.filter_eq_nil_iff]
  intro a _
  unfold markF
  have : (List.range (pickE d Bs I).length).any (fun j => decide (d ≤ j) && diffAt d (natInts I) (pickE d Bs I) j a) = false := by
    rw [List.any_eq_false]
    intro j hj
    rw [List.mem_range, pickE_length] at hj
    rw [diff_pick hd1 hd h hl hn hb hI hj]
    simp
  rw [this]
  simp
theorem check_ok (hd1 : 1 ≤ d) (hd : d ≤ 8) (ht1 : d ≤ t) (ht : t ≤ 16) (h : blksOk Bs) (hl : Bs.length = d) {I : List Nat} (hn : I.Nodup) (hb : ∀ p ∈ I, p < t) (hI : d ≤ I.length) {k : Nat} (hk : 1 ≤ k) :
    reedsolomon_Check.f k (d : Int) (t : Int) (natInts I) (up2 (pickE d Bs I)) = some (true, 0) := by
  unfold reedsolomon_Check.f
  have hb16 : ∀ p ∈ I, p < 16 := fun p hp => by have := hb p hp; omega
  rw [given_ok hd1 hd ht1 ht hn hb (pickE_length I) (pick_level h I) hk, if_neg (by rw [pickE_length]; omega), Option.bind_some, if_pos rfl, spoiled_up (pick_spOk hd1 hd h hn hb16 hI), spoiled_pick hd1 hd h hl hn hb16 hI]
  rfl
theorem rank_rows (hd1 : 1 ≤ d) (hd : d ≤ 8) {I : List Nat} (hn : I.Nodup) (hb : ∀ p ∈ I, p < 16) (hI : I.length = d) : matrix_Rank.f (up2 (facRows d (natInts I))) = some (d : Int) := by
  obtain ⟨hl, hs, hf⟩ := facRows_full hd1 hd (ix_nat hn hb hI)
  have hc : colsN (facRows d (natInts I)) = d := colsN_rows facRows_rows (by omega)
  rw [rank_up _ (validB_tab facRows_rows (by omega) (by omega)), hc]
  have := (elim_form (R := facRows d (natInts I)) facRows_rows d).le
  congr 2
  omega
theorem row_f (hd1 : 1 ≤ d) (hd : d ≤ 8) (ht1 : d ≤ t) (ht : t ≤ 16) {p : Nat} (hp : p < t) : reedsolomon_Row.f (d : Int) (t : Int) (p : Int) = some (up (coefRow d d p), 0) := by
  unfold reedsolomon_Row.f
  rw [if_pos ⟨by omega, by omega⟩, Int.toNat_natCast, Int.toNat_natCast]
theorem encode_f (hd1 : 1 ≤ d) (hd : d ≤ 8) (ht1 : d ≤ t) (ht : t ≤ 16) (h : blksOk Bs) (hl : Bs.length = d) : reedsolomon_Encode.f (d : Int) (t : Int) (up2 Bs) = some (up2 (encM d Bs t), 0) := by
  unfold reedsolomon_Encode.f
  have hlv : levelB (up2 Bs) = true := levelB_of fun b hb => ⟨by rw [h.1 b hb]; exact h.2.1, by rw [h.1 b hb]; exact h.2.2, h.1 b hb⟩
  rw [if_pos ⟨⟨by omega, by omega, by omega, by omega⟩, by rw [up2_length]; omega, by rw [up2_length]; omega, hlv⟩, if_pos (bytes2_up2 Bs), toB2_up2, Int.toNat_natCast, Int.toNat_natCast]
end
theorem a04awake_true {k : Nat} (hk : 100 ≤ k) : kinkeeptop_a04Awake.f k = some true := by
  unfold kinkeeptop_a04Awake.f
  have hr := row_f (d := 2) (t := 4) (p := 2) (by omega) (by omega) (by omega) (by omega) (by omega)
  have e : reedsolomon_Row.f 2 4 2 = some ([142, 244], 0) := hr.trans (by decide +kernel)
  have hid : matrix_Identity.f k 3 = some (up2 (idM 3)) := identity_b 3 (by omega) (by omega)
  have hrk : matrix_Rank.f (up2 (idM 3)) = some 3 := by
    rw [rank_up _ (by decide +kernel)]
    decide +kernel
  have hm : gf256_Mul.f k 2 128 = some (b2i (gmul 2 128)) := mul_b 2 128 (by omega)
  rw [e, Option.bind_some, hid, Option.bind_some, hrk, Option.bind_some, hm]
  simp only [Option.bind_some]
  decide +kernel
end Go.Proofs.Ytpkghpljgjlmjaa.K
/- The law of any pieces: its walk. -/
namespace Go.Proofs.Ytpkghpljgjlmjaa.K
open Go.RowKit Go.Proofs.YtpkghpljgjlmjaaW.PrintWords Go.Proofs.YtpkghpljgjlmjaaW.PrintLast Go.Proofs.YtpkghpljgjlmjaaW.PrintMore Kin
set_option linter.unusedVariables false
set_option linter.unusedSimpArgs false
theorem infoI2 : (Try.prog.info? 3).map (fun i => (i.zero, i.size, i.bytes)) = some (some (.int .i64 0), 1, 8) := by kernel_rfl
def f9.T17 : Bool × List (List Nat × List Nat) := (true, [([], []), ([], []), ([1], [1]), ([0, 2], [0, 2]), ([], []), ([], []), ([], []), ([5, 6], [5, 6]), ([7], [7]), ([8], [8]), ([4, 9, 3], [4, 9]), ([], []), ([], []), ([12], [12]), ([11, 13, 10], [11, 13]), ([3, 14, 0, 1, 2, 3], [0, 3]), ([10, 15, 0, 1, 2, 3, 4, 5, 6, 7, 8, 9, 10, 15], [4, 10]), ([14, 16, 0, 1, 2, 3, 4, 5, 6, 7, 8, 9, 10, 11, 12, 13, 14, 15, 16], [11, 14])])
def f9.B17 : List Nat := [0, 0, 2, 7, 0, 0, 0, 96, 224, 480, 1023, 0, 0, 4096, 16383, 32767, 65535, 131071]
theorem f9.tab17 : rtab .any (opsOf Try.f9 17) = f9.T17 := by kernel_rfl
theorem f9.bits17 : waitsOk f9.T17.2 f9.B17 = true := by kernel_rfl
theorem R_empty {α : Type} (d : Kd α) {e base g : Nat} {ok : Nat → Prop} {w : World} (h : w.heap[g]? = some (.cells #[] e (0, 0))) (hb : base ≤ g) (hok : ok g) : d.R e w base ok (.slice (some ⟨g, 0, none⟩) 0 0) [] := by
  refine ⟨fun k hk => ?_, [], ⟨by simp, .inr ⟨g, 0, #[], rfl, hb, h, Nat.le_refl _, by simp [maxLen], by simp, by simp⟩⟩, ⟨by simp, fun j p hj => by simp at hj⟩⟩
  have : g = k := by simpa [Value.ownBlock] using hk
  rw [← this]; exact hok
theorem any_start (w : World) : AnySt w ((((w.alloc (.map #[] 0)).alloc (.cells #[] 3 (0, 0))).alloc (.cells #[] 34 (0, 0))).alloc (.cells #[] 34 (0, 0))) w.heap.size 0 [] (.slice (some ⟨w.heap.size + 1, 0, none⟩) 0 0) [] (.slice (some ⟨w.heap.size + 1 + 1, 0, none⟩) 0 0) [] [] (.slice (some ⟨w.heap.size + 1 + 1 + 1, 0, none⟩) 0 0) [] [] := by
  obtain ⟨w1, hw1⟩ : ∃ w1, w1 = w.alloc (.map #[] 0) := ⟨_, rfl⟩
  have s1 : w1.heap.size = w.heap.size + 1 := by rw [hw1]; simp
  obtain ⟨w2, hw2⟩ : ∃ w2, w2 = w1.alloc (.cells #[] 3 (0, 0)) := ⟨_, rfl⟩
  have s2 : w2.heap.size = w.heap.size + 1 + 1 := by rw [hw2]; simp [s1]
  obtain ⟨w3, hw3⟩ : ∃ w3, w3 = w2.alloc (.cells #[] 34 (0, 0)) := ⟨_, rfl⟩
  have s3 : w3.heap.size = w.heap.size + 1 + 1 + 1 := by rw [hw3]; simp [s2]
  rw [← hw1, ← hw2, ← hw3]
  have hm : SetSt w1 w.heap.size 0 [] := by rw [hw1]; exact set_made w
  have b1 : w1.heap[w.heap.size]? = some (.map #[] 0) := by rw [hw1]; exact heap_alloc_new w _
  have b2 : w2.heap[w.heap.size + 1]? = some (.cells #[] 3 (0, 0)) := by rw [hw2, ← s1]; exact heap_alloc_new w1 _
  have b3 : w3.heap[w.heap.size + 1 + 1]? = some (.cells #[] 34 (0, 0)) := by rw [hw3, ← s2]; exact heap_alloc_new w2 _
  have k2 : Below w1.heap.size w1 w2 := by rw [hw2]; exact below_alloc (Below.refl _ _) _
  have k3 : Below w2.heap.size w2 w3 := by rw [hw3]; exact below_alloc (Below.refl _ _) _
  have k4 : Below w3.heap.size w3 (w3.alloc (.cells #[] 34 (0, 0))) := below_alloc (Below.refl _ _) _
  have b4 : (w3.alloc (.cells #[] 34 (0, 0))).heap[w.heap.size + 1 + 1 + 1]? = some (.cells #[] 34 (0, 0)) := by rw [← s3]; exact heap_alloc_new w3 _
  have k0 : Below w.heap.size w w1 := by rw [hw1]; exact below_alloc (Below.refl _ _) _
  refine ⟨R_empty _ ((k4.block _ (by omega)).trans ((k3.block _ (by omega)).trans b2)) (by omega) trivial, R_empty _ ((k4.block _ (by omega)).trans b3) (by omega) (by simp [Value.ownBlock]), R_empty _ b4 (by omega) (by simp [Value.ownBlock]), rfl, rfl, fun j x h => by simp at h, fun j x h => by simp at h, ((hm.below k2).below k3).below k4, ?_, Nat.le_refl _⟩
  exact k0.trans ((k2.trans ((k3.trans (k4.mono k3.size)).mono k2.size)).mono k0.size)
/-- The number of a piece that a chosen number names. -/
def pickAt (t : Nat) (x : Int) : Nat := (x % (t : Int)).toNat
theorem pickAt_facts {t : Nat} (ht : 1 ≤ t) (x : Int) : pickAt t x < t ∧ (-(t : Int) < Int.tmod x t ∧ Int.tmod x t < t) ∧ (Int.tmod x t + t) % (t : Int) = (pickAt t x : Int) ∧ Int.tmod (Int.tmod x t + t) t = (pickAt t x : Int) := by
  have h0 : (0 : Int) < t := by omega
  have hn := Int.emod_nonneg x (show (t : Int) ≠ 0 by omega)
  have hl := Int.emod_lt_of_pos x h0
  have hp : (pickAt t x : Int) = x % (t : Int) := by unfold pickAt; omega
  have hb : -(t : Int) < Int.tmod x t ∧ Int.tmod x t < t := ⟨by have := Int.lt_tmod_of_pos x h0; omega, Int.tmod_lt_of_pos x h0⟩
  have he : (Int.tmod x t + t) % (t : Int) = x % (t : Int) := by
    rw [Int.add_emod_right]
    have := Int.mul_tdiv_add_tmod x t
    conv => rhs; rw [← this]
    rw [Int.add_comm, Int.add_mul_emod_self_left]
  refine ⟨by omega, hb, by rw [he, hp], ?_⟩
  rw [Int.tmod_eq_emod_of_nonneg (by omega), he, hp]
theorem recon_calls_n (k : Nat) (a0 a1 : Int) (A2 : Option Addr) (c2 n2 : Nat) (l2 : List Int) (A3 : Option Addr) (c3 : Nat) (l3 : List (List Int)) (r1 : List (List Int)) (r2 : Int) (w : World) (hn : l2.length = n2) (hr2 : Kd.C (Kd.int .i64) w A2 l2.length l2) (hc2 : l2.length ≤ c2) (hr3 : Kd.C (Kd.slice 5 (Kd.int .u8)) w A3 l3.length l3) (hc3 : l3.length ≤ c3) (h : reedsolomon_Reconstruct.f k a0 a1 l2 l3 = some (r1, r2)) :
    Calls Try.prog 41 #[.int .i64 a0, .int .i64 a1, .slice A2 n2 c2, .slice A3 l3.length c3] w fun e w' => ∃ v0_ : Value, e = .returned (.tuple #[v0_, .int .i64 r2]) ∧ Kd.S (Kd.slice 5 (Kd.int .u8)) 34 w' w.heap.size (fun _ => True) v0_ r1 ∧ Below w.heap.size w w' := by
  subst hn
  exact reedsolomon_Reconstruct.calls k a0 a1 A2 c2 l2 A3 c3 l3 r1 r2 w hr2 hc2 hr3 hc3 h
theorem check_calls_n (k : Nat) (a0 a1 : Int) (A2 : Option Addr) (c2 n2 : Nat) (l2 : List Int) (A3 : Option Addr) (c3 : Nat) (l3 : List (List Int)) (r1 : Bool) (r2 : Int) (w : World) (hn : l2.length = n2) (hr2 : Kd.C (Kd.int .i64) w A2 l2.length l2) (hc2 : l2.length ≤ c2) (hr3 : Kd.C (Kd.slice 5 (Kd.int .u8)) w A3 l3.length l3) (hc3 : l3.length ≤ c3) (h : reedsolomon_Check.f k a0 a1 l2 l3 = some (r1, r2)) :
    Calls Try.prog 43 #[.int .i64 a0, .int .i64 a1, .slice A2 n2 c2, .slice A3 l3.length c3] w fun e w' => e = .returned (.tuple #[.bool r1, .int .i64 r2]) ∧ Below w.heap.size w w' := by
  subst hn
  exact reedsolomon_Check.calls k a0 a1 A2 c2 l2 A3 c3 l3 r1 r2 w hr2 hc2 hr3 hc3 h
set_option maxRecDepth 100000 in
set_option maxHeartbeats 8000000 in
theorem anyPieces_good (d t : Nat) (Bs : List (List B)) (cho : List Int) (A2 A3 : Option Addr) (c2 c3 : Nat) (w : World) (hd1 : 1 ≤ d) (hd : d ≤ 8) (ht1 : d ≤ t) (ht : t ≤ 16) (hbk : blksOk Bs) (hbl : Bs.length = d) (hmost : blocksB (up2 Bs) (d : Int) 40 = true) (hch : cho.length ≤ 40) (hwf : ∀ x ∈ cho, (Lit.int .i64 x).wf = true)
    (hr2 : Kd.C (Kd.slice 5 (Kd.int .u8)) w A2 (up2 Bs).length (up2 Bs)) (hc2 : (up2 Bs).length ≤ c2) (hr3 : Kd.C (Kd.int .i64) w A3 cho.length cho) (hc3 : cho.length ≤ c3) :
    Calls Try.prog 9 #[.int .i64 (d : Int), .int .i64 (t : Int), .slice A2 (up2 Bs).length c2, .slice A3 cho.length c3] w fun e w' => e = .returned (.bool true) ∧ Below w.heap.size w w' := by
  have HR2 := Aside0.mk hr2
  have HC2 := Aside0.mk hc2
  have HR3 := Aside0.mk hr3
  have HC3 := Aside0.mk hc3
  have HAW := Aside0.mk (a04awake_true (k := 100) (by omega))
  have HVA := Aside0.mk (show reedsolomon_Valid.f (d : Int) (t : Int) = some true by rw [rsvalid_eq, decide_eq_true (by omega)])
  have HBK := Aside0.mk (show kinkeeptop_a04Blocks.f (d + 1) (d : Int) (up2 Bs) (40 : Int) = some true by
    have := a04blocks_b (up2 Bs) (d : Int) 40 (by rw [up2_length]; omega) (k := d + 1) (by rw [up2_length]; omega)
    rw [hmost] at this; exact this)
  have HEN := Aside0.mk (encode_f hd1 hd ht1 ht hbk hbl)
  have b1 : decide ((40 : Int) < (cho.length : Int)) = false := decide_eq_false (by omega)
  have b1' : decide (40 < cho.length) = false := decide_eq_false (by omega)
  have HEL := Aside0.mk (show (up2 (encM d Bs t)).length = t by rw [up2_length, encM_length])
  have HK := Aside0.mk (And.intro hbk hbl)
  have HCH := Aside0.mk hch
  have HWF := Aside0.mk hwf
  have HBl := Aside0.mk hbl
  have hmm := @run_makeMap Try.prog
  clear hr2 hc2 hr3 hc3 hmost hch hwf hbk hbl
  have HB := Aside0.mk (Below.refl w.heap.size w)
  go_enter Try.func9, Try.ntmps9
  go_wp2_with (first | (go_at_call 36; (with_reducible refine (kinkeeptop_a04Awake.calls 100 true _ HAW.out).mono ?_); rintro e w1 ⟨rfl, hb⟩; have HB1 := Aside0.mk hb; clear hb) | (go_at_call 37; (with_reducible refine (reedsolomon_Valid.calls _ _ true _ HVA.out).mono ?_); rintro e w1b ⟨rfl, ⟨n1, rfl⟩⟩; have HB2 := Aside0.mk (pw_below_drewN HB1.out n1)) | (go_at_call 38; (with_reducible refine (kinkeeptop_a04Blocks.calls (d + 1) _ _ _ _ _ true _ (Kd.C_below HR2.out HB2.out) HC2.out HBK.out).mono ?_); rintro e w1c ⟨rfl, ⟨n2, rfl⟩⟩; have HB3 := Aside0.mk (pw_below_drewN HB1.out (n1 + n2))) | (go_at_call 39; (with_reducible refine (reedsolomon_Encode.calls _ _ _ _ _ _ _ _ (Kd.C_below HR2.out HB3.out) HC2.out HEN.out).mono ?_); rintro e w2 ⟨v2, rfl, hv2, hb2⟩; obtain ⟨A9, c9, ev2⟩ := Kd.S_slice hv2; rw [HEL.out] at ev2; subst ev2; have HV2 := Aside0.mk hv2; have HB4 := Aside0.mk (HB3.out.trans (hb2.mono HB3.out.size)); clear hv2 hb2))
  have HST := Aside0.mk (any_start w2)
  generalize (((w2.alloc (.map #[] 0)).alloc (.cells #[] 3 (0, 0))).alloc (.cells #[] 34 (0, 0))).alloc (.cells #[] 34 (0, 0)) = w3 at HST ⊢
  obtain ⟨gm, hgm⟩ : ∃ gm, gm = w2.heap.size := ⟨_, rfl⟩
  rw [← hgm] at HST ⊢
  go_loopw [12, 13, 14, 15] (fun v12 v13 v14 v15 wr => ∃ (i nm : Nat) (J : List Int) (I : List Nat) (H13 H14 : List Value), i ≤ cho.length ∧ v15 = .int .i64 (i : Int) ∧ nm ≤ i ∧ Aside0 ((I.Nodup ∧ (∀ p ∈ I, p < t) ∧ I.length ≤ d) ∧ (∀ n : Nat, (n : Int) ∈ J ↔ n ∈ I) ∧ AnySt w2 wr gm nm J v12 (natInts I) v13 H13 (up2 (pickE d Bs I)) v14 H14 (up2 (I.map (coefRow d d))))) (fun _ _ _ v15 _ => cho.length - (intOf v15).toNat)
  case atStart => exact ⟨0, 0, [], [], [], [], by omega, rfl, by omega, ⟨⟨List.nodup_nil, by simp, by simp⟩, by simp, HST.out⟩⟩
  case round =>
    obtain ⟨i, nm, J, I, H13, H14, hi, rfl, hnm, HA⟩ := hrel
    have HI := Aside0.mk HA.out.1
    have HJ := Aside0.mk HA.out.2.1
    have HS := Aside0.mk HA.out.2.2
    clear HA HST hgm
    obtain ⟨A12, c12, e12⟩ := Kd.R_slice HS.out.r12
    rw [natInts_len] at e12
    subst e12
    by_cases hlt : i < cho.length ∧ I.length < d
    · obtain ⟨h1, h2⟩ := hlt
      obtain ⟨ad, e, hx⟩ := Kd.at_int HR3.out (i : Int) (by omega) (by omega)
      subst e
      have hrd : rd cho (i : Int) = cho[i] := by unfold rd; rw [Int.toNat_natCast, List.getD_eq_getElem?_getD, List.getElem?_eq_getElem h1]; rfl
      rw [Int.toNat_natCast, hrd] at hx
      have hb2 : Below w.heap.size w wr := HB4.out.trans (HS.out.below.mono HB4.out.size)
      replace hx := (hb2.cell (World.block_lt_of_cell? w _ hx)).trans hx
      obtain ⟨hp, ⟨hm1, hm2⟩, hm3, hm4⟩ := pickAt_facts (t := t) (by omega) cho[i]
      generalize pickAt t cho[i] = n at hp hm3 hm4
      generalize cho[i] = x at hx hm1 hm2 hm3 hm4
      obtain ⟨y, hy⟩ : ∃ y, Int.tmod x (t : Int) = y := ⟨_, rfl⟩
      rw [hy] at hm1 hm2 hm3 hm4
      have hwn : (Lit.int .i64 (n : Int)).wf = true := Go.WalkArith.wf_i64 ⟨by omega, by omega⟩
      have hlk := set_look HS.out.set hwn
      have t0 : ((t : Int) == 0) = false := by rw [beq_eq_false_iff_ne]; omega
      have t1 : (1 : Int) ≤ (t : Int) := by omega
      have t2 : (t : Int) ≤ 16 := by omega
      have i0 : (0 : Int) ≤ (i : Int) := by omega
      have i3 : (i : Int) ≤ 40 := by have := HCH.out; omega
      have i1 : (i : Int) < (cho.length : Int) := by omega
      have d1 : decide ((I.length : Int) < (d : Int)) = true := decide_eq_true (by omega)
      have d2 : decide (I.length < d) = true := decide_eq_true h2
      clear hrd hb2
      by_cases hu : n ∈ I
      · rw [decide_eq_true ((HJ.out n).2 hu)] at hlk
        clear hu
        go_wp2
        go_roundw
        case rel => exact ⟨i + 1, nm, J, I, H13, H14, by omega, by go_num, by omega, ⟨HI.out, HJ.out, HS.out⟩⟩
        case measure => simp [intOf]; omega
      · rw [decide_eq_false (fun h => hu ((HJ.out n).1 h))] at hlk
        have HU := Aside0.mk hu
        have HROW := Aside0.mk (row_f hd1 hd ht1 ht hp)
        have HNM := Aside0.mk (show nm < 1000000 by have := HCH.out; omega)
        have HWN := Aside0.mk hwn
        have HIN : Aside0 ((I ++ [n]).Nodup ∧ (∀ p ∈ I ++ [n], p < t) ∧ (I ++ [n]).length ≤ d) := ⟨by
          refine ⟨?_, fun p hp' => ?_, by rw [List.length_append]; simp; omega⟩
          · rw [List.nodup_append]
            exact ⟨HI.out.1, by simp, fun a ha b hb => by rw [List.mem_singleton] at hb; subst hb; rintro rfl; exact hu ha⟩
          · rcases List.mem_append.1 hp' with h | h
            · exact HI.out.2.1 p h
            · rw [List.mem_singleton] at h; subst h; exact hp⟩
        have HJN : Aside0 (∀ m : Nat, (m : Int) ∈ (n : Int) :: J ↔ m ∈ I ++ [n]) := ⟨fun m => by
          rw [List.mem_cons, HJ.out m, List.mem_append, List.mem_singleton]
          constructor
          · rintro (h | h)
            · exact .inr (by omega)
            · exact .inl h
          · rintro (h | h)
            · exact .inr h
            · exact .inl (by omega)⟩
        have HX12 : Aside0 (natInts (I ++ [n]) = natInts I ++ [(n : Int)] ∧ up2 (pickE d Bs (I ++ [n])) = up2 (pickE d Bs I) ++ [up (encRow d Bs n)] ∧ up2 ((I ++ [n]).map (coefRow d d)) = up2 (I.map (coefRow d d)) ++ [up (coefRow d d n)]) := ⟨by simp [natInts], by unfold pickE; rw [List.map_append, up2_append]; rfl, by rw [List.map_append, up2_append]; rfl⟩
        have HP := Aside0.mk hp
        have n0 : (0 : Int) ≤ (n : Int) := by omega
        have n1 : (n : Int) < (t : Int) := by omega
        clear hu hwn
        go_wp2_with (first | (at_mapUpdate; refine set_put _ rfl (.tmp 93) (.tmp 94) rfl rfl rfl HS.out.set HNM.out HWN.out ?_; intro w5 hs5 hg5; have HS5 := Aside0.mk (HS.out.put hs5 hg5); clear hs5 hg5) | (go_at_call 40; (with_reducible refine (reedsolomon_Row.calls _ _ _ _ _ _ HROW.out).mono ?_); rintro e w6 ⟨v6, rfl, hv6, hb6⟩; obtain ⟨A6, c6, ev6⟩ := Kd.R_slice hv6; subst ev6; have HV6 := Aside0.mk hv6; have HS6 := Aside0.mk (HS5.out.later hb6); have HSZ := Aside0.mk HS5.out.below.size; clear hv6 hb6 hlk))
        obtain ⟨ad9, A7, c7, e7, hx7, hl7, hi7⟩ := at_L1 (Kd.S_reads' HV2.out).2.2 (n : Int) (by omega) (by rw [HEL.out]; exact n1)
        subst e7
        rw [Int.toNat_natCast] at hx7
        rw [rd_L1_up2, encM_getD HP.out] at hx7 hl7 hi7
        have hxr := (HS6.out.below.cell (World.block_lt_of_cell? w2 _ hx7)).trans hx7
        have HRC : Aside0 (RowC w2 (.slice A7 (up (encRow d Bs n)).length c7) (up (encRow d Bs n))) := ⟨A7, c7, rfl, hl7, hi7⟩
        have HLB7 := Aside0.mk (World.block_lt_of_cell? w2 _ hx7)
        have HX7 := Aside0.mk hx7
        have HLE := Aside0.mk (show ((natInts I).length + 1) * 8 ≤ 140737488355328 by have := HI.out.2.2; rw [natInts_len]; omega)
        have HLF : Aside0 (∀ (H : List Value) (P : List (List Int)), H.length = (up2 (pickE d Bs I)).length → ((H.map fun x => [x]).length + 1) * 24 ≤ 140737488355328) := ⟨fun H P e => by have := HI.out.2.2; rw [up2_length, pickE_length] at e; rw [List.length_map]; omega⟩
        have HLG : Aside0 (∀ (H : List Value) (P : List (List Int)), H.length = (up2 (I.map (coefRow d d))).length → ((H.map fun x => [x]).length + 1) * 24 ≤ 140737488355328) := ⟨fun H P e => by have := HI.out.2.2; rw [up2_length, List.length_map] at e; rw [List.length_map]; omega⟩
        clear hx7 hl7 hi7
        refine start_ (n := 18) (S := fun w' => w'.cell? (ad9.add n) = some (.slice A7 (up (encRow d Bs n)).length c7)) (ds := []) #[false, false, false, false, false, false, false, false, false, false, false, false, false, false, false, false, false, false] (by kernel_rfl) rfl rfl hxr (fun hHeld => ?_)
        refine with_tabW f9.tab17 f9.bits17 (fun HT_ HW_ => ?_)
        have HS7 := Aside0.mk (HS6.out.later (below_drew (Below.refl w6.heap.size w6)))
        have HV7 := Aside0.mk (show Kd.R (Kd.int .u8) 5 w6.drew w2.heap.size (fun _ => True) (.slice A6 (up (coefRow d d n)).length c6) (up (coefRow d d n)) from Kd.R_drew (Kd.R_lower HV6.out HSZ.out))
        clear hxr HS6 HV6 HSZ
        generalize w6.drew = W1 at HS7 HV7 hHeld ⊢
        refine pure_ (i := 0) (N := some 104) (v := ?_) (a' := ?_) #[true, false, false, false, false, false, false, false, false, false, false, false, false, false, false, false, false, false] rfl rfl (any_of HT_.out (by kernel_rfl)) (fun _ _ _ h => h) (Or.inl ⟨by rfl, ?_⟩) ?_ ?_
        rotate_left
        · intro w'
          go_simp
          with_reducible rfl
        rotate_left
        · simp only [Act.put, List.setIfInBounds_toArray, List.set_cons_zero, List.set_cons_succ, i64_w, i32_w]
          rfl
        refine pure_ (i := 1) (N := some 105) (v := ?_) (a' := ?_) #[true, true, false, false, false, false, false, false, false, false, false, false, false, false, false, false, false, false] rfl rfl (any_of HT_.out (by kernel_rfl)) (fun _ _ _ h => h) (Or.inl ⟨by rfl, ?_⟩) ?_ ?_
        rotate_left
        · intro w'
          go_simp
          with_reducible rfl
        rotate_left
        · simp only [Act.put, List.setIfInBounds_toArray, List.set_cons_zero, List.set_cons_succ, i64_w, i32_w]
          rfl
        refine pure_ (i := 4) (N := some 108) (v := ?_) (a' := ?_) #[true, true, false, false, true, false, false, false, false, false, false, false, false, false, false, false, false, false] rfl rfl (any_of HT_.out (by kernel_rfl)) (fun _ _ _ h => h) (Or.inl ⟨by rfl, ?_⟩) ?_ ?_
        rotate_left
        · intro w'
          go_simp
          with_reducible rfl
        rotate_left
        · simp only [Act.put, List.setIfInBounds_toArray, List.set_cons_zero, List.set_cons_succ, i64_w, i32_w]
          rfl
        refine pure_ (i := 5) (N := some 109) (v := ?_) (a' := ?_) #[true, true, false, false, true, true, false, false, false, false, false, false, false, false, false, false, false, false] rfl rfl (any_of HT_.out (by kernel_rfl)) (fun _ _ _ h => h) (Or.inl ⟨by rfl, ?_⟩) ?_ ?_
        rotate_left
        · intro w'
          go_simp
          with_reducible rfl
        rotate_left
        · simp only [Act.put, List.setIfInBounds_toArray, List.set_cons_zero, List.set_cons_succ, i64_w, i32_w]
          rfl
        refine pure_ (i := 6) (N := some 110) (v := ?_) (a' := ?_) #[true, true, false, false, true, true, true, false, false, false, false, false, false, false, false, false, false, false] rfl rfl (any_of HT_.out (by kernel_rfl)) (fun _ _ _ h => h) (Or.inl ⟨by rfl, ?_⟩) ?_ ?_
        rotate_left
        · intro w'
          go_simp
          with_reducible rfl
        rotate_left
        · simp only [Act.put, List.setIfInBounds_toArray, List.set_cons_zero, List.set_cons_succ, i64_w, i32_w]
          rfl
        refine pure_ (i := 7) (N := some 111) (v := ?_) (a' := ?_) #[true, true, false, false, true, true, true, true, false, false, false, false, false, false, false, false, false, false] rfl rfl (any_of HT_.out (by kernel_rfl)) (fun _ _ _ h => h) (Or.inl ⟨by rfl, ?_⟩) ?_ ?_
        rotate_left
        · intro w'
          go_simp
          with_reducible rfl
        rotate_left
        · simp only [Act.put, List.setIfInBounds_toArray, List.set_cons_zero, List.set_cons_succ, i64_w, i32_w]
          rfl
        refine pure_ (i := 11) (N := some 115) (v := ?_) (a' := ?_) #[true, true, false, false, true, true, true, true, false, false, false, true, false, false, false, false, false, false] rfl rfl (any_of HT_.out (by kernel_rfl)) (fun _ _ _ h => h) (Or.inl ⟨by rfl, ?_⟩) ?_ ?_
        rotate_left
        · intro w'
          go_simp
          with_reducible rfl
        rotate_left
        · simp only [Act.put, List.setIfInBounds_toArray, List.set_cons_zero, List.set_cons_succ, i64_w, i32_w]
          rfl
        refine pure_ (i := 12) (N := some 116) (v := ?_) (a' := ?_) #[true, true, false, false, true, true, true, true, false, false, false, true, true, false, false, false, false, false] rfl rfl (any_of HT_.out (by kernel_rfl)) (fun _ _ _ h => h) (Or.inl ⟨by rfl, ?_⟩) ?_ ?_
        rotate_left
        · intro w'
          go_simp
          with_reducible rfl
        rotate_left
        · simp only [Act.put, List.setIfInBounds_toArray, List.set_cons_zero, List.set_cons_succ, i64_w, i32_w]
          rfl
        refine take_ (i := 8) (N := some 112) (v := ?_) (a' := ?_) #[true, true, false, false, true, true, true, true, true, false, false, true, true, false, false, false, false, false] rfl rfl (take_ofW HT_.out HW_.out (by kernel_rfl)) (fun _ _ _ h => h) (Or.inl ⟨by rfl, ?_⟩) hHeld ?_ ?_
        rotate_left
        · intro w' s0
          go_simp
          with_reducible rfl
        rotate_left
        · simp only [Act.put, List.setIfInBounds_toArray, List.set_cons_zero, List.set_cons_succ, i64_w, i32_w]
          rfl
        refine join_ (σ := Nat × Nat × Nat × Value × Value × Value) 3 #[true, true, true, true, true, true, true, true, true, true, true, true, true, true, true, false, false, false] (fun s_ => [(106, .slice (some ⟨s_.1, 0, none⟩) 1 1), (113, .slice (some ⟨s_.2.1, 0, none⟩) 1 1), (117, .slice (some ⟨s_.2.2.1, 0, none⟩) 1 1), (107, s_.2.2.2.1), (114, s_.2.2.2.2.1), (118, s_.2.2.2.2.2)]) (fun s_ w' => AnySt w2 w' gm (nm + 1) ((n : Int) :: J) s_.2.2.2.1 (natInts I ++ [(n : Int)]) s_.2.2.2.2.1 (H13 ++ [.slice A7 (up (encRow d Bs n)).length c7]) (up2 (pickE d Bs I) ++ [up (encRow d Bs n)]) s_.2.2.2.2.2 (H14 ++ [.slice A6 (up (coefRow d d n)).length c6]) (up2 (I.map (coefRow d d)) ++ [up (coefRow d d n)])) ?_ ?_
        · rintro ⟨b1, b2, b3, v12, v13, v14⟩ wS hS
          have HS := Aside0.mk hS
          clear hS
          refine norm_ (a' := ?_) ?_ ?_
          rotate_left
          · simp only [putAll, Act.put, List.setIfInBounds_toArray, List.set_cons_zero, List.set_cons_succ]
            rfl
          refine pure_ (i := 15) (N := some 12) (v := ?_) (a' := ?_) #[true, true, true, true, true, true, true, true, true, true, true, true, true, true, true, true, false, false] rfl rfl (any_of HT_.out (by kernel_rfl)) (fun _ _ _ h => h) (Or.inl ⟨by rfl, ?_⟩) ?_ ?_
          rotate_left
          · intro w'
            go_simp
            with_reducible rfl
          rotate_left
          · simp only [Act.put, List.setIfInBounds_toArray, List.set_cons_zero, List.set_cons_succ, i64_w, i32_w]
            rfl
          refine pure_ (i := 16) (N := some 13) (v := ?_) (a' := ?_) #[true, true, true, true, true, true, true, true, true, true, true, true, true, true, true, true, true, false] rfl rfl (any_of HT_.out (by kernel_rfl)) (fun _ _ _ h => h) (Or.inl ⟨by rfl, ?_⟩) ?_ ?_
          rotate_left
          · intro w'
            go_simp
            with_reducible rfl
          rotate_left
          · simp only [Act.put, List.setIfInBounds_toArray, List.set_cons_zero, List.set_cons_succ, i64_w, i32_w]
            rfl
          refine pure_ (i := 17) (N := some 14) (v := ?_) (a' := ?_) #[true, true, true, true, true, true, true, true, true, true, true, true, true, true, true, true, true, true] rfl rfl (any_of HT_.out (by kernel_rfl)) (fun _ _ _ h => h) (Or.inl ⟨by rfl, ?_⟩) ?_ ?_
          rotate_left
          · intro w'
            go_simp
            with_reducible rfl
          rotate_left
          · simp only [Act.put, List.setIfInBounds_toArray, List.set_cons_zero, List.set_cons_succ, i64_w, i32_w]
            rfl
          refine done_ (done_of HT_.out (by kernel_rfl)) ?_
          go_wp2
          go_roundw
          case rel =>
            have hs := HS.out
            rw [← HX12.out.1, ← HX12.out.2.1, ← HX12.out.2.2] at hs
            exact ⟨i + 1, nm + 1, (n : Int) :: J, I ++ [n], H13 ++ [_], H14 ++ [_], by omega, by go_num, by omega, ⟨HIN.out, HJN.out, hs⟩⟩
          case measure => simp [intOf]; omega
        intro hC_2_9_13_a3
        refine join_ (σ := Nat × Nat × Nat × Value × Value × Value) 4 #[true, true, true, true, true, true, true, true, true, true, true, true, true, true, false, false, false, false] (fun s_ => [(106, .slice (some ⟨s_.1, 0, none⟩) 1 1), (113, .slice (some ⟨s_.2.1, 0, none⟩) 1 1), (117, .slice (some ⟨s_.2.2.1, 0, none⟩) 1 1), (107, s_.2.2.2.1), (114, s_.2.2.2.2.1)]) (fun s_ w' => S17 w2 w' gm (nm + 1) ((n : Int) :: J) s_.2.2.2.1 (natInts I ++ [(n : Int)]) s_.2.2.2.2.1 (H13 ++ [.slice A7 (up (encRow d Bs n)).length c7]) (up2 (pickE d Bs I) ++ [up (encRow d Bs n)]) u14 H14 (up2 (I.map (coefRow d d))) (.slice A6 (up (coefRow d d n)).length c6) (up (coefRow d d n)) none none (some s_.2.2.1) (.int .i64 (n : Int)) (.slice A7 (up (encRow d Bs n)).length c7) (.slice A6 (up (coefRow d d n)).length c6)) ?_ ?_
        · rintro ⟨b1, b2, b3, v12, v13, v14⟩ wS hS
          have HS := Aside0.mk hS
          clear hS
          refine norm_ (a' := ?_) ?_ ?_
          rotate_left
          · simp only [putAll, Act.put, List.setIfInBounds_toArray, List.set_cons_zero, List.set_cons_succ]
            rfl
          refine one_ (i := 14) (N := some 118) #[true, true, true, true, true, true, true, true, true, true, true, true, true, true, true, false, false, false] rfl rfl (one_of HT_.out (by kernel_rfl)) (by decide) (fun K hK => ?_)
          obtain ⟨hl1, hl2⟩ := HS.out.l3 _ rfl
          have HL1 := Aside0.mk hl1
          clear hl1 hl2
          refine Kd.R_append_rows_step (Kd.raw 1) (Rr := (Kd.raw 1).K wS) (w0 := w2) w2.heap.size (by rfl) (.tmp 115) (.tmp 117) 22 34 (.slice none 0 0) 24 rfl Try.underlying22 info34 rfl (by decide) (by decide) u14 (H14.map fun x => [x]) [[(.slice A6 (up (coefRow d d n)).length c6)]] (some ⟨b3, 0, none⟩) 1 1 (fun k => some k ≠ (v13 : Value).ownBlock) (fun _ => False) rfl rfl HS.out.st.r14 (C_raw1 HL1.out rfl) (fun _ _ h => h) (fun _ hk => hk.elim) (fun k hk e => Nat.lt_irrefl _ (Nat.lt_of_lt_of_le (Kd.R_lt HS.out.st.r13 k e.symm) hk)) HS.out.st.below HS.out.st.below.size (HLG.out H14 [] HS.out.st.l14) ?_
          intro v14' wN ho hb hg hat
          have HSn := Aside0.mk (HS.out.app14 ho hb hg hat)
          clear ho hb hg hat
          refine hK.out _ _ ((HSn.out.below.cell HLB7.out).trans HX7.out) (fun hHeld => ?_)
          clear hK K
          refine norm_ (a' := ?_) ?_ ?_
          rotate_left
          · show Act.put _ (some 118) _ = _
            simp only [Act.put, List.setIfInBounds_toArray, List.set_cons_zero, List.set_cons_succ, i64_w, i32_w]
            rfl
          exact norm_ (by simp only [putAll, Act.put, List.setIfInBounds_toArray, List.set_cons_zero, List.set_cons_succ]) (hC_2_9_13_a3 (b1, b2, b3, v12, v13, v14') _ HSn.out)
        intro hC_2_9_13_a2
        refine join_ (σ := Nat × Nat × Nat × Value × Value × Value) 5 #[true, true, true, true, true, true, true, true, true, true, true, true, true, false, false, false, false, false] (fun s_ => [(106, .slice (some ⟨s_.1, 0, none⟩) 1 1), (113, .slice (some ⟨s_.2.1, 0, none⟩) 1 1), (107, s_.2.2.2.1), (114, s_.2.2.2.2.1)]) (fun s_ w' => S17 w2 w' gm (nm + 1) ((n : Int) :: J) s_.2.2.2.1 (natInts I ++ [(n : Int)]) s_.2.2.2.2.1 (H13 ++ [.slice A7 (up (encRow d Bs n)).length c7]) (up2 (pickE d Bs I) ++ [up (encRow d Bs n)]) u14 H14 (up2 (I.map (coefRow d d))) (.slice A6 (up (coefRow d d n)).length c6) (up (coefRow d d n)) none none none (.int .i64 (n : Int)) (.slice A7 (up (encRow d Bs n)).length c7) (.slice A6 (up (coefRow d d n)).length c6)) ?_ ?_
        · rintro ⟨b1, b2, b3, v12, v13, v14⟩ wS hS
          have HS := Aside0.mk hS
          clear hS
          refine norm_ (a' := ?_) ?_ ?_
          rotate_left
          · simp only [putAll, Act.put, List.setIfInBounds_toArray, List.set_cons_zero, List.set_cons_succ]
            rfl
          refine one_ (i := 13) (N := some 117) #[true, true, true, true, true, true, true, true, true, true, true, true, true, true, false, false, false, false] rfl rfl (one_of HT_.out (by kernel_rfl)) (by decide) (fun K hK => ?_)
          refine event_step (v := .slice (some ⟨wS.heap.size, 0, none⟩) 1 1) (w1 := wS.alloc (.cells #[(.slice A6 (up (coefRow d d n)).length c6)] 34 (0, 0))) (by rfl) (by first | (go_simp; done) | (go_simp; rfl)) ?_
          have HSn := Aside0.mk (HS.out.new3)
          refine hK.out _ _ ((HSn.out.st.below.cell HLB7.out).trans HX7.out) (fun hHeld => ?_)
          clear hK K
          refine norm_ (a' := ?_) ?_ ?_
          rotate_left
          · show Act.put _ (some 117) _ = _
            simp only [Act.put, List.setIfInBounds_toArray, List.set_cons_zero, List.set_cons_succ, i64_w, i32_w]
            rfl
          exact norm_ (by simp only [putAll, Act.put, List.setIfInBounds_toArray, List.set_cons_zero, List.set_cons_succ]) (hC_2_9_13_a2 (b1, b2, wS.heap.size, v12, v13, v14) _ HSn.out)
        intro hC_2_9_a2
        refine join_ (σ := Nat × Nat × Nat × Value × Value × Value) 5 #[true, true, true, true, true, true, true, true, true, true, false, true, true, true, false, false, false, false] (fun s_ => [(106, .slice (some ⟨s_.1, 0, none⟩) 1 1), (113, .slice (some ⟨s_.2.1, 0, none⟩) 1 1), (117, .slice (some ⟨s_.2.2.1, 0, none⟩) 1 1), (107, s_.2.2.2.1)]) (fun s_ w' => S17 w2 w' gm (nm + 1) ((n : Int) :: J) s_.2.2.2.1 (natInts I ++ [(n : Int)]) u13 H13 (up2 (pickE d Bs I)) u14 H14 (up2 (I.map (coefRow d d))) (.slice A6 (up (coefRow d d n)).length c6) (up (coefRow d d n)) none (some s_.2.1) (some s_.2.2.1) (.int .i64 (n : Int)) (.slice A7 (up (encRow d Bs n)).length c7) (.slice A6 (up (coefRow d d n)).length c6)) ?_ ?_
        · rintro ⟨b1, b2, b3, v12, v13, v14⟩ wS hS
          have HS := Aside0.mk hS
          clear hS
          refine norm_ (a' := ?_) ?_ ?_
          rotate_left
          · simp only [putAll, Act.put, List.setIfInBounds_toArray, List.set_cons_zero, List.set_cons_succ]
            rfl
          refine one_ (i := 10) (N := some 114) #[true, true, true, true, true, true, true, true, true, true, true, true, true, true, false, false, false, false] rfl rfl (one_of HT_.out (by kernel_rfl)) (by decide) (fun K hK => ?_)
          obtain ⟨hl1, hl2⟩ := HS.out.l2 _ rfl
          have HL1 := Aside0.mk hl1
          clear hl1 hl2
          refine Kd.R_append_rows_step (Kd.raw 1) (Rr := (Kd.raw 1).K wS) (w0 := w2) w2.heap.size (by rfl) (.tmp 108) (.tmp 113) 22 34 (.slice none 0 0) 24 rfl Try.underlying22 info34 rfl (by decide) (by decide) u13 (H13.map fun x => [x]) [[(.slice A7 (up (encRow d Bs n)).length c7)]] (some ⟨b2, 0, none⟩) 1 1 (fun k => some k ≠ (u14 : Value).ownBlock) (fun _ => False) rfl rfl HS.out.st.r13 (C_raw1 HL1.out rfl) (fun _ _ h => h) (fun _ hk => hk.elim) (fun k hk e => Nat.lt_irrefl _ (Nat.lt_of_lt_of_le (Kd.R_lt HS.out.st.r14 k e.symm) hk)) HS.out.st.below HS.out.st.below.size (HLF.out H13 [] HS.out.st.l13) ?_
          intro v13' wN ho hb hg hat
          have HSn := Aside0.mk (HS.out.app13 ho HRC.out hb hg hat)
          clear ho hb hg hat
          refine hK.out _ _ ((HSn.out.st.below.cell HLB7.out).trans HX7.out) (fun hHeld => ?_)
          clear hK K
          refine norm_ (a' := ?_) ?_ ?_
          rotate_left
          · show Act.put _ (some 114) _ = _
            simp only [Act.put, List.setIfInBounds_toArray, List.set_cons_zero, List.set_cons_succ, i64_w, i32_w]
            rfl
          exact norm_ (by simp only [putAll, Act.put, List.setIfInBounds_toArray, List.set_cons_zero, List.set_cons_succ]) (hC_2_9_13_a2 (b1, b2, b3, v12, v13', v14) _ HSn.out)
        intro hC_2_9_13_a1
        refine join_ (σ := Nat × Nat × Nat × Value × Value × Value) 6 #[true, true, true, true, true, true, true, true, true, false, false, true, true, true, false, false, false, false] (fun s_ => [(106, .slice (some ⟨s_.1, 0, none⟩) 1 1), (117, .slice (some ⟨s_.2.2.1, 0, none⟩) 1 1), (107, s_.2.2.2.1)]) (fun s_ w' => S17 w2 w' gm (nm + 1) ((n : Int) :: J) s_.2.2.2.1 (natInts I ++ [(n : Int)]) u13 H13 (up2 (pickE d Bs I)) u14 H14 (up2 (I.map (coefRow d d))) (.slice A6 (up (coefRow d d n)).length c6) (up (coefRow d d n)) none none (some s_.2.2.1) (.int .i64 (n : Int)) (.slice A7 (up (encRow d Bs n)).length c7) (.slice A6 (up (coefRow d d n)).length c6)) ?_ ?_
        · rintro ⟨b1, b2, b3, v12, v13, v14⟩ wS hS
          have HS := Aside0.mk hS
          clear hS
          refine norm_ (a' := ?_) ?_ ?_
          rotate_left
          · simp only [putAll, Act.put, List.setIfInBounds_toArray, List.set_cons_zero, List.set_cons_succ]
            rfl
          refine one_ (i := 9) (N := some 113) #[true, true, true, true, true, true, true, true, true, true, false, true, true, true, false, false, false, false] rfl rfl (one_of HT_.out (by kernel_rfl)) (by decide) (fun K hK => ?_)
          refine event_step (v := .slice (some ⟨wS.heap.size, 0, none⟩) 1 1) (w1 := wS.alloc (.cells #[(.slice A7 (up (encRow d Bs n)).length c7)] 34 (0, 0))) (by rfl) (by first | (go_simp; done) | (go_simp; rfl)) ?_
          have HSn := Aside0.mk (HS.out.new2)
          refine hK.out _ _ ((HSn.out.st.below.cell HLB7.out).trans HX7.out) (fun hHeld => ?_)
          clear hK K
          refine norm_ (a' := ?_) ?_ ?_
          rotate_left
          · show Act.put _ (some 113) _ = _
            simp only [Act.put, List.setIfInBounds_toArray, List.set_cons_zero, List.set_cons_succ, i64_w, i32_w]
            rfl
          exact norm_ (by simp only [putAll, Act.put, List.setIfInBounds_toArray, List.set_cons_zero, List.set_cons_succ]) (hC_2_9_13_a1 (b1, wS.heap.size, b3, v12, v13, v14) _ HSn.out)
        intro hC_2_13_a1
        refine join_ (σ := Nat × Nat × Nat × Value × Value × Value) 6 #[true, true, true, true, true, true, true, true, true, true, false, true, true, false, false, false, false, false] (fun s_ => [(106, .slice (some ⟨s_.1, 0, none⟩) 1 1), (113, .slice (some ⟨s_.2.1, 0, none⟩) 1 1), (107, s_.2.2.2.1)]) (fun s_ w' => S17 w2 w' gm (nm + 1) ((n : Int) :: J) s_.2.2.2.1 (natInts I ++ [(n : Int)]) u13 H13 (up2 (pickE d Bs I)) u14 H14 (up2 (I.map (coefRow d d))) (.slice A6 (up (coefRow d d n)).length c6) (up (coefRow d d n)) none (some s_.2.1) none (.int .i64 (n : Int)) (.slice A7 (up (encRow d Bs n)).length c7) (.slice A6 (up (coefRow d d n)).length c6)) ?_ ?_
        · rintro ⟨b1, b2, b3, v12, v13, v14⟩ wS hS
          have HS := Aside0.mk hS
          clear hS
          refine norm_ (a' := ?_) ?_ ?_
          rotate_left
          · simp only [putAll, Act.put, List.setIfInBounds_toArray, List.set_cons_zero, List.set_cons_succ]
            rfl
          refine two_ (i := 10) (j := 13) (Ni := some 114) (Nj := some 117) #[true, true, true, true, true, true, true, true, true, true, true, true, true, false, false, false, false, false] #[true, true, true, true, true, true, true, true, true, true, false, true, true, true, false, false, false, false] rfl rfl rfl rfl (two_of HT_.out (by kernel_rfl)) (by decide) (by decide) (fun K hK => ?_) (fun K hK => ?_)
          · skip
            obtain ⟨hl1, hl2⟩ := HS.out.l2 _ rfl
            have HL1 := Aside0.mk hl1
            clear hl1 hl2
            refine Kd.R_append_rows_step (Kd.raw 1) (Rr := (Kd.raw 1).K wS) (w0 := w2) w2.heap.size (by rfl) (.tmp 108) (.tmp 113) 22 34 (.slice none 0 0) 24 rfl Try.underlying22 info34 rfl (by decide) (by decide) u13 (H13.map fun x => [x]) [[(.slice A7 (up (encRow d Bs n)).length c7)]] (some ⟨b2, 0, none⟩) 1 1 (fun k => some k ≠ (u14 : Value).ownBlock) (fun _ => False) rfl rfl HS.out.st.r13 (C_raw1 HL1.out rfl) (fun _ _ h => h) (fun _ hk => hk.elim) (fun k hk e => Nat.lt_irrefl _ (Nat.lt_of_lt_of_le (Kd.R_lt HS.out.st.r14 k e.symm) hk)) HS.out.st.below HS.out.st.below.size (HLF.out H13 [] HS.out.st.l13) ?_
            intro v13' wN ho hb hg hat
            have HSn := Aside0.mk (HS.out.app13 ho HRC.out hb hg hat)
            clear ho hb hg hat
            refine hK.out _ _ ((HSn.out.st.below.cell HLB7.out).trans HX7.out) (fun hHeld => ?_)
            clear hK K
            refine norm_ (a' := ?_) ?_ ?_
            rotate_left
            · show Act.put _ (some 114) _ = _
              simp only [Act.put, List.setIfInBounds_toArray, List.set_cons_zero, List.set_cons_succ, i64_w, i32_w]
              rfl
            exact norm_ (by simp only [putAll, Act.put, List.setIfInBounds_toArray, List.set_cons_zero, List.set_cons_succ]) (hC_2_9_a2 (b1, b2, b3, v12, v13', v14) _ HSn.out)
          · skip
            refine event_step (v := .slice (some ⟨wS.heap.size, 0, none⟩) 1 1) (w1 := wS.alloc (.cells #[(.slice A6 (up (coefRow d d n)).length c6)] 34 (0, 0))) (by rfl) (by first | (go_simp; done) | (go_simp; rfl)) ?_
            have HSn := Aside0.mk (HS.out.new3)
            refine hK.out _ _ ((HSn.out.st.below.cell HLB7.out).trans HX7.out) (fun hHeld => ?_)
            clear hK K
            refine norm_ (a' := ?_) ?_ ?_
            rotate_left
            · show Act.put _ (some 117) _ = _
              simp only [Act.put, List.setIfInBounds_toArray, List.set_cons_zero, List.set_cons_succ, i64_w, i32_w]
              rfl
            exact norm_ (by simp only [putAll, Act.put, List.setIfInBounds_toArray, List.set_cons_zero, List.set_cons_succ]) (hC_2_9_13_a1 (b1, b2, wS.heap.size, v12, v13, v14) _ HSn.out)
        intro hC_2_9_a1
        refine join_ (σ := Nat × Nat × Nat × Value × Value × Value) 6 #[true, true, true, false, true, true, true, true, true, true, false, true, true, true, false, false, false, false] (fun s_ => [(106, .slice (some ⟨s_.1, 0, none⟩) 1 1), (113, .slice (some ⟨s_.2.1, 0, none⟩) 1 1), (117, .slice (some ⟨s_.2.2.1, 0, none⟩) 1 1)]) (fun s_ w' => S17 w2 w' gm (nm + 1) ((n : Int) :: J) (.slice A12 I.length c12) (natInts I) u13 H13 (up2 (pickE d Bs I)) u14 H14 (up2 (I.map (coefRow d d))) (.slice A6 (up (coefRow d d n)).length c6) (up (coefRow d d n)) (some s_.1) (some s_.2.1) (some s_.2.2.1) (.int .i64 (n : Int)) (.slice A7 (up (encRow d Bs n)).length c7) (.slice A6 (up (coefRow d d n)).length c6)) ?_ ?_
        · rintro ⟨b1, b2, b3, v12, v13, v14⟩ wS hS
          have HS := Aside0.mk hS
          clear hS
          refine norm_ (a' := ?_) ?_ ?_
          rotate_left
          · simp only [putAll, Act.put, List.setIfInBounds_toArray, List.set_cons_zero, List.set_cons_succ]
            rfl
          refine one_ (i := 3) (N := some 107) #[true, true, true, true, true, true, true, true, true, true, false, true, true, true, false, false, false, false] rfl rfl (one_of HT_.out (by kernel_rfl)) (by decide) (fun K hK => ?_)
          obtain ⟨hl1, hl2⟩ := HS.out.l1 _ rfl
          have HL1 := Aside0.mk hl1
          clear hl1 hl2
          refine Kd.R_append_rows_step (Kd.int .i64) (Rr := (Kd.int .i64).K wS) (w0 := w2) w2.heap.size (by rfl) (.tmp 104) (.tmp 106) 29 3 (.int .i64 0) 8 rfl Try.underlying29 infoI2 rfl (by decide) (by decide) (.slice A12 I.length c12) (natInts I) [(n : Int)] (some ⟨b1, 0, none⟩) 1 1 (fun _ => True) (fun _ => False) rfl rfl HS.out.st.r12 (C_int1 HL1.out) (fun _ _ h => h) (fun _ hk => hk.elim) (fun _ _ => trivial) HS.out.st.below HS.out.st.below.size HLE.out ?_
          intro v12' wN ho hb hg hat
          have HSn := Aside0.mk (HS.out.app12 ho hb hg)
          clear ho hb hg hat
          refine hK.out _ _ ((HSn.out.st.below.cell HLB7.out).trans HX7.out) (fun hHeld => ?_)
          clear hK K
          refine norm_ (a' := ?_) ?_ ?_
          rotate_left
          · show Act.put _ (some 107) _ = _
            simp only [Act.put, List.setIfInBounds_toArray, List.set_cons_zero, List.set_cons_succ, i64_w, i32_w]
            rfl
          exact norm_ (by simp only [putAll, Act.put, List.setIfInBounds_toArray, List.set_cons_zero, List.set_cons_succ]) (hC_2_9_13_a1 (b1, b2, b3, v12', v13, v14) _ HSn.out)
        intro hC_2_9_13_a0
        refine join_ (σ := Nat × Nat × Nat × Value × Value × Value) 7 #[true, true, true, true, true, true, true, true, true, false, false, true, true, false, false, false, false, false] (fun s_ => [(106, .slice (some ⟨s_.1, 0, none⟩) 1 1), (107, s_.2.2.2.1)]) (fun s_ w' => S17 w2 w' gm (nm + 1) ((n : Int) :: J) s_.2.2.2.1 (natInts I ++ [(n : Int)]) u13 H13 (up2 (pickE d Bs I)) u14 H14 (up2 (I.map (coefRow d d))) (.slice A6 (up (coefRow d d n)).length c6) (up (coefRow d d n)) none none none (.int .i64 (n : Int)) (.slice A7 (up (encRow d Bs n)).length c7) (.slice A6 (up (coefRow d d n)).length c6)) ?_ ?_
        · rintro ⟨b1, b2, b3, v12, v13, v14⟩ wS hS
          have HS := Aside0.mk hS
          clear hS
          refine norm_ (a' := ?_) ?_ ?_
          rotate_left
          · simp only [putAll, Act.put, List.setIfInBounds_toArray, List.set_cons_zero, List.set_cons_succ]
            rfl
          refine two_ (i := 9) (j := 13) (Ni := some 113) (Nj := some 117) #[true, true, true, true, true, true, true, true, true, true, false, true, true, false, false, false, false, false] #[true, true, true, true, true, true, true, true, true, false, false, true, true, true, false, false, false, false] rfl rfl rfl rfl (two_of HT_.out (by kernel_rfl)) (by decide) (by decide) (fun K hK => ?_) (fun K hK => ?_)
          · skip
            refine event_step (v := .slice (some ⟨wS.heap.size, 0, none⟩) 1 1) (w1 := wS.alloc (.cells #[(.slice A7 (up (encRow d Bs n)).length c7)] 34 (0, 0))) (by rfl) (by first | (go_simp; done) | (go_simp; rfl)) ?_
            have HSn := Aside0.mk (HS.out.new2)
            refine hK.out _ _ ((HSn.out.st.below.cell HLB7.out).trans HX7.out) (fun hHeld => ?_)
            clear hK K
            refine norm_ (a' := ?_) ?_ ?_
            rotate_left
            · show Act.put _ (some 113) _ = _
              simp only [Act.put, List.setIfInBounds_toArray, List.set_cons_zero, List.set_cons_succ, i64_w, i32_w]
              rfl
            exact norm_ (by simp only [putAll, Act.put, List.setIfInBounds_toArray, List.set_cons_zero, List.set_cons_succ]) (hC_2_9_a1 (b1, wS.heap.size, b3, v12, v13, v14) _ HSn.out)
          · skip
            refine event_step (v := .slice (some ⟨wS.heap.size, 0, none⟩) 1 1) (w1 := wS.alloc (.cells #[(.slice A6 (up (coefRow d d n)).length c6)] 34 (0, 0))) (by rfl) (by first | (go_simp; done) | (go_simp; rfl)) ?_
            have HSn := Aside0.mk (HS.out.new3)
            refine hK.out _ _ ((HSn.out.st.below.cell HLB7.out).trans HX7.out) (fun hHeld => ?_)
            clear hK K
            refine norm_ (a' := ?_) ?_ ?_
            rotate_left
            · show Act.put _ (some 117) _ = _
              simp only [Act.put, List.setIfInBounds_toArray, List.set_cons_zero, List.set_cons_succ, i64_w, i32_w]
              rfl
            exact norm_ (by simp only [putAll, Act.put, List.setIfInBounds_toArray, List.set_cons_zero, List.set_cons_succ]) (hC_2_13_a1 (b1, b2, wS.heap.size, v12, v13, v14) _ HSn.out)
        intro hC_2_a1
        refine join_ (σ := Nat × Nat × Nat × Value × Value × Value) 7 #[true, true, false, false, true, true, true, true, true, true, false, true, true, true, false, false, false, false] (fun s_ => [(113, .slice (some ⟨s_.2.1, 0, none⟩) 1 1), (117, .slice (some ⟨s_.2.2.1, 0, none⟩) 1 1)]) (fun s_ w' => S17 w2 w' gm (nm + 1) ((n : Int) :: J) (.slice A12 I.length c12) (natInts I) u13 H13 (up2 (pickE d Bs I)) u14 H14 (up2 (I.map (coefRow d d))) (.slice A6 (up (coefRow d d n)).length c6) (up (coefRow d d n)) none (some s_.2.1) (some s_.2.2.1) (.int .i64 (n : Int)) (.slice A7 (up (encRow d Bs n)).length c7) (.slice A6 (up (coefRow d d n)).length c6)) ?_ ?_
        · rintro ⟨b1, b2, b3, v12, v13, v14⟩ wS hS
          have HS := Aside0.mk hS
          clear hS
          refine norm_ (a' := ?_) ?_ ?_
          rotate_left
          · simp only [putAll, Act.put, List.setIfInBounds_toArray, List.set_cons_zero, List.set_cons_succ]
            rfl
          refine one_ (i := 2) (N := some 106) #[true, true, true, false, true, true, true, true, true, true, false, true, true, true, false, false, false, false] rfl rfl (one_of HT_.out (by kernel_rfl)) (by decide) (fun K hK => ?_)
          refine event_step (v := .slice (some ⟨wS.heap.size, 0, none⟩) 1 1) (w1 := wS.alloc (.cells #[(.int .i64 (n : Int))] 3 (0, 0))) (by rfl) (by first | (go_simp; done) | (go_simp; rfl)) ?_
          have HSn := Aside0.mk (HS.out.new1)
          refine hK.out _ _ ((HSn.out.st.below.cell HLB7.out).trans HX7.out) (fun hHeld => ?_)
          clear hK K
          refine norm_ (a' := ?_) ?_ ?_
          rotate_left
          · show Act.put _ (some 106) _ = _
            simp only [Act.put, List.setIfInBounds_toArray, List.set_cons_zero, List.set_cons_succ, i64_w, i32_w]
            rfl
          exact norm_ (by simp only [putAll, Act.put, List.setIfInBounds_toArray, List.set_cons_zero, List.set_cons_succ]) (hC_2_9_13_a0 (wS.heap.size, b2, b3, v12, v13, v14) _ HSn.out)
        intro hC_9_13_a0
        refine join_ (σ := Nat × Nat × Nat × Value × Value × Value) 7 #[true, true, true, false, true, true, true, true, true, false, false, true, true, true, false, false, false, false] (fun s_ => [(106, .slice (some ⟨s_.1, 0, none⟩) 1 1), (117, .slice (some ⟨s_.2.2.1, 0, none⟩) 1 1)]) (fun s_ w' => S17 w2 w' gm (nm + 1) ((n : Int) :: J) (.slice A12 I.length c12) (natInts I) u13 H13 (up2 (pickE d Bs I)) u14 H14 (up2 (I.map (coefRow d d))) (.slice A6 (up (coefRow d d n)).length c6) (up (coefRow d d n)) (some s_.1) none (some s_.2.2.1) (.int .i64 (n : Int)) (.slice A7 (up (encRow d Bs n)).length c7) (.slice A6 (up (coefRow d d n)).length c6)) ?_ ?_
        · rintro ⟨b1, b2, b3, v12, v13, v14⟩ wS hS
          have HS := Aside0.mk hS
          clear hS
          refine norm_ (a' := ?_) ?_ ?_
          rotate_left
          · simp only [putAll, Act.put, List.setIfInBounds_toArray, List.set_cons_zero, List.set_cons_succ]
            rfl
          refine two_ (i := 3) (j := 9) (Ni := some 107) (Nj := some 113) #[true, true, true, true, true, true, true, true, true, false, false, true, true, true, false, false, false, false] #[true, true, true, false, true, true, true, true, true, true, false, true, true, true, false, false, false, false] rfl rfl rfl rfl (two_of HT_.out (by kernel_rfl)) (by decide) (by decide) (fun K hK => ?_) (fun K hK => ?_)
          · skip
            obtain ⟨hl1, hl2⟩ := HS.out.l1 _ rfl
            have HL1 := Aside0.mk hl1
            clear hl1 hl2
            refine Kd.R_append_rows_step (Kd.int .i64) (Rr := (Kd.int .i64).K wS) (w0 := w2) w2.heap.size (by rfl) (.tmp 104) (.tmp 106) 29 3 (.int .i64 0) 8 rfl Try.underlying29 infoI2 rfl (by decide) (by decide) (.slice A12 I.length c12) (natInts I) [(n : Int)] (some ⟨b1, 0, none⟩) 1 1 (fun _ => True) (fun _ => False) rfl rfl HS.out.st.r12 (C_int1 HL1.out) (fun _ _ h => h) (fun _ hk => hk.elim) (fun _ _ => trivial) HS.out.st.below HS.out.st.below.size HLE.out ?_
            intro v12' wN ho hb hg hat
            have HSn := Aside0.mk (HS.out.app12 ho hb hg)
            clear ho hb hg hat
            refine hK.out _ _ ((HSn.out.st.below.cell HLB7.out).trans HX7.out) (fun hHeld => ?_)
            clear hK K
            refine norm_ (a' := ?_) ?_ ?_
            rotate_left
            · show Act.put _ (some 107) _ = _
              simp only [Act.put, List.setIfInBounds_toArray, List.set_cons_zero, List.set_cons_succ, i64_w, i32_w]
              rfl
            exact norm_ (by simp only [putAll, Act.put, List.setIfInBounds_toArray, List.set_cons_zero, List.set_cons_succ]) (hC_2_13_a1 (b1, b2, b3, v12', v13, v14) _ HSn.out)
          · skip
            refine event_step (v := .slice (some ⟨wS.heap.size, 0, none⟩) 1 1) (w1 := wS.alloc (.cells #[(.slice A7 (up (encRow d Bs n)).length c7)] 34 (0, 0))) (by rfl) (by first | (go_simp; done) | (go_simp; rfl)) ?_
            have HSn := Aside0.mk (HS.out.new2)
            refine hK.out _ _ ((HSn.out.st.below.cell HLB7.out).trans HX7.out) (fun hHeld => ?_)
            clear hK K
            refine norm_ (a' := ?_) ?_ ?_
            rotate_left
            · show Act.put _ (some 113) _ = _
              simp only [Act.put, List.setIfInBounds_toArray, List.set_cons_zero, List.set_cons_succ, i64_w, i32_w]
              rfl
            exact norm_ (by simp only [putAll, Act.put, List.setIfInBounds_toArray, List.set_cons_zero, List.set_cons_succ]) (hC_2_9_13_a0 (b1, wS.heap.size, b3, v12, v13, v14) _ HSn.out)
        intro hC_2_13_a0
        refine join_ (σ := Nat × Nat × Nat × Value × Value × Value) 7 #[true, true, true, false, true, true, true, true, true, true, false, true, true, false, false, false, false, false] (fun s_ => [(106, .slice (some ⟨s_.1, 0, none⟩) 1 1), (113, .slice (some ⟨s_.2.1, 0, none⟩) 1 1)]) (fun s_ w' => S17 w2 w' gm (nm + 1) ((n : Int) :: J) (.slice A12 I.length c12) (natInts I) u13 H13 (up2 (pickE d Bs I)) u14 H14 (up2 (I.map (coefRow d d))) (.slice A6 (up (coefRow d d n)).length c6) (up (coefRow d d n)) (some s_.1) (some s_.2.1) none (.int .i64 (n : Int)) (.slice A7 (up (encRow d Bs n)).length c7) (.slice A6 (up (coefRow d d n)).length c6)) ?_ ?_
        · rintro ⟨b1, b2, b3, v12, v13, v14⟩ wS hS
          have HS := Aside0.mk hS
          clear hS
          refine norm_ (a' := ?_) ?_ ?_
          rotate_left
          · simp only [putAll, Act.put, List.setIfInBounds_toArray, List.set_cons_zero, List.set_cons_succ]
            rfl
          refine two_ (i := 3) (j := 13) (Ni := some 107) (Nj := some 117) #[true, true, true, true, true, true, true, true, true, true, false, true, true, false, false, false, false, false] #[true, true, true, false, true, true, true, true, true, true, false, true, true, true, false, false, false, false] rfl rfl rfl rfl (two_of HT_.out (by kernel_rfl)) (by decide) (by decide) (fun K hK => ?_) (fun K hK => ?_)
          · skip
            obtain ⟨hl1, hl2⟩ := HS.out.l1 _ rfl
            have HL1 := Aside0.mk hl1
            clear hl1 hl2
            refine Kd.R_append_rows_step (Kd.int .i64) (Rr := (Kd.int .i64).K wS) (w0 := w2) w2.heap.size (by rfl) (.tmp 104) (.tmp 106) 29 3 (.int .i64 0) 8 rfl Try.underlying29 infoI2 rfl (by decide) (by decide) (.slice A12 I.length c12) (natInts I) [(n : Int)] (some ⟨b1, 0, none⟩) 1 1 (fun _ => True) (fun _ => False) rfl rfl HS.out.st.r12 (C_int1 HL1.out) (fun _ _ h => h) (fun _ hk => hk.elim) (fun _ _ => trivial) HS.out.st.below HS.out.st.below.size HLE.out ?_
            intro v12' wN ho hb hg hat
            have HSn := Aside0.mk (HS.out.app12 ho hb hg)
            clear ho hb hg hat
            refine hK.out _ _ ((HSn.out.st.below.cell HLB7.out).trans HX7.out) (fun hHeld => ?_)
            clear hK K
            refine norm_ (a' := ?_) ?_ ?_
            rotate_left
            · show Act.put _ (some 107) _ = _
              simp only [Act.put, List.setIfInBounds_toArray, List.set_cons_zero, List.set_cons_succ, i64_w, i32_w]
              rfl
            exact norm_ (by simp only [putAll, Act.put, List.setIfInBounds_toArray, List.set_cons_zero, List.set_cons_succ]) (hC_2_9_a1 (b1, b2, b3, v12', v13, v14) _ HSn.out)
          · skip
            refine event_step (v := .slice (some ⟨wS.heap.size, 0, none⟩) 1 1) (w1 := wS.alloc (.cells #[(.slice A6 (up (coefRow d d n)).length c6)] 34 (0, 0))) (by rfl) (by first | (go_simp; done) | (go_simp; rfl)) ?_
            have HSn := Aside0.mk (HS.out.new3)
            refine hK.out _ _ ((HSn.out.st.below.cell HLB7.out).trans HX7.out) (fun hHeld => ?_)
            clear hK K
            refine norm_ (a' := ?_) ?_ ?_
            rotate_left
            · show Act.put _ (some 117) _ = _
              simp only [Act.put, List.setIfInBounds_toArray, List.set_cons_zero, List.set_cons_succ, i64_w, i32_w]
              rfl
            exact norm_ (by simp only [putAll, Act.put, List.setIfInBounds_toArray, List.set_cons_zero, List.set_cons_succ]) (hC_2_9_13_a0 (b1, b2, wS.heap.size, v12, v13, v14) _ HSn.out)
        intro hC_2_9_a0
        refine join_ (σ := Nat × Nat × Nat × Value × Value × Value) 8 #[true, true, false, false, true, true, true, true, true, false, false, true, true, true, false, false, false, false] (fun s_ => [(117, .slice (some ⟨s_.2.2.1, 0, none⟩) 1 1)]) (fun s_ w' => S17 w2 w' gm (nm + 1) ((n : Int) :: J) (.slice A12 I.length c12) (natInts I) u13 H13 (up2 (pickE d Bs I)) u14 H14 (up2 (I.map (coefRow d d))) (.slice A6 (up (coefRow d d n)).length c6) (up (coefRow d d n)) none none (some s_.2.2.1) (.int .i64 (n : Int)) (.slice A7 (up (encRow d Bs n)).length c7) (.slice A6 (up (coefRow d d n)).length c6)) ?_ ?_
        · rintro ⟨b1, b2, b3, v12, v13, v14⟩ wS hS
          have HS := Aside0.mk hS
          clear hS
          refine norm_ (a' := ?_) ?_ ?_
          rotate_left
          · simp only [putAll, Act.put, List.setIfInBounds_toArray, List.set_cons_zero, List.set_cons_succ]
            rfl
          refine two_ (i := 2) (j := 9) (Ni := some 106) (Nj := some 113) #[true, true, true, false, true, true, true, true, true, false, false, true, true, true, false, false, false, false] #[true, true, false, false, true, true, true, true, true, true, false, true, true, true, false, false, false, false] rfl rfl rfl rfl (two_of HT_.out (by kernel_rfl)) (by decide) (by decide) (fun K hK => ?_) (fun K hK => ?_)
          · skip
            refine event_step (v := .slice (some ⟨wS.heap.size, 0, none⟩) 1 1) (w1 := wS.alloc (.cells #[(.int .i64 (n : Int))] 3 (0, 0))) (by rfl) (by first | (go_simp; done) | (go_simp; rfl)) ?_
            have HSn := Aside0.mk (HS.out.new1)
            refine hK.out _ _ ((HSn.out.st.below.cell HLB7.out).trans HX7.out) (fun hHeld => ?_)
            clear hK K
            refine norm_ (a' := ?_) ?_ ?_
            rotate_left
            · show Act.put _ (some 106) _ = _
              simp only [Act.put, List.setIfInBounds_toArray, List.set_cons_zero, List.set_cons_succ, i64_w, i32_w]
              rfl
            exact norm_ (by simp only [putAll, Act.put, List.setIfInBounds_toArray, List.set_cons_zero, List.set_cons_succ]) (hC_2_13_a0 (wS.heap.size, b2, b3, v12, v13, v14) _ HSn.out)
          · skip
            refine event_step (v := .slice (some ⟨wS.heap.size, 0, none⟩) 1 1) (w1 := wS.alloc (.cells #[(.slice A7 (up (encRow d Bs n)).length c7)] 34 (0, 0))) (by rfl) (by first | (go_simp; done) | (go_simp; rfl)) ?_
            have HSn := Aside0.mk (HS.out.new2)
            refine hK.out _ _ ((HSn.out.st.below.cell HLB7.out).trans HX7.out) (fun hHeld => ?_)
            clear hK K
            refine norm_ (a' := ?_) ?_ ?_
            rotate_left
            · show Act.put _ (some 113) _ = _
              simp only [Act.put, List.setIfInBounds_toArray, List.set_cons_zero, List.set_cons_succ, i64_w, i32_w]
              rfl
            exact norm_ (by simp only [putAll, Act.put, List.setIfInBounds_toArray, List.set_cons_zero, List.set_cons_succ]) (hC_9_13_a0 (b1, wS.heap.size, b3, v12, v13, v14) _ HSn.out)
        intro hC_13_a0
        refine join_ (σ := Nat × Nat × Nat × Value × Value × Value) 8 #[true, true, false, false, true, true, true, true, true, true, false, true, true, false, false, false, false, false] (fun s_ => [(113, .slice (some ⟨s_.2.1, 0, none⟩) 1 1)]) (fun s_ w' => S17 w2 w' gm (nm + 1) ((n : Int) :: J) (.slice A12 I.length c12) (natInts I) u13 H13 (up2 (pickE d Bs I)) u14 H14 (up2 (I.map (coefRow d d))) (.slice A6 (up (coefRow d d n)).length c6) (up (coefRow d d n)) none (some s_.2.1) none (.int .i64 (n : Int)) (.slice A7 (up (encRow d Bs n)).length c7) (.slice A6 (up (coefRow d d n)).length c6)) ?_ ?_
        · rintro ⟨b1, b2, b3, v12, v13, v14⟩ wS hS
          have HS := Aside0.mk hS
          clear hS
          refine norm_ (a' := ?_) ?_ ?_
          rotate_left
          · simp only [putAll, Act.put, List.setIfInBounds_toArray, List.set_cons_zero, List.set_cons_succ]
            rfl
          refine two_ (i := 2) (j := 13) (Ni := some 106) (Nj := some 117) #[true, true, true, false, true, true, true, true, true, true, false, true, true, false, false, false, false, false] #[true, true, false, false, true, true, true, true, true, true, false, true, true, true, false, false, false, false] rfl rfl rfl rfl (two_of HT_.out (by kernel_rfl)) (by decide) (by decide) (fun K hK => ?_) (fun K hK => ?_)
          · skip
            refine event_step (v := .slice (some ⟨wS.heap.size, 0, none⟩) 1 1) (w1 := wS.alloc (.cells #[(.int .i64 (n : Int))] 3 (0, 0))) (by rfl) (by first | (go_simp; done) | (go_simp; rfl)) ?_
            have HSn := Aside0.mk (HS.out.new1)
            refine hK.out _ _ ((HSn.out.st.below.cell HLB7.out).trans HX7.out) (fun hHeld => ?_)
            clear hK K
            refine norm_ (a' := ?_) ?_ ?_
            rotate_left
            · show Act.put _ (some 106) _ = _
              simp only [Act.put, List.setIfInBounds_toArray, List.set_cons_zero, List.set_cons_succ, i64_w, i32_w]
              rfl
            exact norm_ (by simp only [putAll, Act.put, List.setIfInBounds_toArray, List.set_cons_zero, List.set_cons_succ]) (hC_2_9_a0 (wS.heap.size, b2, b3, v12, v13, v14) _ HSn.out)
          · skip
            refine event_step (v := .slice (some ⟨wS.heap.size, 0, none⟩) 1 1) (w1 := wS.alloc (.cells #[(.slice A6 (up (coefRow d d n)).length c6)] 34 (0, 0))) (by rfl) (by first | (go_simp; done) | (go_simp; rfl)) ?_
            have HSn := Aside0.mk (HS.out.new3)
            refine hK.out _ _ ((HSn.out.st.below.cell HLB7.out).trans HX7.out) (fun hHeld => ?_)
            clear hK K
            refine norm_ (a' := ?_) ?_ ?_
            rotate_left
            · show Act.put _ (some 117) _ = _
              simp only [Act.put, List.setIfInBounds_toArray, List.set_cons_zero, List.set_cons_succ, i64_w, i32_w]
              rfl
            exact norm_ (by simp only [putAll, Act.put, List.setIfInBounds_toArray, List.set_cons_zero, List.set_cons_succ]) (hC_9_13_a0 (b1, b2, wS.heap.size, v12, v13, v14) _ HSn.out)
        intro hC_9_a0
        refine join_ (σ := Nat × Nat × Nat × Value × Value × Value) 8 #[true, true, true, false, true, true, true, true, true, false, false, true, true, false, false, false, false, false] (fun s_ => [(106, .slice (some ⟨s_.1, 0, none⟩) 1 1)]) (fun s_ w' => S17 w2 w' gm (nm + 1) ((n : Int) :: J) (.slice A12 I.length c12) (natInts I) u13 H13 (up2 (pickE d Bs I)) u14 H14 (up2 (I.map (coefRow d d))) (.slice A6 (up (coefRow d d n)).length c6) (up (coefRow d d n)) (some s_.1) none none (.int .i64 (n : Int)) (.slice A7 (up (encRow d Bs n)).length c7) (.slice A6 (up (coefRow d d n)).length c6)) ?_ ?_
        · rintro ⟨b1, b2, b3, v12, v13, v14⟩ wS hS
          have HS := Aside0.mk hS
          clear hS
          refine norm_ (a' := ?_) ?_ ?_
          rotate_left
          · simp only [putAll, Act.put, List.setIfInBounds_toArray, List.set_cons_zero, List.set_cons_succ]
            rfl
          refine three_ (i := 3) (j := 9) (k := 13) (Ni := some 107) (Nj := some 113) (Nk := some 117) #[true, true, true, true, true, true, true, true, true, false, false, true, true, false, false, false, false, false] #[true, true, true, false, true, true, true, true, true, true, false, true, true, false, false, false, false, false] #[true, true, true, false, true, true, true, true, true, false, false, true, true, true, false, false, false, false] rfl rfl rfl rfl rfl rfl (three_of HT_.out (by kernel_rfl)) (by decide) (by decide) (by decide) (fun K hK => ?_) (fun K hK => ?_) (fun K hK => ?_)
          · skip
            obtain ⟨hl1, hl2⟩ := HS.out.l1 _ rfl
            have HL1 := Aside0.mk hl1
            clear hl1 hl2
            refine Kd.R_append_rows_step (Kd.int .i64) (Rr := (Kd.int .i64).K wS) (w0 := w2) w2.heap.size (by rfl) (.tmp 104) (.tmp 106) 29 3 (.int .i64 0) 8 rfl Try.underlying29 infoI2 rfl (by decide) (by decide) (.slice A12 I.length c12) (natInts I) [(n : Int)] (some ⟨b1, 0, none⟩) 1 1 (fun _ => True) (fun _ => False) rfl rfl HS.out.st.r12 (C_int1 HL1.out) (fun _ _ h => h) (fun _ hk => hk.elim) (fun _ _ => trivial) HS.out.st.below HS.out.st.below.size HLE.out ?_
            intro v12' wN ho hb hg hat
            have HSn := Aside0.mk (HS.out.app12 ho hb hg)
            clear ho hb hg hat
            refine hK.out _ _ ((HSn.out.st.below.cell HLB7.out).trans HX7.out) (fun hHeld => ?_)
            clear hK K
            refine norm_ (a' := ?_) ?_ ?_
            rotate_left
            · show Act.put _ (some 107) _ = _
              simp only [Act.put, List.setIfInBounds_toArray, List.set_cons_zero, List.set_cons_succ, i64_w, i32_w]
              rfl
            exact norm_ (by simp only [putAll, Act.put, List.setIfInBounds_toArray, List.set_cons_zero, List.set_cons_succ]) (hC_2_a1 (b1, b2, b3, v12', v13, v14) _ HSn.out)
          · skip
            refine event_step (v := .slice (some ⟨wS.heap.size, 0, none⟩) 1 1) (w1 := wS.alloc (.cells #[(.slice A7 (up (encRow d Bs n)).length c7)] 34 (0, 0))) (by rfl) (by first | (go_simp; done) | (go_simp; rfl)) ?_
            have HSn := Aside0.mk (HS.out.new2)
            refine hK.out _ _ ((HSn.out.st.below.cell HLB7.out).trans HX7.out) (fun hHeld => ?_)
            clear hK K
            refine norm_ (a' := ?_) ?_ ?_
            rotate_left
            · show Act.put _ (some 113) _ = _
              simp only [Act.put, List.setIfInBounds_toArray, List.set_cons_zero, List.set_cons_succ, i64_w, i32_w]
              rfl
            exact norm_ (by simp only [putAll, Act.put, List.setIfInBounds_toArray, List.set_cons_zero, List.set_cons_succ]) (hC_2_9_a0 (b1, wS.heap.size, b3, v12, v13, v14) _ HSn.out)
          · skip
            refine event_step (v := .slice (some ⟨wS.heap.size, 0, none⟩) 1 1) (w1 := wS.alloc (.cells #[(.slice A6 (up (coefRow d d n)).length c6)] 34 (0, 0))) (by rfl) (by first | (go_simp; done) | (go_simp; rfl)) ?_
            have HSn := Aside0.mk (HS.out.new3)
            refine hK.out _ _ ((HSn.out.st.below.cell HLB7.out).trans HX7.out) (fun hHeld => ?_)
            clear hK K
            refine norm_ (a' := ?_) ?_ ?_
            rotate_left
            · show Act.put _ (some 117) _ = _
              simp only [Act.put, List.setIfInBounds_toArray, List.set_cons_zero, List.set_cons_succ, i64_w, i32_w]
              rfl
            exact norm_ (by simp only [putAll, Act.put, List.setIfInBounds_toArray, List.set_cons_zero, List.set_cons_succ]) (hC_2_13_a0 (b1, b2, wS.heap.size, v12, v13, v14) _ HSn.out)
        intro hC_2_a0
        refine join_ (σ := Nat × Nat × Nat × Value × Value × Value) 9 #[true, true, false, false, true, true, true, true, true, false, false, true, true, false, false, false, false, false] (fun s_ => []) (fun s_ w' => S17 w2 w' gm (nm + 1) ((n : Int) :: J) (.slice A12 I.length c12) (natInts I) u13 H13 (up2 (pickE d Bs I)) u14 H14 (up2 (I.map (coefRow d d))) (.slice A6 (up (coefRow d d n)).length c6) (up (coefRow d d n)) none none none (.int .i64 (n : Int)) (.slice A7 (up (encRow d Bs n)).length c7) (.slice A6 (up (coefRow d d n)).length c6)) ?_ ?_
        · rintro ⟨b1, b2, b3, v12, v13, v14⟩ wS hS
          have HS := Aside0.mk hS
          clear hS
          refine norm_ (a' := ?_) ?_ ?_
          rotate_left
          · simp only [putAll]
            rfl
          refine three_ (i := 2) (j := 9) (k := 13) (Ni := some 106) (Nj := some 113) (Nk := some 117) #[true, true, true, false, true, true, true, true, true, false, false, true, true, false, false, false, false, false] #[true, true, false, false, true, true, true, true, true, true, false, true, true, false, false, false, false, false] #[true, true, false, false, true, true, true, true, true, false, false, true, true, true, false, false, false, false] rfl rfl rfl rfl rfl rfl (three_of HT_.out (by kernel_rfl)) (by decide) (by decide) (by decide) (fun K hK => ?_) (fun K hK => ?_) (fun K hK => ?_)
          · skip
            refine event_step (v := .slice (some ⟨wS.heap.size, 0, none⟩) 1 1) (w1 := wS.alloc (.cells #[(.int .i64 (n : Int))] 3 (0, 0))) (by rfl) (by first | (go_simp; done) | (go_simp; rfl)) ?_
            have HSn := Aside0.mk (HS.out.new1)
            refine hK.out _ _ ((HSn.out.st.below.cell HLB7.out).trans HX7.out) (fun hHeld => ?_)
            clear hK K
            refine norm_ (a' := ?_) ?_ ?_
            rotate_left
            · show Act.put _ (some 106) _ = _
              simp only [Act.put, List.setIfInBounds_toArray, List.set_cons_zero, List.set_cons_succ, i64_w, i32_w]
              rfl
            exact norm_ (by simp only [putAll, Act.put, List.setIfInBounds_toArray, List.set_cons_zero, List.set_cons_succ]) (hC_2_a0 (wS.heap.size, b2, b3, v12, v13, v14) _ HSn.out)
          · skip
            refine event_step (v := .slice (some ⟨wS.heap.size, 0, none⟩) 1 1) (w1 := wS.alloc (.cells #[(.slice A7 (up (encRow d Bs n)).length c7)] 34 (0, 0))) (by rfl) (by first | (go_simp; done) | (go_simp; rfl)) ?_
            have HSn := Aside0.mk (HS.out.new2)
            refine hK.out _ _ ((HSn.out.st.below.cell HLB7.out).trans HX7.out) (fun hHeld => ?_)
            clear hK K
            refine norm_ (a' := ?_) ?_ ?_
            rotate_left
            · show Act.put _ (some 113) _ = _
              simp only [Act.put, List.setIfInBounds_toArray, List.set_cons_zero, List.set_cons_succ, i64_w, i32_w]
              rfl
            exact norm_ (by simp only [putAll, Act.put, List.setIfInBounds_toArray, List.set_cons_zero, List.set_cons_succ]) (hC_9_a0 (b1, wS.heap.size, b3, v12, v13, v14) _ HSn.out)
          · skip
            refine event_step (v := .slice (some ⟨wS.heap.size, 0, none⟩) 1 1) (w1 := wS.alloc (.cells #[(.slice A6 (up (coefRow d d n)).length c6)] 34 (0, 0))) (by rfl) (by first | (go_simp; done) | (go_simp; rfl)) ?_
            have HSn := Aside0.mk (HS.out.new3)
            refine hK.out _ _ ((HSn.out.st.below.cell HLB7.out).trans HX7.out) (fun hHeld => ?_)
            clear hK K
            refine norm_ (a' := ?_) ?_ ?_
            rotate_left
            · show Act.put _ (some 117) _ = _
              simp only [Act.put, List.setIfInBounds_toArray, List.set_cons_zero, List.set_cons_succ, i64_w, i32_w]
              rfl
            exact norm_ (by simp only [putAll, Act.put, List.setIfInBounds_toArray, List.set_cons_zero, List.set_cons_succ]) (hC_13_a0 (b1, b2, wS.heap.size, v12, v13, v14) _ HSn.out)
        intro hC__a0
        exact hC__a0 (0, 0, 0, undef, undef, undef) _ ⟨HS7.out, HV7.out, fun b e => (by cases e), fun b e => (by cases e), fun b e => (by cases e)⟩
    · obtain ⟨hn, hb, hle⟩ := HI.out
      have hb2 : Below w.heap.size w wr := HB4.out.trans (HS.out.below.mono HB4.out.size)
      have HBW := Aside0.mk hb2
      have HB2R := Aside0.mk (Kd.C_below HR2.out hb2)
      obtain ⟨A13, c13, e13, hc13, hr13⟩ := C_of_raw HS.out.r13 HS.out.l13 (fun j x hx => by obtain ⟨r, h1, h2⟩ := HS.out.e13 j x hx; exact ⟨r, h1, h2.later HS.out.below⟩)
      obtain ⟨A14, c14, e14, hc14, hr14⟩ := C_of_raw HS.out.r14 HS.out.l14 (fun j x hx => by obtain ⟨r, h1, h2⟩ := HS.out.e14 j x hx; exact ⟨r, h1, RowC.of_R h2⟩)
      subst e13 e14
      have HR12 : Aside0 (Kd.C (Kd.int .i64) wr A12 (natInts I).length (natInts I)) := ⟨by have h := HS.out.r12; rw [← natInts_len I] at h; exact (Kd.R_reads' h).2.2⟩
      have HC12 : Aside0 ((natInts I).length ≤ c12) := ⟨by have h := HS.out.r12; rw [← natInts_len I] at h; exact (Kd.R_reads' h).2.1⟩
      have HR13 := Aside0.mk hr13
      have HC13 := Aside0.mk hc13
      have HR14 := Aside0.mk hr14
      have HC14 := Aside0.mk hc14
      have HNL := Aside0.mk (natInts_len I)
      have HWR := Aside0.mk (Below.refl wr.heap.size wr)
      clear hb2 hr13 hc13 hr14 hc14
      by_cases hI : I.length < d
      · have hic : i = cho.length := by omega
        have HRS := Aside0.mk (recon_short hd1 hd ht1 ht HK.out.1 hn hb hI (k := d + 1) (by omega))
        have d1 : decide ((I.length : Int) < (d : Int)) = true := decide_eq_true (by omega)
        have d2 : decide (I.length < d) = true := decide_eq_true hI
        have i4 : decide ((i : Int) < (cho.length : Int)) = false := decide_eq_false (by omega)
        have i5 : decide (i < cho.length) = false := decide_eq_false (by omega)
        clear hic hlt hI hn hb hle HS
        go_wp2_with (first | (go_at_call 41; (with_reducible refine (recon_calls_n (d + 1) _ _ _ _ _ (natInts I) _ _ (up2 (pickE d Bs I)) _ _ _ HNL.out HR12.out HC12.out HR13.out HC13.out HRS.out).mono ?_); rintro e w6 ⟨v6, rfl, hv6, hb6⟩; obtain ⟨A6, c6, ev6⟩ := Kd.S_slice hv6; subst ev6; have HB6 := Aside0.mk hb6; clear hv6 hb6))
        go_ret
        exact ⟨rfl, HBW.out.trans (HB6.out.mono HBW.out.size)⟩
      · have hId : I.length = d := by omega
        have hb16 : ∀ p ∈ I, p < 16 := fun p hp => by have := hb p hp; omega
        have HINV := Aside0.mk (facInv_facts hd1 hd (ix_nat hn hb16 hId)).1
        rw [facRows_nat I hId] at HINV
        have HREC := Aside0.mk (recon_ok hd1 hd ht1 ht HK.out.1 HK.out.2 hn hb (by omega) (k := d + 1) (by omega))
        have HRNK := Aside0.mk (rank_rows hd1 hd hn hb16 hId)
        rw [facRows_nat I hId] at HRNK
        have HAPP := Aside0.mk (apply_back hd1 hd HK.out.1.1 HK.out.2 HK.out.1.2.2 hn hb16 hId)
        have HCHK := Aside0.mk (check_ok hd1 hd ht1 ht HK.out.1 HK.out.2 hn hb (by omega) (k := 1) (by omega))
        have HSAM := Aside0.mk (a04same_self (up2 Bs) (by rw [up2_length]; have := HK.out.2; omega) (k := d + 1) (by rw [up2_length]; have := HK.out.2; omega))
        have d1 : decide ((I.length : Int) < (d : Int)) = false := decide_eq_false (by omega)
        have d2 : decide (I.length < d) = false := decide_eq_false (by omega)
        have d3 : ((d : Int) != (d : Int)) = false := by simp
        generalize facInv d (natInts I) = X at HINV HAPP
        by_cases hic : i < cho.length
        all_goals
          first
            | have i4 : decide ((i : Int) < (cho.length : Int)) = true := decide_eq_true (by omega)
            | have i4 : decide ((i : Int) < (cho.length : Int)) = false := decide_eq_false (by omega)
          first
            | have i5 : decide (i < cho.length) = true := decide_eq_true (by omega)
            | have i5 : decide (i < cho.length) = false := decide_eq_false (by omega)
          clear hic hlt hI hId hn hb hle hb16 HS
          go_wp2_with (first | (go_at_call 42; (with_reducible refine (matrix_Inverse.calls _ _ (up2 (I.map (coefRow d d))) (up2 X) 0 _ HR14.out HC14.out HINV.out).mono ?_); rintro e w6 ⟨v6, rfl, hv6, hb6⟩; obtain ⟨A6, c6, ev6⟩ := Kd.S_slice hv6; subst ev6; have HV6 := Aside0.mk hv6; have HB6 := Aside0.mk hb6; clear hv6 hb6) | (go_at_call 41; (with_reducible refine (recon_calls_n (d + 1) _ _ _ _ _ (natInts I) _ _ (up2 (pickE d Bs I)) _ _ _ HNL.out (Kd.C_below HR12.out HB6.out) HC12.out (Kd.C_below HR13.out HB6.out) HC13.out HREC.out).mono ?_); rintro e w7 ⟨v7, rfl, hv7, hb7⟩; obtain ⟨A7, c7, ev7⟩ := Kd.S_slice hv7; subst ev7; have HV7 := Aside0.mk hv7; have HB7 := Aside0.mk (HB6.out.trans (hb7.mono HB6.out.size)); have HB67 := Aside0.mk hb7; clear hv7 hb7) | (go_at_call 28; go_loud ((with_reducible refine (matrix_Rank.calls _ _ (up2 (I.map (coefRow d d))) (d : Int) _ (Kd.C_below HR14.out HB7.out) HC14.out HRNK.out).mono ?_); rintro e w8 ⟨rfl, hb8⟩; have HB8 := Aside0.mk (HB7.out.trans (hb8.mono HB7.out.size)); have HB68 := Aside0.mk (HB67.out.trans (hb8.mono HB67.out.size)); have HB78 := Aside0.mk hb8; clear hb8)) | (go_at_call 32; go_loud ((with_reducible refine (matrix_Apply.calls A6 c6 (up2 X) _ _ (up2 (pickE d Bs I)) _ _ _ (Kd.C_below (Kd.S_reads' HV6.out).2.2 HB68.out) (Kd.S_reads' HV6.out).2.1 (Kd.C_below HR13.out HB8.out) HC13.out HAPP.out).mono ?_); rintro e w9 ⟨v9, rfl, hv9, hb9⟩; obtain ⟨A10, c10, ev9⟩ := Kd.S_slice hv9; subst ev9; have HV9 := Aside0.mk hv9; have HB9 := Aside0.mk (HB8.out.trans (hb9.mono HB8.out.size)); have HB79 := Aside0.mk (HB78.out.trans (hb9.mono HB78.out.size)); clear hv9 hb9)) | (go_at_call 43; go_loud ((with_reducible refine (check_calls_n 1 _ _ _ _ _ (natInts I) _ _ (up2 (pickE d Bs I)) true 0 _ HNL.out (Kd.C_below HR12.out HB9.out) HC12.out (Kd.C_below HR13.out HB9.out) HC13.out HCHK.out).mono ?_); rintro e w10 ⟨rfl, hb10⟩; have HB10 := Aside0.mk (HB9.out.trans (hb10.mono HB9.out.size)); have HB710 := Aside0.mk (HB79.out.trans (hb10.mono HB79.out.size)); have HB910 := Aside0.mk hb10; clear hb10)) | (go_at_call 44; go_loud (first | ((with_reducible refine (kinkeeptop_a04Same.calls (d + 1) _ _ (up2 Bs) _ _ (up2 Bs) true _ (Kd.C_below (Kd.S_reads' HV7.out).2.2 HB710.out) (Kd.S_reads' HV7.out).2.1 (Kd.C_below HB2R.out HB10.out) HC2.out HSAM.out).mono ?_); rintro e w11 ⟨rfl, ⟨m1, rfl⟩⟩; have HB11 := Aside0.mk (pw_below_drewN (Below.refl w10.heap.size w10) m1)) | ((with_reducible refine (kinkeeptop_a04Same.calls (d + 1) _ _ (up2 Bs) _ _ (up2 Bs) true _ (Kd.C_below (Kd.C_below (Kd.S_reads' HV9.out).2.2 HB910.out) HB11.out) (Kd.S_reads' HV9.out).2.1 (Kd.C_below (Kd.C_below HB2R.out HB10.out) HB11.out) HC2.out HSAM.out).mono ?_); rintro e w12 ⟨rfl, ⟨m2, rfl⟩⟩))))
          go_ret
          exact ⟨rfl, pw_below_drewN (HBW.out.trans (HB10.out.mono HBW.out.size)) _⟩
end Go.Proofs.Ytpkghpljgjlmjaa.K
/- The law of any pieces: its guards, and the whole law. -/
namespace Go.Proofs.Ytpkghpljgjlmjaa.K
open Go.RowKit Go.Proofs.YtpkghpljgjlmjaaW.PrintWords Go.Proofs.YtpkghpljgjlmjaaW.PrintLast Go.Proofs.YtpkghpljgjlmjaaW.PrintMore Kin
set_option linter.unusedVariables false
set_option linter.unusedSimpArgs false
set_option maxRecDepth 100000 in
set_option maxHeartbeats 8000000 in
theorem anyPieces_bad (a0 a1 : Int) (l2 : List (List Int)) (l3 : List Int) (A2 A3 : Option Addr) (c2 c3 : Nat) (w : World) (hl2 : l2.length ≤ 9223372036854775807) (bv bb : Bool) (hv : reedsolomon_Valid.f a0 a1 = some bv) (hb : blocksB l2 a0 40 = bb) (hbad : bv = false ∨ bb = false ∨ 40 < l3.length)
    (hr2 : Kd.C (Kd.slice 5 (Kd.int .u8)) w A2 l2.length l2) (hc2 : l2.length ≤ c2) :
    Calls Try.prog 9 #[.int .i64 a0, .int .i64 a1, .slice A2 l2.length c2, .slice A3 l3.length c3] w fun e w' => e = .returned (.bool true) ∧ Below w.heap.size w w' := by
  have HR2 := Aside0.mk hr2
  have HC2 := Aside0.mk hc2
  have HAW := Aside0.mk (a04awake_true (k := 100) (by omega))
  have HVA := Aside0.mk hv
  have HBK := Aside0.mk (show kinkeeptop_a04Blocks.f (l2.length + 1) a0 l2 (40 : Int) = some bb by
    have := a04blocks_b l2 a0 40 hl2 (k := l2.length + 1) (by omega)
    rw [hb] at this; exact this)
  clear hr2 hc2 hv hb
  cases bv
  · clear hbad
    go_enter Try.func9, Try.ntmps9
    go_wp2_with (first | (go_at_call 36; first | ((with_reducible refine (kinkeeptop_a04Awake.calls 100 true w HAW.out).mono ?_); rintro e w1 ⟨rfl, hb⟩; have HB1 := Aside0.mk hb; clear hb) | ((with_reducible refine (kinkeeptop_a04Awake.calls 100 true _ HAW.out).mono ?_); rintro e w5 ⟨rfl, hb⟩; have HB5 := Aside0.mk hb; clear hb)) | (go_at_call 37; (with_reducible refine (reedsolomon_Valid.calls _ _ false _ HVA.out).mono ?_); rintro e w1b ⟨rfl, ⟨n1, rfl⟩⟩; have HB2 := Aside0.mk (pw_below_drewN HB1.out n1)))
    go_ret
    exact ⟨rfl, HB2.out.trans (HB5.out.mono HB2.out.size)⟩
  · cases bb
    · clear hbad
      go_enter Try.func9, Try.ntmps9
      go_wp2_with (first | (go_at_call 36; first | ((with_reducible refine (kinkeeptop_a04Awake.calls 100 true w HAW.out).mono ?_); rintro e w1 ⟨rfl, hb⟩; have HB1 := Aside0.mk hb; clear hb) | ((with_reducible refine (kinkeeptop_a04Awake.calls 100 true _ HAW.out).mono ?_); rintro e w5 ⟨rfl, hb⟩; have HB5 := Aside0.mk hb; clear hb)) | (go_at_call 37; (with_reducible refine (reedsolomon_Valid.calls _ _ true _ HVA.out).mono ?_); rintro e w1b ⟨rfl, ⟨n1, rfl⟩⟩; have HB2 := Aside0.mk (pw_below_drewN HB1.out n1)) | (go_at_call 38; (with_reducible refine (kinkeeptop_a04Blocks.calls (l2.length + 1) _ _ _ l2 _ false _ (Kd.C_below HR2.out HB2.out) HC2.out HBK.out).mono ?_); rintro e w1c ⟨rfl, ⟨n2, rfl⟩⟩; have HB3 := Aside0.mk (pw_below_drewN HB1.out (n1 + n2))))
      go_ret
      exact ⟨rfl, HB3.out.trans (HB5.out.mono HB3.out.size)⟩
    · have h40 : 40 < l3.length := by rcases hbad with h | h | h; cases h; cases h; exact h
      have b1 : decide ((40 : Int) < (l3.length : Int)) = true := decide_eq_true (by omega)
      have b1' : decide (40 < l3.length) = true := decide_eq_true h40
      clear hbad h40
      go_enter Try.func9, Try.ntmps9
      go_wp2_with (first | (go_at_call 36; first | ((with_reducible refine (kinkeeptop_a04Awake.calls 100 true w HAW.out).mono ?_); rintro e w1 ⟨rfl, hb⟩; have HB1 := Aside0.mk hb; clear hb) | ((with_reducible refine (kinkeeptop_a04Awake.calls 100 true _ HAW.out).mono ?_); rintro e w5 ⟨rfl, hb⟩; have HB5 := Aside0.mk hb; clear hb)) | (go_at_call 37; (with_reducible refine (reedsolomon_Valid.calls _ _ true _ HVA.out).mono ?_); rintro e w1b ⟨rfl, ⟨n1, rfl⟩⟩; have HB2 := Aside0.mk (pw_below_drewN HB1.out n1)) | (go_at_call 38; (with_reducible refine (kinkeeptop_a04Blocks.calls (l2.length + 1) _ _ _ l2 _ true _ (Kd.C_below HR2.out HB2.out) HC2.out HBK.out).mono ?_); rintro e w1c ⟨rfl, ⟨n2, rfl⟩⟩; have HB3 := Aside0.mk (pw_below_drewN HB1.out (n1 + n2))))
      go_ret
      exact ⟨rfl, HB3.out.trans (HB5.out.mono HB3.out.size)⟩
/-- The whole law. -/
theorem kinkeeptop_TopAnyPieces.calls (a0 a1 : Int) (A2 : Option Addr) (c2 : Nat) (Bs : List (List B)) (A3 : Option Addr) (c3 : Nat) (l3 : List Int) (w : World) (hl2 : (up2 Bs).length ≤ 9223372036854775807) (hwf : ∀ x ∈ l3, (Lit.int .i64 x).wf = true)
    (hr2 : Kd.C (Kd.slice 5 (Kd.int .u8)) w A2 (up2 Bs).length (up2 Bs)) (hc2 : (up2 Bs).length ≤ c2) (hr3 : Kd.C (Kd.int .i64) w A3 l3.length l3) (hc3 : l3.length ≤ c3) :
    Calls Try.prog 9 #[.int .i64 a0, .int .i64 a1, .slice A2 (up2 Bs).length c2, .slice A3 l3.length c3] w fun e w' => e = .returned (.bool true) ∧ Below w.heap.size w w' := by
  by_cases h : (1 ≤ a0 ∧ a0 ≤ 8 ∧ a0 ≤ a1 ∧ a1 ≤ 16) ∧ blocksB (up2 Bs) a0 40 = true ∧ l3.length ≤ 40
  · obtain ⟨⟨h1, h2, h3, h4⟩, hb, hl⟩ := h
    obtain ⟨d, rfl⟩ : ∃ d : Nat, a0 = (d : Int) := ⟨a0.toNat, by omega⟩
    obtain ⟨t, rfl⟩ : ∃ t : Nat, a1 = (t : Int) := ⟨a1.toNat, by omega⟩
    obtain ⟨hlen, hrow⟩ := blocksB_lim hb
    have hlen' : Bs.length = d := by omega
    have hbk : blksOk Bs := by
      refine ⟨fun b hb => (hrow b hb).2.2, ?_, ?_⟩
      · cases Bs with
        | nil => simp at hlen'; omega
        | cons b bs => have := hrow b (List.mem_cons_self ..); omega
      · cases Bs with
        | nil => simp at hlen'; omega
        | cons b bs => have := hrow b (List.mem_cons_self ..); omega
    exact anyPieces_good d t Bs l3 A2 A3 c2 c3 w (by omega) (by omega) (by omega) (by omega) hbk hlen' hb hl hwf hr2 hc2 hr3 hc3
  · refine anyPieces_bad a0 a1 (up2 Bs) l3 A2 A3 c2 c3 w hl2 _ _ (rsvalid_eq a0 a1) rfl ?_ hr2 hc2
    by_cases h1 : 1 ≤ a0 ∧ a0 ≤ 8 ∧ a0 ≤ a1 ∧ a1 ≤ 16
    · by_cases h2 : blocksB (up2 Bs) a0 40 = true
      · by_cases h3 : l3.length ≤ 40
        · exact absurd ⟨h1, h2, h3⟩ h
        · exact .inr (.inr (by omega))
      · exact .inr (.inl (by simpa using h2))
    · exact .inl (decide_eq_false h1)
end Go.Proofs.Ytpkghpljgjlmjaa.K
