/- Walks and plain facts behind the laws of package matrix. No conditions. -/
import Derived.Test.YtpkghpljgjlmjaaB4
import Derived.Test.YtpkghpljgjlmjaaU2
import Derived.Laws.BitsAllLaws
import Derived.ProofKit
import Derived.ShutString
import Derived.ChangeOld
import Derived.SizedLaws
import Derived.OpenShut
-- Lines of this claim, written by the session's own program kprint.py (it runs print.py).
namespace Go.Proofs.Ytpkghpljgjlmjaa.K
open Go.RowKit Go.Proofs.YtpkghpljgjlmjaaW.PrintWords Go.Proofs.YtpkghpljgjlmjaaW.PrintLast Go.Proofs.YtpkghpljgjlmjaaW.PrintMore
attribute [local go_sem] max2_int min2_int max_two min_two max_three min_three max_four min_four   -- for this text's walks alone
set_option linter.unusedVariables false
set_option linter.unusedSimpArgs false
set_option maxHeartbeats 8000000 in
set_option maxRecDepth 100000 in
theorem kinkeeplaw04_few.calls (k : Nat) (A0 : Option Addr) (c0 : Nat) (l0 : List (List Int)) (a1 : Int) (r : Bool) (w : World) (hr0 : Kd.C (Kd.slice 5 (Kd.int .u8)) w A0 l0.length l0) (hc0 : l0.length ≤ c0) (h : kinkeeplaw04_few.f k l0 a1 = some r) :
    Calls Try.prog 15 #[.slice A0 l0.length c0, .int .i64 a1] w fun e w' => e = .returned (.bool r) ∧ Drawn0 w w' := by
  have HR0 := Aside0.mk hr0
  have HC0 := Aside0.mk hc0
  clear hr0 hc0
  have H : (kinkeeplaw04_few.l0 k l0 a1 0) = some r := h
  clear h
  have H' := Aside0.mk H
  clear H
  go_enter Try.func15, Try.ntmps15
  go_wp2
  go_loopg [5] k (fun kq v5 w' => ∃ (x5_1 : Int), v5 = .int .i64 x5_1 ∧ Aside0 (kinkeeplaw04_few.l0 kq l0 a1 x5_1 = some r) ∧ Aside0 (kq ≤ k) ∧ Drawn0 w w')
  case atStart => exact ⟨(0), (by first | rfl | (simp; done) | (simp [*]; done)), H', ⟨Nat.le_refl _⟩, by repeat (first | exact Drawn0.refl _ | apply Drawn0.step)⟩
  case round =>
    clear H'; (try clear c1); (try clear p2)
    obtain ⟨x5_1, rfl, HA, HK1, ⟨m1, rfl⟩⟩ := hrel
    cases gk with
    | zero => exact absurd HA.out (by simp [kinkeeplaw04_few.l0])
    | succ k1 =>
      have H := HA.out
      clear HA
      simp only [kinkeeplaw04_few.l0] at H
      by_cases c3 : x5_1 < (l0.length : Int)
      · rw [if_pos c3] at H
        have c3b0 : decide (x5_1 < (l0.length : Int)) = true := decide_eq_true c3
        clear c3
        by_cases c4 : 0 ≤ x5_1
        · rw [if_pos c4] at H
          have c4b0 : decide (0 ≤ x5_1) = true := decide_eq_true c4
          clear c4
          by_cases c5 : ((rd_L1 l0 x5_1).length : Int) > a1
          · rw [if_pos c5] at H
            have c5b0 : decide (a1 < ((rd_L1 l0 x5_1).length : Int)) = true := decide_eq_true c5
            clear c5
            obtain rfl := Option.some.inj H
            have p212 : 0 ≤ (x5_1 : Int) := of_decide_eq_true (by first | (with_reducible assumption) | assumption)
            have q212 : x5_1 < (l0.length : Int) := of_decide_eq_true (by first | (with_reducible assumption) | assumption)
            obtain ⟨ad212, A212_0, c212_0, e212, hx212_0, hl212_0, hi212_0⟩ := at_L1 HR0.out x5_1 p212 q212
            cases e212
            have HR212_0 := Aside0.mk hi212_0
            have HC212_0 := Aside0.mk hl212_0
            clear hi212_0 hl212_0
            replace p212 := eq_true p212
            replace q212 := eq_true q212
            go_wp2
            go_ret
            exact ⟨by first | rfl | (simp; done) | (simp [*]; done), by repeat (first | exact Drawn0.refl _ | apply Drawn0.step)⟩
          · rw [if_neg c5] at H
            have c5b0 : decide (a1 < ((rd_L1 l0 x5_1).length : Int)) = false := decide_eq_false c5
            clear c5
            have H' := Aside0.mk H
            clear H
            have p212 : 0 ≤ (x5_1 : Int) := of_decide_eq_true (by first | (with_reducible assumption) | assumption)
            have q212 : x5_1 < (l0.length : Int) := of_decide_eq_true (by first | (with_reducible assumption) | assumption)
            obtain ⟨ad212, A212_0, c212_0, e212, hx212_0, hl212_0, hi212_0⟩ := at_L1 HR0.out x5_1 p212 q212
            cases e212
            have HR212_0 := Aside0.mk hi212_0
            have HC212_0 := Aside0.mk hl212_0
            clear hi212_0 hl212_0
            replace p212 := eq_true p212
            replace q212 := eq_true q212
            go_wp2
            go_roundg k1
            case measure => have := HK1.out; omega
            case rel => exact ⟨(wrap64 (x5_1 + 1)), (by first | rfl | (simp; done) | (simp [*]; done)), H', ⟨by have := HK1.out; omega⟩, by repeat (first | exact Drawn0.refl _ | apply Drawn0.step)⟩
        · rw [if_neg c4] at H
          exact absurd H (by simp)
      · rw [if_neg c3] at H
        have c3b0 : decide (x5_1 < (l0.length : Int)) = false := decide_eq_false c3
        clear c3
        obtain rfl := Option.some.inj H
        go_wp2
        go_ret
        exact ⟨by first | rfl | (simp; done) | (simp [*]; done), by repeat (first | exact Drawn0.refl _ | apply Drawn0.step)⟩
end Go.Proofs.Ytpkghpljgjlmjaa.K
/- The field of 256 elements on bytes: the product bit by bit, its laws, inverses. No program in sight. -/
namespace Kin
theorem bx_zero (a : B) : a ^^^ 0 = a := UInt8.xor_zero
theorem bx_cancel_right (a b : B) : a ^^^ b ^^^ b = a := by rw [bx_assoc, bx_self, bx_zero]
theorem bx_eq_zero {a b : B} : a ^^^ b = 0 ↔ a = b := by
  constructor
  · intro h
    have : a ^^^ b ^^^ b = 0 ^^^ b := by rw [h]
    rwa [bx_cancel_right, zero_bx] at this
  · rintro rfl
    exact bx_self a
theorem gmul_left_comm (a b c : B) : gmul a (gmul b c) = gmul b (gmul a c) := by rw [← gmul_assoc, gmul_comm a b, gmul_assoc]
theorem gmul_eq_zero {a b : B} : gmul a b = 0 ↔ a = 0 ∨ b = 0 := by
  constructor
  · intro h
    by_cases ha : a = 0
    · exact .inl ha
    · right
      have : gmul (ginv a) (gmul a b) = gmul (ginv a) 0 := by rw [h]
      rwa [← gmul_assoc, ginv_gmul a ha, one_gmul, gmul_zero] at this
  · rintro (rfl | rfl)
    · exact zero_gmul b
    · exact gmul_zero a
theorem gmul_ne_zero {a b : B} (ha : a ≠ 0) (hb : b ≠ 0) : gmul a b ≠ 0 := fun h => (gmul_eq_zero.1 h).elim ha hb
end Kin
/- The printed functions of the field (Add, double, Mul, raise, Inv) compute what Gf.lean defines. -/
namespace Go.Proofs.Ytpkghpljgjlmjaa.K
open Go.RowKit Go.Proofs.YtpkghpljgjlmjaaW.PrintWords Kin
set_option linter.unusedVariables false
theorem up2_append (a b : List (List B)) : up2 (a ++ b) = up2 a ++ up2 b := by simp [up2]
end Go.Proofs.Ytpkghpljgjlmjaa.K
-- Lines of this claim, written by the session's own program kprint.py (it runs print.py).
namespace Go.Proofs.Ytpkghpljgjlmjaa.K
open Go.RowKit Go.Proofs.YtpkghpljgjlmjaaW.PrintWords Go.Proofs.YtpkghpljgjlmjaaW.PrintLast Go.Proofs.YtpkghpljgjlmjaaW.PrintMore
attribute [local go_sem] max2_int min2_int max_two min_two max_three min_three max_four min_four   -- for this text's walks alone
set_option linter.unusedVariables false
set_option linter.unusedSimpArgs false
set_option maxHeartbeats 8000000 in
set_option maxRecDepth 100000 in
theorem kinkeepref04_Valid.calls (k : Nat) (A0 : Option Addr) (c0 : Nat) (l0 : List (List Int)) (r : Bool) (w : World) (hr0 : Kd.C (Kd.slice 5 (Kd.int .u8)) w A0 l0.length l0) (hc0 : l0.length ≤ c0) (h : kinkeepref04_Valid.f k l0 = some r) :
    Calls Try.prog 18 #[.slice A0 l0.length c0] w fun e w' => e = .returned (.bool r) ∧ Drawn0 w w' := by
  have HR0 := Aside0.mk hr0
  have HC0 := Aside0.mk hc0
  clear hr0 hc0
  have H : (if (l0.length : Int) > 64 then (some false) else (kinkeepref04_Valid.l0 k l0 0)) = some r := h
  clear h
  by_cases c2 : (l0.length : Int) > 64
  · rw [if_pos c2] at H
    have c2b0 : decide (64 < (l0.length : Int)) = true := decide_eq_true c2
    have c2b1 : decide (64 < l0.length) = true := decide_eq_true (by omega)
    clear c2
    obtain rfl := Option.some.inj H
    go_enter Try.func18, Try.ntmps18
    go_wp2
    repeat (go_quiet (fail); try go_wp2)
    go_ret
    exact ⟨by first | rfl | (simp; done) | (simp [*]; done), by repeat (first | exact Drawn0.refl _ | apply Drawn0.step)⟩
  · rw [if_neg c2] at H
    have c2b0 : decide (64 < (l0.length : Int)) = false := decide_eq_false c2
    have c2b1 : decide (64 < l0.length) = false := decide_eq_false (by omega)
    clear c2
    have H' := Aside0.mk H
    clear H
    go_enter Try.func18, Try.ntmps18
    go_wp2
    repeat (go_quiet (fail); try go_wp2)
    go_loopg [3] k (fun kq v3 w' => ∃ (x3_1 : Int), v3 = .int .i64 x3_1 ∧ Aside0 (kinkeepref04_Valid.l0 kq l0 x3_1 = some r) ∧ Aside0 (kq ≤ k) ∧ Drawn0 w w')
    case atStart => exact ⟨(0), (by first | rfl | (simp; done) | (simp [*]; done)), H', ⟨Nat.le_refl _⟩, by repeat (first | exact Drawn0.refl _ | apply Drawn0.step)⟩
    case round =>
      clear H'; (try clear c1); (try clear c2); (try clear c2b0); (try clear c2b1); (try clear p2)
      obtain ⟨x3_1, rfl, HA, HK1, ⟨m1, rfl⟩⟩ := hrel
      cases gk with
      | zero => exact absurd HA.out (by simp [kinkeepref04_Valid.l0])
      | succ k1 =>
        have H := HA.out
        clear HA
        simp only [kinkeepref04_Valid.l0] at H
        by_cases c3 : x3_1 < (l0.length : Int)
        · rw [if_pos c3] at H
          have c3b0 : decide (x3_1 < (l0.length : Int)) = true := decide_eq_true c3
          clear c3
          by_cases c4 : 0 ≤ x3_1
          · rw [if_pos c4] at H
            have c4b0 : decide (0 ≤ x3_1) = true := decide_eq_true c4
            clear c4
            by_cases c5 : 0 < (l0.length : Int)
            · rw [if_pos c5] at H
              have c5b0 : decide (0 < (l0.length : Int)) = true := decide_eq_true c5
              have c5b1 : decide (0 < l0.length) = true := decide_eq_true (by omega)
              clear c5
              by_cases c6 : ((rd_L1 l0 x3_1).length : Int) = ((rd_L1 l0 0).length : Int)
              · rw [if_pos c6] at H
                have c6b0 : (((rd_L1 l0 x3_1).length : Int) == ((rd_L1 l0 0).length : Int)) = true := beq_iff_eq.mpr c6
                have c6b1 : (((rd_L1 l0 x3_1).length : Int) != ((rd_L1 l0 0).length : Int)) = false := bne_eq_false_iff_eq.mpr c6
                have c6b2 : ((rd_L1 l0 x3_1).length == (rd_L1 l0 0).length) = true := by first | simpa using c6 | (simp at c6 ⊢; omega)
                clear c6
                by_cases c7 : ((rd_L1 l0 x3_1).length : Int) > 64
                · rw [if_pos c7] at H
                  have c7b0 : decide (64 < ((rd_L1 l0 x3_1).length : Int)) = true := decide_eq_true c7
                  have c7b1 : decide (64 < (rd_L1 l0 x3_1).length) = true := decide_eq_true (by omega)
                  clear c7
                  obtain rfl := Option.some.inj H
                  have p128 : 0 ≤ (x3_1 : Int) := of_decide_eq_true (by first | (with_reducible assumption) | assumption)
                  have q128 : x3_1 < (l0.length : Int) := of_decide_eq_true (by first | (with_reducible assumption) | assumption)
                  obtain ⟨ad128, A128_0, c128_0, e128, hx128_0, hl128_0, hi128_0⟩ := at_L1 HR0.out x3_1 p128 q128
                  cases e128
                  have HR128_0 := Aside0.mk hi128_0
                  have HC128_0 := Aside0.mk hl128_0
                  clear hi128_0 hl128_0
                  replace p128 := eq_true p128
                  replace q128 := eq_true q128
                  have p129 : 0 ≤ (0 : Int) := (by omega)
                  have q129 : 0 < (l0.length : Int) := of_decide_eq_true (by first | (with_reducible assumption) | assumption)
                  obtain ⟨ad129, A129_0, c129_0, e129, hx129_0, hl129_0, hi129_0⟩ := at_L1 HR0.out 0 p129 q129
                  obtain rfl : ad128 = ad129 := (by injection e129)
                  have qi129 : (0 < l0.length) = True := eq_true (by omega)
                  (try rw [show ((0 : Int)).toNat = 0 from rfl] at hx129_0)
                  (try rw [Addr.add_zero'] at hx129_0)
                  have HR129_0 := Aside0.mk hi129_0
                  have HC129_0 := Aside0.mk hl129_0
                  clear hi129_0 hl129_0
                  replace p129 := eq_true p129
                  replace q129 := eq_true q129
                  have p130 : 0 ≤ (x3_1 : Int) := of_decide_eq_true (by first | (with_reducible assumption) | assumption)
                  have q130 : x3_1 < (l0.length : Int) := of_decide_eq_true (by first | (with_reducible assumption) | assumption)
                  obtain ⟨ad130, A130_0, c130_0, e130, hx130_0, hl130_0, hi130_0⟩ := at_L1 HR0.out x3_1 p130 q130
                  obtain rfl : ad128 = ad130 := (by injection e130)
                  have HR130_0 := Aside0.mk hi130_0
                  have HC130_0 := Aside0.mk hl130_0
                  clear hi130_0 hl130_0
                  replace p130 := eq_true p130
                  replace q130 := eq_true q130
                  have ea_ := Option.some.inj (hx128_0.symm.trans hx130_0)
                  injection ea_ with ea_ en_ ec_
                  subst ea_
                  subst ec_
                  clear en_
                  go_wp2
                  repeat (go_quiet (fail); try go_wp2)
                  go_ret
                  exact ⟨by first | rfl | (simp; done) | (simp [*]; done), by repeat (first | exact Drawn0.refl _ | apply Drawn0.step)⟩
                · rw [if_neg c7] at H
                  have c7b0 : decide (64 < ((rd_L1 l0 x3_1).length : Int)) = false := decide_eq_false c7
                  have c7b1 : decide (64 < (rd_L1 l0 x3_1).length) = false := decide_eq_false (by omega)
                  clear c7
                  have H' := Aside0.mk H
                  clear H
                  have p128 : 0 ≤ (x3_1 : Int) := of_decide_eq_true (by first | (with_reducible assumption) | assumption)
                  have q128 : x3_1 < (l0.length : Int) := of_decide_eq_true (by first | (with_reducible assumption) | assumption)
                  obtain ⟨ad128, A128_0, c128_0, e128, hx128_0, hl128_0, hi128_0⟩ := at_L1 HR0.out x3_1 p128 q128
                  cases e128
                  have HR128_0 := Aside0.mk hi128_0
                  have HC128_0 := Aside0.mk hl128_0
                  clear hi128_0 hl128_0
                  replace p128 := eq_true p128
                  replace q128 := eq_true q128
                  have p129 : 0 ≤ (0 : Int) := (by omega)
                  have q129 : 0 < (l0.length : Int) := of_decide_eq_true (by first | (with_reducible assumption) | assumption)
                  obtain ⟨ad129, A129_0, c129_0, e129, hx129_0, hl129_0, hi129_0⟩ := at_L1 HR0.out 0 p129 q129
                  obtain rfl : ad128 = ad129 := (by injection e129)
                  have qi129 : (0 < l0.length) = True := eq_true (by omega)
                  (try rw [show ((0 : Int)).toNat = 0 from rfl] at hx129_0)
                  (try rw [Addr.add_zero'] at hx129_0)
                  have HR129_0 := Aside0.mk hi129_0
                  have HC129_0 := Aside0.mk hl129_0
                  clear hi129_0 hl129_0
                  replace p129 := eq_true p129
                  replace q129 := eq_true q129
                  have p130 : 0 ≤ (x3_1 : Int) := of_decide_eq_true (by first | (with_reducible assumption) | assumption)
                  have q130 : x3_1 < (l0.length : Int) := of_decide_eq_true (by first | (with_reducible assumption) | assumption)
                  obtain ⟨ad130, A130_0, c130_0, e130, hx130_0, hl130_0, hi130_0⟩ := at_L1 HR0.out x3_1 p130 q130
                  obtain rfl : ad128 = ad130 := (by injection e130)
                  have HR130_0 := Aside0.mk hi130_0
                  have HC130_0 := Aside0.mk hl130_0
                  clear hi130_0 hl130_0
                  replace p130 := eq_true p130
                  replace q130 := eq_true q130
                  have ea_ := Option.some.inj (hx128_0.symm.trans hx130_0)
                  injection ea_ with ea_ en_ ec_
                  subst ea_
                  subst ec_
                  clear en_
                  go_wp2
                  repeat (go_quiet (fail); try go_wp2)
                  go_roundg k1
                  case measure => have := HK1.out; omega
                  case rel => exact ⟨(wrap64 (x3_1 + 1)), (by first | rfl | (simp; done) | (simp [*]; done)), H', ⟨by have := HK1.out; omega⟩, by repeat (first | exact Drawn0.refl _ | apply Drawn0.step)⟩
              · rw [if_neg c6] at H
                have c6b0 : (((rd_L1 l0 x3_1).length : Int) == ((rd_L1 l0 0).length : Int)) = false := beq_eq_false_iff_ne.mpr c6
                have c6b1 : (((rd_L1 l0 x3_1).length : Int) != ((rd_L1 l0 0).length : Int)) = true := bne_iff_ne.mpr c6
                have c6b2 : ((rd_L1 l0 x3_1).length == (rd_L1 l0 0).length) = false := by first | simpa using c6 | (simp at c6 ⊢; omega)
                obtain rfl := Option.some.inj H
                have p128 : 0 ≤ (x3_1 : Int) := of_decide_eq_true (by first | (with_reducible assumption) | assumption)
                have q128 : x3_1 < (l0.length : Int) := of_decide_eq_true (by first | (with_reducible assumption) | assumption)
                obtain ⟨ad128, A128_0, c128_0, e128, hx128_0, hl128_0, hi128_0⟩ := at_L1 HR0.out x3_1 p128 q128
                cases e128
                have HR128_0 := Aside0.mk hi128_0
                have HC128_0 := Aside0.mk hl128_0
                clear hi128_0 hl128_0
                replace p128 := eq_true p128
                replace q128 := eq_true q128
                have p129 : 0 ≤ (0 : Int) := (by omega)
                have q129 : 0 < (l0.length : Int) := of_decide_eq_true (by first | (with_reducible assumption) | assumption)
                obtain ⟨ad129, A129_0, c129_0, e129, hx129_0, hl129_0, hi129_0⟩ := at_L1 HR0.out 0 p129 q129
                obtain rfl : ad128 = ad129 := (by injection e129)
                have qi129 : (0 < l0.length) = True := eq_true (by omega)
                (try rw [show ((0 : Int)).toNat = 0 from rfl] at hx129_0)
                (try rw [Addr.add_zero'] at hx129_0)
                have HR129_0 := Aside0.mk hi129_0
                have HC129_0 := Aside0.mk hl129_0
                clear hi129_0 hl129_0
                replace p129 := eq_true p129
                replace q129 := eq_true q129
                go_wp2
                repeat (go_quiet (fail); try go_wp2)
                go_ret
                exact ⟨by first | rfl | (simp; done) | (simp [*]; done), by repeat (first | exact Drawn0.refl _ | apply Drawn0.step)⟩
            · rw [if_neg c5] at H
              exact absurd H (by simp)
          · rw [if_neg c4] at H
            exact absurd H (by simp)
        · rw [if_neg c3] at H
          have c3b0 : decide (x3_1 < (l0.length : Int)) = false := decide_eq_false c3
          clear c3
          obtain rfl := Option.some.inj H
          go_wp2
          repeat (go_quiet (fail); try go_wp2)
          go_ret
          exact ⟨by first | rfl | (simp; done) | (simp [*]; done), by repeat (first | exact Drawn0.refl _ | apply Drawn0.step)⟩
set_option maxHeartbeats 8000000 in
set_option maxRecDepth 100000 in
theorem kinkeepref04_Cols.calls (A0 : Option Addr) (c0 : Nat) (l0 : List (List Int)) (r : Int) (w : World) (hr0 : Kd.C (Kd.slice 5 (Kd.int .u8)) w A0 l0.length l0) (hc0 : l0.length ≤ c0) (h : kinkeepref04_Cols.f l0 = some r) :
    Calls Try.prog 21 #[.slice A0 l0.length c0] w fun e w' => e = .returned (.int .i64 r) ∧ Drawn0 w w' := by
  have HR0 := Aside0.mk hr0
  have HC0 := Aside0.mk hc0
  clear hr0 hc0
  have H : (if (l0.length : Int) = 0 then (some 0) else (if 0 < (l0.length : Int) then (some ((rd_L1 l0 0).length : Int)) else (none))) = some r := h
  clear h
  by_cases c2 : (l0.length : Int) = 0
  · rw [if_pos c2] at H
    have c2b0 : ((l0.length : Int) == 0) = true := beq_iff_eq.mpr c2
    have c2b1 : ((l0.length : Int) != 0) = false := bne_eq_false_iff_eq.mpr c2
    clear c2
    obtain rfl := Option.some.inj H
    go_enter Try.func21, Try.ntmps21
    go_wp2
    go_ret
    exact ⟨by first | rfl | (simp; done) | (simp [*]; done), by repeat (first | exact Drawn0.refl _ | apply Drawn0.step)⟩
  · rw [if_neg c2] at H
    have c2b0 : ((l0.length : Int) == 0) = false := beq_eq_false_iff_ne.mpr c2
    have c2b1 : ((l0.length : Int) != 0) = true := bne_iff_ne.mpr c2
    have c2b2 : ¬ (l0 = []) := fun h_ => c2 (by rw [h_]; rfl)
    by_cases c3 : 0 < (l0.length : Int)
    · rw [if_pos c3] at H
      have c3b0 : decide (0 < (l0.length : Int)) = true := decide_eq_true c3
      have c3b1 : decide (0 < l0.length) = true := decide_eq_true (by omega)
      clear c3
      obtain rfl := Option.some.inj H
      have p131 : 0 ≤ (0 : Int) := (by omega)
      have q131 : 0 < (l0.length : Int) := of_decide_eq_true (by first | (with_reducible assumption) | assumption)
      obtain ⟨ad131, A131_0, c131_0, e131, hx131_0, hl131_0, hi131_0⟩ := at_L1 HR0.out 0 p131 q131
      cases e131
      have qi131 : (0 < l0.length) = True := eq_true (by omega)
      (try rw [show ((0 : Int)).toNat = 0 from rfl] at hx131_0)
      (try rw [Addr.add_zero'] at hx131_0)
      have HR131_0 := Aside0.mk hi131_0
      have HC131_0 := Aside0.mk hl131_0
      clear hi131_0 hl131_0
      replace p131 := eq_true p131
      replace q131 := eq_true q131
      go_enter Try.func21, Try.ntmps21
      go_wp2
      go_ret
      exact ⟨by first | rfl | (simp; done) | (simp [*]; done), by repeat (first | exact Drawn0.refl _ | apply Drawn0.step)⟩
    · rw [if_neg c3] at H
      exact absurd H (by simp)
set_option maxHeartbeats 8000000 in
set_option maxRecDepth 100000 in
theorem kinkeepref04_Zero.calls (k : Nat) (a0 : Int) (a1 : Int) (r : List (List Int)) (w : World) (h : kinkeepref04_Zero.f k a0 a1 = some r) :
    Calls Try.prog 26 #[.int .i64 a0, .int .i64 a1] w fun e w' => ∃ v0_ : Value, e = .returned (v0_) ∧ Kd.S (Kd.slice 5 (Kd.int .u8)) 34 w' w.heap.size (fun _ => True) v0_ r ∧ Below w.heap.size w w' := by
  have HB := Aside0.mk (Below.refl w.heap.size w)
  have H : (kinkeepref04_Zero.l0 k a0 a1 (([] : List (List Int))) 0) = some r := h
  clear h
  obtain ⟨y132, hy132⟩ : ∃ y_ : List (List Int), y_ = (([] : List (List Int))) := ⟨_, rfl⟩
  replace H : (kinkeepref04_Zero.l0 k a0 a1 y132 0) = some r := by first | (rw [hy132]; with_reducible exact H) | (have H2_ := (Option.bind_some _ _).symm.trans H; rw [hy132]; with_reducible exact H2_) | (have H2_ := (Option.bind_some _ _).symm.trans H; with_reducible exact H2_) | with_reducible exact H | (rw [hy132]; exact H) | exact H
  have Ny132 := Aside0.mk hy132
  clear hy132
  have H' := Aside0.mk H
  clear H
  go_enter Try.func26, Try.ntmps26
  go_wp2_with (first | ((with_reducible refine gate_dst (N := 7) rfl ?_); refine Kd.S_lit (Kd.slice 5 (Kd.int .u8)) _ 34 ?hg (N := 7) ?hd (xs := ([] : List (List Int))) (inner := []) (ok := fun _ => True) (okp := fun _ => True) ?hr ?hp (fun _ hk => hk) trivial (Below.refl _ _) (Nat.le_refl _) (by simp) ?_; (case hd => rfl); (case hg => rfl); (case hr => first | (go_simp; done) | (go_simp; rfl)); (case hp => exact (Reps.none _ _)); intro v133 w3 ho4 hb hg_ hnew_; clear hg_ hnew_; (first | rw [← Ny132.out] at ho4 | (simp only [Int.reduceToNat] at ho4; rw [← Ny132.out] at ho4)); have n0_ := Aside0.mk (Kd.S_lower ho4 (below_size (by repeat (first | (with_reducible first | exact HB.out | apply below_alloc | apply pw_below_drewN | apply below_drew1) | exact HB.out)))); have n1_ := Aside0.mk (below_step (by repeat (first | (with_reducible first | exact HB.out | apply below_alloc | apply pw_below_drewN | apply below_drew1) | exact HB.out)) hb); clear HB; have HO134 := n0_; have HB := n1_; clear n0_ n1_; clear hb ho4))
  go_loopg [5, 6] k (fun kq v5 v6 w' => ∃ (x5_1 : List (List Int)) (x6_1 : Int), v6 = .int .i64 x6_1 ∧ Aside0 (kinkeepref04_Zero.l0 kq a0 a1 x5_1 x6_1 = some r) ∧ Aside0 (kq ≤ k) ∧ Aside0 (Kd.S (Kd.slice 5 (Kd.int .u8)) 34 w' w.heap.size (fun _ => True) v5 x5_1) ∧ Aside0 (Below w.heap.size w w'))
  case atStart => exact ⟨(y132), (0), (by first | rfl | (simp; done) | (simp [*]; done)), H', ⟨Nat.le_refl _⟩, ⟨by (with_reducible repeat (first | apply Kd.S_alloc | apply Kd.S_drewN | apply Kd.S_drew)); exact HO134.out⟩, ⟨by repeat (first | (with_reducible first | exact HB.out | apply below_alloc | apply pw_below_drewN | apply below_drew1) | exact HB.out)⟩⟩
  case round =>
    clear H'; (try clear c2); (try clear p2)
    obtain ⟨x5_1, x6_1, rfl, HA, HK1, HO_5, HB⟩ := hrel
    cases gk with
    | zero => exact absurd HA.out (by simp [kinkeepref04_Zero.l0])
    | succ k1 =>
      have H := HA.out
      clear HA
      simp only [kinkeepref04_Zero.l0] at H
      by_cases c5 : x6_1 < a0
      · rw [if_pos c5] at H
        have c5b0 : decide (x6_1 < a0) = true := decide_eq_true c5
        clear c5
        by_cases c6 : 0 ≤ a1
        · rw [if_pos c6] at H
          have c6b0 := eq_true c6
          have c6b1 : decide (0 ≤ a1) = true := decide_eq_true c6
          clear c6
          by_cases c7 : (a1 : Int).toNat ≤ 281474976710656
          · rw [if_pos c7] at H
            have c7b0 := eq_true c7
            have c7b1 : decide ((a1 : Int).toNat ≤ 281474976710656) = true := decide_eq_true c7
            clear c7
            obtain ⟨y135, hy135⟩ : ∃ y_ : List Int, y_ = (List.replicate (a1 : Int).toNat 0) := ⟨_, rfl⟩
            replace H : (if x5_1.length < 5864062014805 then (kinkeepref04_Zero.l0 k1 a0 a1 (x5_1 ++ [y135]) (wrap64 (x6_1 + 1))) else (none)) = some r := by first | (rw [hy135]; with_reducible exact H) | (have H2_ := (Option.bind_some _ _).symm.trans H; rw [hy135]; with_reducible exact H2_) | (have H2_ := (Option.bind_some _ _).symm.trans H; with_reducible exact H2_) | with_reducible exact H | (rw [hy135]; exact H) | exact H
            have Ny135 := Aside0.mk hy135
            clear hy135
            by_cases c8 : x5_1.length < 5864062014805
            · rw [if_pos c8] at H
              have LMc8 := Aside0.mk c8
              clear c8
              obtain ⟨y138, hy138⟩ : ∃ y_ : List (List Int), y_ = (x5_1 ++ [y135]) := ⟨_, rfl⟩
              replace H : (kinkeepref04_Zero.l0 k1 a0 a1 y138 (wrap64 (x6_1 + 1))) = some r := by first | (rw [hy138]; with_reducible exact H) | (have H2_ := (Option.bind_some _ _).symm.trans H; rw [hy138]; with_reducible exact H2_) | (have H2_ := (Option.bind_some _ _).symm.trans H; with_reducible exact H2_) | with_reducible exact H | (rw [hy138]; exact H) | exact H
              have Ny138 := Aside0.mk hy138
              clear hy138
              have H' := Aside0.mk H
              clear H
              go_wp2_with (first | ((with_reducible refine gate_dst (N := 15) rfl ?_); refine Kd.R_make (Kd.int .u8) _ 5 rfl (N := 15) rfl 34 _ _ rfl a1 rfl rfl Try.underlying34 (.int .u8 0) 1 info5 rfl (by decide) (by omega) 0 (ok := fun _ => True) (okp := fun _ => True) rfl (fun _ hk => hk) trivial (of_decide_eq_true (by first | (with_reducible assumption) | assumption)) (Nat.le_trans (Nat.mul_le_mul_right _ (of_decide_eq_true (by first | (with_reducible assumption) | assumption) : a1.toNat ≤ 281474976710656)) (by omega)) (Below.refl _ _) (Nat.le_refl _) ?_; intro v136 w9 ho10 hb hg_ hnew_; clear hg_ hnew_; (first | rw [← Ny135.out] at ho10 | (simp only [Int.reduceToNat] at ho10; rw [← Ny135.out] at ho10)); have n0_ := Aside0.mk (Kd.S_elder' (by (with_reducible repeat (first | apply Kd.S_alloc | apply Kd.S_drewN | apply Kd.S_drew)); exact HO_5.out) (Kd.R_base ho10) hb); have n1_ := Aside0.mk (Kd.R_lower ho10 (below_size (by repeat (first | (with_reducible first | exact HB.out | apply below_alloc | apply pw_below_drewN | apply below_drew1) | exact HB.out)))); have n2_ := Aside0.mk (below_step (by repeat (first | (with_reducible first | exact HB.out | apply below_alloc | apply pw_below_drewN | apply below_drew1) | exact HB.out)) hb); clear HO_5; clear HB; have HO_5 := n0_; have HO137 := n1_; have HB := n2_; clear n0_ n1_ n2_; clear hb ho10; obtain ⟨Ao12, co12, eo12⟩ := Kd.R_slice HO137.out; subst eo12) | ((with_reducible refine gate_builtin (b := .append) (xs := #[.tmp 13, .tmp 16]) rfl ?_); at_builtin; refine Kd.S_append (Kd.slice 5 (Kd.int .u8)) (w0 := w) w.heap.size rfl (.tmp 13) (.tmp 16) 22 34 (.slice none 0 0) 24 rfl Try.underlying22 info34 rfl (by decide) (by omega) u5 x5_1 y135 [.slice Ao12 y135.length co12] (fun _ => True) (fun k_ => some k_ = (.slice Ao12 y135.length co12 : Value).ownBlock) rfl rfl ?aP (fun k_ hk_ => ((Kd.R_mono (ok' := fun k_ => ((fun _ => True)) k_ ∧ some k_ ≠ (u5 : Value).ownBlock) (Kd.R_apart' (HO137.out) (Kd.S_typed HO_5.out) (by decide)) (fun k_ hk => ⟨trivial, hk.2⟩))).1 k_ hk_.symm) ?aF ?aO ?aB ?aS ?aL ?_; (case aP => exact Kd.M_row (Kd.R_mono (Kd.R_tight rfl (Kd.R_mono (ok' := fun k_ => ((fun _ => True)) k_ ∧ some k_ ≠ (u5 : Value).ownBlock) (Kd.R_apart' (HO137.out) (Kd.S_typed HO_5.out) (by decide)) (fun k_ hk => ⟨trivial, hk.2⟩))) (fun _ h_ => h_))); (case aB => exact (by repeat (first | (with_reducible first | exact HB.out | apply below_alloc | apply pw_below_drewN | apply below_drew1) | exact HB.out))); (case aF => exact (fun _ _ => trivial)); (case aO => exact (by (with_reducible repeat (first | apply Kd.S_alloc | apply Kd.S_drewN | apply Kd.S_drew)); exact Kd.S_mono HO_5.out (fun k_ hk => ⟨trivial, fun e_ => hk.2 e_⟩))); (case aS => exact (below_size (by repeat (first | (with_reducible first | exact HB.out | apply below_alloc | apply pw_below_drewN | apply below_drew1) | exact HB.out)))); (case aL => have := LMc8.out; omega); intro v139 w11 ho hb hg hat; rw [← Ny138.out] at ho; have n0_ := Aside0.mk (hb); have n1_ := Aside0.mk (ho); clear HB; clear HO_5; clear HO137; have HB := n0_; have HO140 := n1_; clear n0_ n1_; clear ho hb hg hat))
              go_roundg k1
              case measure => have := HK1.out; omega
              case rel => exact ⟨(y138), (wrap64 (x6_1 + 1)), (by first | rfl | (simp; done) | (simp [*]; done)), H', ⟨by have := HK1.out; omega⟩, ⟨by (with_reducible repeat (first | apply Kd.S_alloc | apply Kd.S_drewN | apply Kd.S_drew)); exact HO140.out⟩, ⟨by repeat (first | (with_reducible first | exact HB.out | apply below_alloc | apply pw_below_drewN | apply below_drew1) | exact HB.out)⟩⟩
            · rw [if_neg c8] at H
              exact absurd H (by simp)
          · rw [if_neg c7] at H
            exact absurd H (by simp)
        · rw [if_neg c6] at H
          exact absurd H (by simp)
      · rw [if_neg c5] at H
        have c5b0 : decide (x6_1 < a0) = false := decide_eq_false c5
        clear c5
        obtain rfl := Option.some.inj H
        go_wp2
        go_ret
        exact ⟨_, by first | rfl | (simp [errW_none, errW_some] <;> rfl) | (simp [*, errW_none, errW_some] <;> rfl), by (with_reducible repeat (first | apply Kd.S_alloc | apply Kd.S_drewN | apply Kd.S_drew)); exact HO_5.out, by repeat (first | (with_reducible first | exact HB.out | apply below_alloc | apply pw_below_drewN | apply below_drew1) | exact HB.out)⟩
end Go.Proofs.Ytpkghpljgjlmjaa.K
-- Lines of this claim, written by the session's own program kprint.py (it runs print.py).
namespace Go.Proofs.Ytpkghpljgjlmjaa.K
open Go.RowKit Go.Proofs.YtpkghpljgjlmjaaW.PrintWords Go.Proofs.YtpkghpljgjlmjaaW.PrintLast Go.Proofs.YtpkghpljgjlmjaaW.PrintMore
attribute [local go_sem] max2_int min2_int max_two min_two max_three min_three max_four min_four   -- for this text's walks alone
set_option linter.unusedVariables false
set_option linter.unusedSimpArgs false

/-! ### kinkeepref04_Transpose: function 47 -/
mutual
def kinkeepref04_Transpose.l0 : Nat → List (List Int) → List (List Int) → Int → Option ((List (List Int)))
  | 0, _, _, _ => none
  | k + 1, x0, x3, x4 => if x4 < (x0.length : Int) then (kinkeepref04_Transpose.l1 k x0 x3 x4 0) else (some x3)
def kinkeepref04_Transpose.l1 : Nat → List (List Int) → List (List Int) → Int → Int → Option ((List (List Int)))
  | 0, _, _, _, _ => none
  | k + 1, x0, x3, x4, x5 => if 0 ≤ x4 then (if x4 < (x0.length : Int) then (if x5 < ((rd_L1 x0 x4).length : Int) then (if 0 ≤ x5 then (if x5 < (x3.length : Int) then (if x4 < ((rd_L1 x3 x5).length : Int) then (kinkeepref04_Transpose.l1 k x0 (x3.set (x5 : Int).toNat ((rd_L1 x3 x5).set (x4 : Int).toNat (rd (rd_L1 x0 x4) x5))) x4 (wrap64 (x5 + 1))) else (none)) else (none)) else (none)) else (kinkeepref04_Transpose.l0 k x0 x3 (wrap64 (x4 + 1)))) else (none)) else (none)
end
def kinkeepref04_Transpose.f (k : Nat) (l0 : List (List Int)) : Option ((List (List Int))) := (kinkeepref04_Cols.f l0).bind fun t166 => ((kinkeepref04_Zero.f k t166 (l0.length : Int)).bind fun t167 => (kinkeepref04_Transpose.l0 k l0 t167 0))
def kinkeepref04_Transpose.T8 : Bool × List (List Nat × List Nat) := (true, [([], []), ([], []), ([0, 1], [0, 1]), ([2], [2]), ([], []), ([], []), ([], []), ([5, 6], [5, 6]), ([7], [7]), ([], []), ([8, 9], [8, 9]), ([10], [10]), ([3, 4, 0, 1, 2, 3, 4, 5, 6, 7, 8, 9, 10, 11], [3, 4]), ([12, 11, 0, 1, 2, 3, 4, 5, 6, 7, 8, 9, 10, 11], [11, 12])])
def kinkeepref04_Transpose.B8 : List Nat := [0, 0, 3, 7, 0, 0, 0, 96, 224, 0, 992, 2016, 4095, 8191]
theorem kinkeepref04_Transpose.tab8 : rtab .any (opsOf Try.f47 8) = kinkeepref04_Transpose.T8 := by kernel_rfl
theorem kinkeepref04_Transpose.bits8 : waitsOk kinkeepref04_Transpose.T8.2 kinkeepref04_Transpose.B8 = true := by kernel_rfl
set_option maxHeartbeats 8000000 in
set_option maxRecDepth 100000 in
theorem kinkeepref04_Transpose.calls (k : Nat) (A0 : Option Addr) (c0 : Nat) (l0 : List (List Int)) (r : List (List Int)) (w : World) (hr0 : Kd.C (Kd.slice 5 (Kd.int .u8)) w A0 l0.length l0) (hc0 : l0.length ≤ c0) (h : kinkeepref04_Transpose.f k l0 = some r) :
    Calls Try.prog 47 #[.slice A0 l0.length c0] w fun e w' => ∃ v0_ : Value, e = .returned (v0_) ∧ Kd.S (Kd.slice 5 (Kd.int .u8)) 34 w' w.heap.size (fun _ => True) v0_ r ∧ Below w.heap.size w w' := by
  have HR0 := Aside0.mk hr0
  have HC0 := Aside0.mk hc0
  clear hr0 hc0
  have HB := Aside0.mk (Below.refl w.heap.size w)
  have H : ((kinkeepref04_Cols.f l0).bind fun t166 => ((kinkeepref04_Zero.f k t166 (l0.length : Int)).bind fun t167 => (kinkeepref04_Transpose.l0 k l0 t167 0))) = some r := h
  clear h
  replace H := Option.bind_eq_some_iff.mp H
  obtain ⟨t166, A20, H⟩ := H
  replace H : ((kinkeepref04_Zero.f k t166 (l0.length : Int)).bind fun t167 => (kinkeepref04_Transpose.l0 k l0 t167 0)) = some r := H
  have A2 := Aside0.mk A20
  clear A20
  replace H := Option.bind_eq_some_iff.mp H
  obtain ⟨t167, A30, H⟩ := H
  replace H : (kinkeepref04_Transpose.l0 k l0 t167 0) = some r := H
  have A3 := Aside0.mk A30
  clear A30
  have H' := Aside0.mk H
  clear H
  go_enter Try.func47, Try.ntmps47
  go_wp2_with (first | ((with_reducible refine gate_callee (f := 21) rfl ?_); refine goesL_ (some 7) rfl rfl Try.func21 (by kernel_rfl) rfl #[.slice A0 l0.length c0] rfl (by (try simp only [List.map_toArray, List.map_cons, List.map_nil]); first | done | rfl | (simp only [List.length_drop, List.length_take]; rfl)) ?_; (with_reducible refine (kinkeepref04_Cols.calls _ _ l0 t166 _ ?side1 ?side2 A2.out).mono ?_); (case side1 => repeat (first | exact HR0.out | (with_reducible refine Kd.C_alloc ?_ _) | (with_reducible refine Kd.C_drewN ?_ _) | (with_reducible refine Kd.C_drew ?_))); (case side2 => exact HC0.out); rintro e w' ⟨rfl, ⟨nd, rfl⟩⟩; refine ⟨_, rfl, ?_⟩) | ((with_reducible refine gate_callee (f := 26) rfl ?_); refine goesL_ (some 10) rfl rfl Try.func26 (by kernel_rfl) rfl #[.int .i64 t166, .int .i64 (l0.length : Int)] rfl (by (try simp only [List.map_toArray, List.map_cons, List.map_nil]); first | done | rfl | (simp only [List.length_drop, List.length_take]; rfl)) ?_; (with_reducible refine (kinkeepref04_Zero.calls k t166 (l0.length : Int) t167 _ A3.out).mono ?_); rintro e w4 ⟨v168, rfl, ho0, hb⟩; refine ⟨_, rfl, ?_⟩; have n0_ := Aside0.mk (Kd.S_lower ho0 (below_size (by repeat (first | (with_reducible first | exact HB.out | apply below_alloc | apply pw_below_drewN | apply below_drew1) | exact HB.out)))); have n1_ := Aside0.mk (below_step (by repeat (first | (with_reducible first | exact HB.out | apply below_alloc | apply pw_below_drewN | apply below_drew1) | exact HB.out)) hb); clear HB; have HO169 := n0_; have HB := n1_; clear n0_ n1_; (try clear hb); (try clear hb2); (try clear hk); (try clear hi); (try clear ho0)))
  go_loopg [4] k (fun kq v4 w' => ∃ (x3_1 : List (List Int)) (x4_1 : Int), v4 = .int .i64 x4_1 ∧ Aside0 (kinkeepref04_Transpose.l0 kq l0 x3_1 x4_1 = some r) ∧ Aside0 (kq ≤ k) ∧ Aside0 (Kd.S (Kd.slice 5 (Kd.int .u8)) 34 w' w.heap.size (fun _ => True) v168 x3_1) ∧ Aside0 (Below w.heap.size w w'))
  case atStart => exact ⟨(t167), (0), (by first | rfl | (simp; done) | (simp [*]; done)), H', ⟨Nat.le_refl _⟩, ⟨by (with_reducible repeat (first | apply Kd.S_alloc | apply Kd.S_drewN | apply Kd.S_drew)); exact HO169.out⟩, ⟨by repeat (first | (with_reducible first | exact HB.out | apply below_alloc | apply pw_below_drewN | apply below_drew1) | exact HB.out)⟩⟩
  case round =>
    clear H'; (try clear c2); (try clear p2); (try clear c4)
    obtain ⟨x3_1, x4_1, rfl, HA, HK1, HO_3, HB⟩ := hrel
    cases gk with
    | zero => exact absurd HA.out (by simp [kinkeepref04_Transpose.l0])
    | succ k1 =>
      have H := HA.out
      clear HA
      simp only [kinkeepref04_Transpose.l0] at H
      by_cases c5 : x4_1 < (l0.length : Int)
      · rw [if_pos c5] at H
        have c5b0 : decide (x4_1 < (l0.length : Int)) = true := decide_eq_true c5
        clear c5
        have H' := Aside0.mk H
        clear H
        go_wp2
        go_loopg [5] k1 (fun kq v5 w' => ∃ (x3_2 : List (List Int)) (x5_2 : Int), v5 = .int .i64 x5_2 ∧ Aside0 (kinkeepref04_Transpose.l1 kq l0 x3_2 x4_1 x5_2 = some r) ∧ Aside0 (kq ≤ k1) ∧ Aside0 (Kd.S (Kd.slice 5 (Kd.int .u8)) 34 w' w.heap.size (fun _ => True) v168 x3_2) ∧ Aside0 (Below w.heap.size w w'))
        case atStart => exact ⟨(x3_1), (0), (by first | rfl | (simp; done) | (simp [*]; done)), H', ⟨Nat.le_refl _⟩, ⟨by (with_reducible repeat (first | apply Kd.S_alloc | apply Kd.S_drewN | apply Kd.S_drew)); exact HO_3.out⟩, ⟨by repeat (first | (with_reducible first | exact HB.out | apply below_alloc | apply pw_below_drewN | apply below_drew1) | exact HB.out)⟩⟩
        case round =>
          clear H'; (try clear c2); (try clear p2); (try clear c4); (try clear c5); (try clear c5b0); (try clear p2)
          obtain ⟨x3_2, x5_2, rfl, HA, HK2, HO_3, HB⟩ := hrel
          cases gk with
          | zero => exact absurd HA.out (by simp [kinkeepref04_Transpose.l1])
          | succ k2 =>
            have H := HA.out
            clear HA
            simp only [kinkeepref04_Transpose.l1] at H
            by_cases c6 : 0 ≤ x4_1
            · rw [if_pos c6] at H
              have c6b0 : decide (0 ≤ x4_1) = true := decide_eq_true c6
              clear c6
              by_cases c7 : x4_1 < (l0.length : Int)
              · rw [if_pos c7] at H
                have c7b0 : decide (x4_1 < (l0.length : Int)) = true := decide_eq_true c7
                clear c7
                by_cases c8 : x5_2 < ((rd_L1 l0 x4_1).length : Int)
                · rw [if_pos c8] at H
                  have c8b0 : decide (x5_2 < ((rd_L1 l0 x4_1).length : Int)) = true := decide_eq_true c8
                  clear c8
                  by_cases c9 : 0 ≤ x5_2
                  · rw [if_pos c9] at H
                    have c9b0 : decide (0 ≤ x5_2) = true := decide_eq_true c9
                    clear c9
                    by_cases c10 : x5_2 < (x3_2.length : Int)
                    · rw [if_pos c10] at H
                      have c10b0 : decide (x5_2 < (x3_2.length : Int)) = true := decide_eq_true c10
                      clear c10
                      by_cases c11 : x4_1 < ((rd_L1 x3_2 x5_2).length : Int)
                      · rw [if_pos c11] at H
                        have c11b0 : decide (x4_1 < ((rd_L1 x3_2 x5_2).length : Int)) = true := decide_eq_true c11
                        clear c11
                        obtain ⟨y174, hy174⟩ : ∃ y_ : List Int, y_ = ((rd_L1 x3_2 x5_2).set (x4_1 : Int).toNat (rd (rd_L1 l0 x4_1) x5_2)) := ⟨_, rfl⟩
                        replace H : (kinkeepref04_Transpose.l1 k2 l0 (x3_2.set (x5_2 : Int).toNat y174) x4_1 (wrap64 (x5_2 + 1))) = some r := by first | (rw [hy174]; with_reducible exact H) | (have H2_ := (Option.bind_some _ _).symm.trans H; rw [hy174]; with_reducible exact H2_) | (have H2_ := (Option.bind_some _ _).symm.trans H; with_reducible exact H2_) | with_reducible exact H | (rw [hy174]; exact H) | exact H
                        have Ny174 := Aside0.mk hy174
                        clear hy174
                        obtain ⟨y176, hy176⟩ : ∃ y_ : List (List Int), y_ = (x3_2.set (x5_2 : Int).toNat y174) := ⟨_, rfl⟩
                        replace H : (kinkeepref04_Transpose.l1 k2 l0 y176 x4_1 (wrap64 (x5_2 + 1))) = some r := by first | (rw [hy176]; with_reducible exact H) | (have H2_ := (Option.bind_some _ _).symm.trans H; rw [hy176]; with_reducible exact H2_) | (have H2_ := (Option.bind_some _ _).symm.trans H; with_reducible exact H2_) | with_reducible exact H | (rw [hy176]; exact H) | exact H
                        have Ny176 := Aside0.mk hy176
                        clear hy176
                        have H' := Aside0.mk H
                        clear H
                        have p170 : 0 ≤ (x4_1 : Int) := of_decide_eq_true (by first | (with_reducible assumption) | assumption)
                        have q170 : x4_1 < (l0.length : Int) := of_decide_eq_true (by first | (with_reducible assumption) | assumption)
                        obtain ⟨ad170, A170_0, c170_0, e170, hx170_0, hl170_0, hi170_0⟩ := at_L1 HR0.out x4_1 p170 q170
                        cases e170
                        replace hx170_0 := (HB.out.cell (World.block_lt_of_cell? w _ hx170_0)).trans hx170_0
                        have HR170_0 := Aside0.mk hi170_0
                        have HC170_0 := Aside0.mk hl170_0
                        clear hi170_0 hl170_0
                        replace p170 := eq_true p170
                        replace q170 := eq_true q170
                        try go_wp2
                        have n0_ := Aside0.mk (Kd.S_drew HO_3.out)
                        have n1_ := Aside0.mk (below_drew1 HB.out)
                        clear HO_3; clear HB
                        have HO_3 := n0_
                        have HB := n1_
                        clear n0_ n1_
                        obtain ⟨Ao14, co14, eo14⟩ := Kd.S_slice HO_3.out
                        (first | subst eo14 | (injection eo14 with f1_ f2_ f3_; have f4_ := f1_.symm; have f5_ := f3_.symm; clear f1_ f2_ f3_; subst f4_; subst f5_))
                        have p171 : 0 ≤ (x5_2 : Int) := of_decide_eq_true (by first | (with_reducible assumption) | assumption)
                        have q171 : x5_2 < (x3_2.length : Int) := of_decide_eq_true (by first | (with_reducible assumption) | assumption)
                        obtain ⟨ad171, A171_0, c171_0, e171, hx171_0, hl171_0, hi171_0⟩ := at_L1 (Kd.S_reads' HO_3.out).2.2 x5_2 p171 q171
                        cases e171
                        obtain ⟨ce171, hce171, hMe171, hcc171⟩ := Kd.S_get HO_3.out [] x5_2 p171 (by first | exact q171 | exact of_decide_eq_true (by first | (with_reducible assumption) | assumption) | (have e_ := (Kd.S_reads' HO_3.out).1; omega))
                        obtain ⟨ve171_0, rfl, ge171_0⟩ := hMe171
                        have hv171_0 := hcc171 0 _ rfl
                        rw [Nat.add_zero, show ((Kd.slice 5 (Kd.int .u8))).sz = 1 from rfl, Nat.mul_one] at hv171_0
                        replace hv171_0 := Option.some.inj (hv171_0.symm.trans hx171_0)
                        rw [hv171_0] at ge171_0
                        have HL171_0 := Aside0.mk (show Kd.R (Kd.int .u8) 5 _ _ _ _ (rd_L1 x3_2 x5_2) from ge171_0)
                        clear hv171_0 ge171_0
                        have HX171_0 := Aside0.mk hx171_0
                        clear hcc171 hce171
                        have HR171_0 := Aside0.mk hi171_0
                        have HC171_0 := Aside0.mk hl171_0
                        clear hi171_0 hl171_0
                        replace p171 := eq_true p171
                        replace q171 := eq_true q171
                        have p172 : 0 ≤ (x4_1 : Int) := of_decide_eq_true (by first | (with_reducible assumption) | assumption)
                        have q172 : x4_1 < (l0.length : Int) := of_decide_eq_true (by first | (with_reducible assumption) | assumption)
                        obtain ⟨ad172, A172_0, c172_0, e172, hx172_0, hl172_0, hi172_0⟩ := at_L1 HR0.out x4_1 p172 q172
                        have hw172_0 := hx172_0
                        obtain rfl : ad170 = ad172 := (by injection e172)
                        replace hx172_0 := (HB.out.cell (World.block_lt_of_cell? w _ hx172_0)).trans hx172_0
                        have HR172_0 := Aside0.mk hi172_0
                        have HC172_0 := Aside0.mk hl172_0
                        clear hi172_0 hl172_0
                        replace p172 := eq_true p172
                        replace q172 := eq_true q172
                        have p173 : 0 ≤ (x5_2 : Int) := of_decide_eq_true (by first | (with_reducible assumption) | assumption)
                        have q173 : x5_2 < ((rd_L1 l0 x4_1).length : Int) := of_decide_eq_true (by first | (with_reducible assumption) | assumption)
                        obtain ⟨ad173, e173, hx173_0⟩ := Kd.at_int HR172_0.out x5_2 p173 q173
                        have hw173_0 := hx173_0
                        cases e173
                        replace hx173_0 := (HB.out.cell (World.block_lt_of_cell? w _ hx173_0)).trans hx173_0
                        replace p173 := eq_true p173
                        replace q173 := eq_true q173
                        have p12 : 0 ≤ (x4_1 : Int) := of_decide_eq_true (by first | (with_reducible assumption) | assumption)
                        have q12 : (x4_1 : Int) < (((rd_L1 x3_2 x5_2).length : Int) : Int) := of_decide_eq_true (by first | (with_reducible assumption) | assumption)
                        obtain ⟨go12, co12, eo12, gb12, gl12, cl12, HG12⟩ := Kd.R_form HL171_0.out (by omega)
                        (first | cases eo12 | (injection eo12 with ea_ en_ ec_; (first | subst ea_ | (injection ea_ with ea_; subst ea_)); subst ec_; clear en_))
                        have GB12 := Aside0.mk gb12
                        have GG12 := Aside0.mk HG12
                        clear gb12 gl12 HG12
                        obtain ⟨hx12_0, hf12_0⟩ := Kd.R_celln 0 HL171_0.out (x4_1 : Int) p12 q12
                        replace p12 := eq_true p12
                        replace q12 := eq_true q12
                        have hq15 : (x5_2 : Int) < (x3_2.length : Int) := (by have h_ : (x5_2 : Int) < ((x3_2.length : Int) : Int) := of_decide_eq_true (by first | (with_reducible assumption) | assumption); first | exact h_ | (have e_ := (Kd.S_reads' HO_3.out).1; omega) | simpa only [List.length_set, List.length_set] using h_)
                        obtain ⟨oki15, ce15, hcl15, hM15, hcc15, hok15, hbk15⟩ := Kd.S_borrow HO_3.out [] (x5_2 : Int) (of_decide_eq_true (by first | (with_reducible assumption) | assumption)) hq15
                        obtain ⟨ve15_0, rfl, ge15_0⟩ := hM15
                        have hv15 := hcc15 0 _ rfl
                        rw [Nat.add_zero, show ((Kd.slice 5 (Kd.int .u8))).sz = 1 from rfl, Nat.mul_one] at hv15
                        replace hv15 := Option.some.inj (hv15.symm.trans HX171_0.out)
                        subst hv15
                        clear hcc15 hcl15
                        replace ge15_0 := (show Kd.R (Kd.int .u8) 5 _ _ _ _ (rd_L1 x3_2 x5_2) from ge15_0)
                        have HP15 := Kd.R_putg ge15_0 (x4_1 : Int) (rd (rd_L1 l0 x4_1) x5_2)
                        rw [← Ny174.out] at HP15
                        have HS15 := hbk15 HP15.2 (fun k_ e_ => by injection e_ with e_; subst e_; exact ge15_0.1 _ rfl) (x' := y174) (Kd.M_row HP15.1)
                        rw [← Ny176.out] at HS15
                        have HQ15 := Aside0.mk HS15
                        clear HP15 HS15 hbk15 hok15
                        refine start_ (n := 14) (S := fun w' => w'.cell? (ad171.add (x5_2).toNat) = some (.slice (some ⟨go12, 0, none⟩) (rd_L1 x3_2 x5_2).length c171_0) ∧ w'.cell? (ad170.add (x4_1).toNat) = some (.slice (some ad173) (rd_L1 l0 x4_1).length c172_0) ∧ w'.cell? (ad173.add (x5_2).toNat) = some (.int .u8 (rd (rd_L1 l0 x4_1) x5_2))) (ds := [13]) #[false, false, false, false, false, false, false, false, false, false, false, false, false, false] (by kernel_rfl) rfl rfl ⟨hx171_0, ((HB.out.cell (World.block_lt_of_cell? w _ hw172_0)).trans hw172_0), ((HB.out.cell (World.block_lt_of_cell? w _ hw173_0)).trans hw173_0)⟩ (fun hHeld => ?_); refine with_tabW kinkeepref04_Transpose.tab8 kinkeepref04_Transpose.bits8 (fun HT_ HW_ => ?_)
                        generalize wr.drew = w13 at HO_3 HB GG12 HL171_0 HQ15 HR171_0 HR172_0 HX171_0 hf12_0 hx12_0 hx171_0 hx172_0 hx173_0 hHeld ⊢
                        refine pure_ (i := 0) (N := some 26) (v := ?_) (a' := ?_) #[true, false, false, false, false, false, false, false, false, false, false, false, false, false] rfl rfl (any_of HT_.out (by kernel_rfl)) (fun _ _ _ h => h) (Or.inl ⟨by rfl, ?_⟩) ?_ ?_
                        rotate_left
                        · intro w'
                          go_simp
                          with_reducible rfl
                        rotate_left
                        · simp only [Act.put, List.setIfInBounds_toArray, List.set_cons_zero, List.set_cons_succ, i64_w, i32_w]
                          rfl
                        refine pure_ (i := 1) (N := some 27) (v := ?_) (a' := ?_) #[true, true, false, false, false, false, false, false, false, false, false, false, false, false] rfl rfl (any_of HT_.out (by kernel_rfl)) (fun _ _ _ h => h) (Or.inl ⟨by rfl, ?_⟩) ?_ ?_
                        rotate_left
                        · intro w'
                          go_simp
                          with_reducible rfl
                        rotate_left
                        · simp only [Act.put, List.setIfInBounds_toArray, List.set_cons_zero, List.set_cons_succ, i64_w, i32_w]
                          rfl
                        refine pure_ (i := 2) (N := some 28) (v := ?_) (a' := ?_) #[true, true, true, false, false, false, false, false, false, false, false, false, false, false] rfl rfl (any_of HT_.out (by kernel_rfl)) (fun _ _ _ h => h) (Or.inl ⟨by rfl, ?_⟩) ?_ ?_
                        rotate_left
                        · intro w'
                          go_simp
                          with_reducible rfl
                        rotate_left
                        · simp only [Act.put, List.setIfInBounds_toArray, List.set_cons_zero, List.set_cons_succ, i64_w, i32_w]
                          rfl
                        refine pure_ (i := 4) (N := some 30) (v := ?_) (a' := ?_) #[true, true, true, false, true, false, false, false, false, false, false, false, false, false] rfl rfl (any_of HT_.out (by kernel_rfl)) (fun _ _ _ h => h) (Or.inl ⟨by rfl, ?_⟩) ?_ ?_
                        rotate_left
                        · intro w'
                          go_simp
                          with_reducible rfl
                        rotate_left
                        · simp only [Act.put, List.setIfInBounds_toArray, List.set_cons_zero, List.set_cons_succ, i64_w, i32_w]
                          rfl
                        refine pure_ (i := 5) (N := some 31) (v := ?_) (a' := ?_) #[true, true, true, false, true, true, false, false, false, false, false, false, false, false] rfl rfl (any_of HT_.out (by kernel_rfl)) (fun _ _ _ h => h) (Or.inl ⟨by rfl, ?_⟩) ?_ ?_
                        rotate_left
                        · intro w'
                          go_simp
                          with_reducible rfl
                        rotate_left
                        · simp only [Act.put, List.setIfInBounds_toArray, List.set_cons_zero, List.set_cons_succ, i64_w, i32_w]
                          rfl
                        refine pure_ (i := 6) (N := some 32) (v := ?_) (a' := ?_) #[true, true, true, false, true, true, true, false, false, false, false, false, false, false] rfl rfl (any_of HT_.out (by kernel_rfl)) (fun _ _ _ h => h) (Or.inl ⟨by rfl, ?_⟩) ?_ ?_
                        rotate_left
                        · intro w'
                          go_simp
                          with_reducible rfl
                        rotate_left
                        · simp only [Act.put, List.setIfInBounds_toArray, List.set_cons_zero, List.set_cons_succ, i64_w, i32_w]
                          rfl
                        refine pure_ (i := 7) (N := some 33) (v := ?_) (a' := ?_) #[true, true, true, false, true, true, true, true, false, false, false, false, false, false] rfl rfl (any_of HT_.out (by kernel_rfl)) (fun _ _ _ h => h) (Or.inl ⟨by rfl, ?_⟩) ?_ ?_
                        rotate_left
                        · intro w'
                          go_simp
                          with_reducible rfl
                        rotate_left
                        · simp only [Act.put, List.setIfInBounds_toArray, List.set_cons_zero, List.set_cons_succ, i64_w, i32_w]
                          rfl
                        refine pure_ (i := 9) (N := some 35) (v := ?_) (a' := ?_) #[true, true, true, false, true, true, true, true, false, true, false, false, false, false] rfl rfl (any_of HT_.out (by kernel_rfl)) (fun _ _ _ h => h) (Or.inl ⟨by rfl, ?_⟩) ?_ ?_
                        rotate_left
                        · intro w'
                          go_simp
                          with_reducible rfl
                        rotate_left
                        · simp only [Act.put, List.setIfInBounds_toArray, List.set_cons_zero, List.set_cons_succ, i64_w, i32_w]
                          rfl
                        refine take_ (i := 3) (N := some 29) (v := ?_) (a' := ?_) #[true, true, true, true, true, true, true, true, false, true, false, false, false, false] rfl rfl (take_ofW HT_.out HW_.out (by kernel_rfl)) (fun _ _ _ h => h) (Or.inl ⟨by rfl, ?_⟩) hHeld ?_ ?_
                        rotate_left
                        · rintro w' ⟨s0, s1, s2⟩
                          go_simp
                          with_reducible rfl
                        rotate_left
                        · simp only [Act.put, List.setIfInBounds_toArray, List.set_cons_zero, List.set_cons_succ, i64_w, i32_w]
                          rfl
                        refine take_ (i := 8) (N := some 34) (v := ?_) (a' := ?_) #[true, true, true, true, true, true, true, true, true, true, false, false, false, false] rfl rfl (take_ofW HT_.out HW_.out (by kernel_rfl)) (fun _ _ _ h => h) (Or.inl ⟨by rfl, ?_⟩) hHeld ?_ ?_
                        rotate_left
                        · rintro w' ⟨s0, s1, s2⟩
                          go_simp
                          with_reducible rfl
                        rotate_left
                        · simp only [Act.put, List.setIfInBounds_toArray, List.set_cons_zero, List.set_cons_succ, i64_w, i32_w]
                          rfl
                        refine pure_ (i := 10) (N := some 36) (v := ?_) (a' := ?_) #[true, true, true, true, true, true, true, true, true, true, true, false, false, false] rfl rfl (any_of HT_.out (by kernel_rfl)) (fun _ _ _ h => h) (Or.inl ⟨by rfl, ?_⟩) ?_ ?_
                        rotate_left
                        · intro w'
                          go_simp
                          with_reducible rfl
                        rotate_left
                        · simp only [Act.put, List.setIfInBounds_toArray, List.set_cons_zero, List.set_cons_succ, i64_w, i32_w]
                          rfl
                        refine take_ (i := 11) (N := some 37) (v := ?_) (a' := ?_) #[true, true, true, true, true, true, true, true, true, true, true, true, false, false] rfl rfl (take_ofW HT_.out HW_.out (by kernel_rfl)) (fun _ _ _ h => h) (Or.inl ⟨by rfl, ?_⟩) hHeld ?_ ?_
                        rotate_left
                        · rintro w' ⟨s0, s1, s2⟩
                          go_simp
                          with_reducible rfl
                        rotate_left
                        · simp only [Act.put, List.setIfInBounds_toArray, List.set_cons_zero, List.set_cons_succ, i64_w, i32_w]
                          rfl
                        refine pure_ (i := 12) (N := some 38) (v := ?_) (a' := ?_) #[true, true, true, true, true, true, true, true, true, true, true, true, true, false] rfl rfl (any_of HT_.out (by kernel_rfl)) (fun _ _ _ h => h) (Or.inl ⟨by rfl, ?_⟩) ?_ ?_
                        rotate_left
                        · intro w'
                          go_simp
                          with_reducible rfl
                        rotate_left
                        · simp only [Act.put, List.setIfInBounds_toArray, List.set_cons_zero, List.set_cons_succ, i64_w, i32_w]
                          rfl
                        refine last_ (i := 13) (N := none) #[true, true, true, true, true, true, true, true, true, true, true, true, true, true] rfl rfl (one_of HT_.out (by kernel_rfl)) (by decide) (fun K hK => ?_)
                        refine skip_ (w1 := ?_) (by rfl) rfl ?_ ?_
                        rotate_left
                        · go_simp
                          rfl
                        refine hK.out _ _ ?_
                        clear hK K
                        refine done_ (done_of HT_.out (by kernel_rfl)) ?_
                        try go_wp2
                        go_roundg k2
                        case measure => have := HK1.out; have := HK2.out; omega
                        case rel => exact ⟨(y176), (wrap64 (x5_2 + 1)), (by first | rfl | (simp; done) | (simp [*]; done)), H', ⟨by have := HK1.out; have := HK2.out; omega⟩, ⟨by (with_reducible repeat (first | apply Kd.S_alloc | apply Kd.S_drewN | apply Kd.S_drew)); exact HQ15.out⟩, ⟨by repeat (first | (with_reducible first | exact HB.out | apply below_alloc | apply pw_below_drewN | apply below_drew1 | refine below_set ?_ GB12.out) | exact HB.out)⟩⟩
                      · rw [if_neg c11] at H
                        exact absurd H (by simp)
                    · rw [if_neg c10] at H
                      exact absurd H (by simp)
                  · rw [if_neg c9] at H
                    exact absurd H (by simp)
                · rw [if_neg c8] at H
                  have c8b0 : decide (x5_2 < ((rd_L1 l0 x4_1).length : Int)) = false := decide_eq_false c8
                  clear c8
                  have H' := Aside0.mk H
                  clear H
                  have p170 : 0 ≤ (x4_1 : Int) := of_decide_eq_true (by first | (with_reducible assumption) | assumption)
                  have q170 : x4_1 < (l0.length : Int) := of_decide_eq_true (by first | (with_reducible assumption) | assumption)
                  obtain ⟨ad170, A170_0, c170_0, e170, hx170_0, hl170_0, hi170_0⟩ := at_L1 HR0.out x4_1 p170 q170
                  cases e170
                  replace hx170_0 := (HB.out.cell (World.block_lt_of_cell? w _ hx170_0)).trans hx170_0
                  have HR170_0 := Aside0.mk hi170_0
                  have HC170_0 := Aside0.mk hl170_0
                  clear hi170_0 hl170_0
                  replace p170 := eq_true p170
                  replace q170 := eq_true q170
                  go_wp2
                  go_roundg k2
                  case measure => have := HK1.out; have := HK2.out; omega
                  case rel => exact ⟨(x3_2), (wrap64 (x4_1 + 1)), (by first | rfl | (simp; done) | (simp [*]; done)), H', ⟨by have := HK1.out; have := HK2.out; omega⟩, ⟨by (with_reducible repeat (first | apply Kd.S_alloc | apply Kd.S_drewN | apply Kd.S_drew)); exact HO_3.out⟩, ⟨by repeat (first | (with_reducible first | exact HB.out | apply below_alloc | apply pw_below_drewN | apply below_drew1) | exact HB.out)⟩⟩
              · rw [if_neg c7] at H
                exact absurd H (by simp)
            · rw [if_neg c6] at H
              exact absurd H (by simp)
      · rw [if_neg c5] at H
        have c5b0 : decide (x4_1 < (l0.length : Int)) = false := decide_eq_false c5
        clear c5
        obtain rfl := Option.some.inj H
        go_wp2
        go_ret
        exact ⟨_, by first | rfl | (simp [errW_none, errW_some] <;> rfl) | (simp [*, errW_none, errW_some] <;> rfl), by (with_reducible repeat (first | apply Kd.S_alloc | apply Kd.S_drewN | apply Kd.S_drew)); exact HO_3.out, by repeat (first | (with_reducible first | exact HB.out | apply below_alloc | apply pw_below_drewN | apply below_drew1) | exact HB.out)⟩
end Go.Proofs.Ytpkghpljgjlmjaa.K
-- Lines of this claim, written by the session's own program kprint.py (it runs print.py).
namespace Go.Proofs.Ytpkghpljgjlmjaa.K
open Go.RowKit Go.Proofs.YtpkghpljgjlmjaaW.PrintWords Go.Proofs.YtpkghpljgjlmjaaW.PrintLast Go.Proofs.YtpkghpljgjlmjaaW.PrintMore
attribute [local go_sem] max2_int min2_int max_two min_two max_three min_three max_four min_four   -- for this text's walks alone
set_option linter.unusedVariables false
set_option linter.unusedSimpArgs false
/-! ### matrix_Transpose: function 45 -/
mutual
def matrix_Transpose.l0 : Nat → List (List Int) → List (List Int) → Int → Int → Option ((List (List Int)) × Int)
  | 0, _, _, _, _ => none
  | k + 1, x4, x17, x18, x19 => if x19 < x18 then (if 0 ≤ x19 then (if x19 < (x17.length : Int) then (matrix_Transpose.l1 k x4 x19 x17 x18 x19 (rd_L1 x17 x19) ((rd_L1 x17 x19).length : Int) 0) else (none)) else (none)) else (some (x4, 0))
def matrix_Transpose.l1 : Nat → List (List Int) → Int → List (List Int) → Int → Int → List Int → Int → Int → Option ((List (List Int)) × Int)
  | 0, _, _, _, _, _, _, _, _ => none
  | k + 1, x4, x5, x17, x18, x19, x24, x25, x26 => if x26 < x25 then (if 0 ≤ x26 then (if x26 < (x24.length : Int) then (if x26 < (x4.length : Int) then (if 0 ≤ x5 then (if x5 < ((rd_L1 x4 x26).length : Int) then (matrix_Transpose.l1 k (x4.set (x26 : Int).toNat ((rd_L1 x4 x26).set (x5 : Int).toNat (rd x24 x26))) x5 x17 x18 x19 x24 x25 (wrap64 (x26 + 1))) else (none)) else (none)) else (none)) else (none)) else (none)) else (matrix_Transpose.l0 k x4 x17 x18 (wrap64 (x19 + 1)))
end
def matrix_Transpose.f (k : Nat) (l0 : List (List Int)) : Option ((List (List Int)) × Int) := (matrix_Valid.f l0).bind fun t113 => (if t113 = true then ((matrix_columns.f l0).bind fun t114 => ((matrix_zero.f k t114 (l0.length : Int)).bind fun t115 => (matrix_Transpose.l0 k t115 l0 (l0.length : Int) 0))) else (some (([] : List (List Int)), 1)))
set_option maxHeartbeats 8000000 in
set_option maxRecDepth 100000 in
theorem matrix_Transpose.calls (k : Nat) (A0 : Option Addr) (c0 : Nat) (l0 : List (List Int)) (r1 : List (List Int)) (r2 : Int) (w : World) (hr0 : Kd.C (Kd.slice 5 (Kd.int .u8)) w A0 l0.length l0) (hc0 : l0.length ≤ c0) (h : matrix_Transpose.f k l0 = some (r1, r2)) :
    Calls Try.prog 45 #[.slice A0 l0.length c0] w fun e w' => ∃ v0_ : Value, e = .returned (.tuple #[v0_, .int .i64 r2]) ∧ Kd.S (Kd.slice 5 (Kd.int .u8)) 34 w' w.heap.size (fun _ => True) v0_ r1 ∧ Below w.heap.size w w' := by
  have HR0 := Aside0.mk hr0
  have HC0 := Aside0.mk hc0
  clear hr0 hc0
  have HB := Aside0.mk (Below.refl w.heap.size w)
  have H : ((matrix_Valid.f l0).bind fun t113 => (if t113 = true then ((matrix_columns.f l0).bind fun t114 => ((matrix_zero.f k t114 (l0.length : Int)).bind fun t115 => (matrix_Transpose.l0 k t115 l0 (l0.length : Int) 0))) else (some (([] : List (List Int)), 1)))) = some (r1, r2) := h
  clear h
  replace H := Option.bind_eq_some_iff.mp H
  obtain ⟨t113, A20, H⟩ := H
  replace H : (if t113 = true then ((matrix_columns.f l0).bind fun t114 => ((matrix_zero.f k t114 (l0.length : Int)).bind fun t115 => (matrix_Transpose.l0 k t115 l0 (l0.length : Int) 0))) else (some (([] : List (List Int)), 1))) = some (r1, r2) := H
  have A2 := Aside0.mk A20
  clear A20
  by_cases c3 : t113 = true
  · subst c3
    have H1 : ((matrix_columns.f l0).bind fun t114 => ((matrix_zero.f k t114 (l0.length : Int)).bind fun t115 => (matrix_Transpose.l0 k t115 l0 (l0.length : Int) 0))) = some (r1, r2) := by rw [if_pos rfl] at H; exact H
    clear H
    have H := H1
    clear H1
    replace H := Option.bind_eq_some_iff.mp H
    obtain ⟨t114, A40, H⟩ := H
    replace H : ((matrix_zero.f k t114 (l0.length : Int)).bind fun t115 => (matrix_Transpose.l0 k t115 l0 (l0.length : Int) 0)) = some (r1, r2) := H
    have A4 := Aside0.mk A40
    clear A40
    replace H := Option.bind_eq_some_iff.mp H
    obtain ⟨t115, A50, H⟩ := H
    replace H : (matrix_Transpose.l0 k t115 l0 (l0.length : Int) 0) = some (r1, r2) := H
    have A5 := Aside0.mk A50
    clear A50
    have H' := Aside0.mk H
    clear H
    go_enter Try.func45, Try.ntmps45
    go_wp2_with (first | ((with_reducible refine gate_callee (f := 17) rfl ?_); refine goesL_ (some 10) rfl rfl Try.func17 (by kernel_rfl) rfl #[.slice A0 l0.length c0] rfl (by (try simp only [List.map_toArray, List.map_cons, List.map_nil]); first | done | rfl | (simp only [List.length_drop, List.length_take]; rfl)) ?_; (with_reducible refine (matrix_Valid.calls _ _ l0 true _ ?side1 ?side2 A2.out).mono ?_); (case side1 => repeat (first | exact HR0.out | (with_reducible refine Kd.C_alloc ?_ _) | (with_reducible refine Kd.C_drewN ?_ _) | (with_reducible refine Kd.C_drew ?_))); (case side2 => exact HC0.out); rintro e w6 ⟨rfl, hb⟩; refine ⟨_, rfl, ?_⟩; have n0_ := Aside0.mk (below_step (by repeat (first | (with_reducible first | exact HB.out | apply below_alloc | apply pw_below_drewN | apply below_drew1) | exact HB.out)) hb); clear HB; have HB := n0_; clear n0_; (try clear hb); (try clear hb2); (try clear hk); (try clear hi)) | ((with_reducible refine gate_callee (f := 56) rfl ?_); refine goesL_ (some 13) rfl rfl Try.func56 (by kernel_rfl) rfl #[.slice A0 l0.length c0] rfl (by (try simp only [List.map_toArray, List.map_cons, List.map_nil]); first | done | rfl | (simp only [List.length_drop, List.length_take]; rfl)) ?_; (with_reducible refine (matrix_columns.calls _ _ l0 t114 _ ?side1 ?side2 A4.out).mono ?_); (case side1 => repeat (first | exact (Kd.C_below HR0.out HB.out) | (with_reducible refine Kd.C_alloc ?_ _) | (with_reducible refine Kd.C_drewN ?_ _) | (with_reducible refine Kd.C_drew ?_))); (case side2 => exact HC0.out); rintro e w' ⟨rfl, ⟨nd, rfl⟩⟩; refine ⟨_, rfl, ?_⟩) | ((with_reducible refine gate_callee (f := 64) rfl ?_); refine goesL_ (some 16) rfl rfl Try.func64 (by kernel_rfl) rfl #[.int .i64 t114, .int .i64 (l0.length : Int)] rfl (by (try simp only [List.map_toArray, List.map_cons, List.map_nil]); first | done | rfl | (simp only [List.length_drop, List.length_take]; rfl)) ?_; (with_reducible refine (matrix_zero.calls k t114 (l0.length : Int) t115 _ A5.out).mono ?_); rintro e w7 ⟨v116, rfl, ho0, hb⟩; refine ⟨_, rfl, ?_⟩; have n0_ := Aside0.mk (Kd.S_lower ho0 (below_size (by repeat (first | (with_reducible first | exact HB.out | apply below_alloc | apply pw_below_drewN | apply below_drew1) | exact HB.out)))); have n1_ := Aside0.mk (below_step (by repeat (first | (with_reducible first | exact HB.out | apply below_alloc | apply pw_below_drewN | apply below_drew1) | exact HB.out)) hb); clear HB; have HO117 := n0_; have HB := n1_; clear n0_ n1_; (try clear hb); (try clear hb2); (try clear hk); (try clear hi); (try clear ho0)))
    go_loopg [19] k (fun kq v19 w' => ∃ (x4_1 : List (List Int)) (x19_1 : Int), v19 = .int .i64 x19_1 ∧ Aside0 (matrix_Transpose.l0 kq x4_1 l0 (l0.length : Int) x19_1 = some (r1, r2)) ∧ Aside0 (kq ≤ k) ∧ Aside0 (Kd.S (Kd.slice 5 (Kd.int .u8)) 34 w' w.heap.size (fun _ => True) v116 x4_1) ∧ Aside0 (Below w.heap.size w w'))
    case atStart => exact ⟨(t115), (0), (by first | rfl | (simp; done) | (simp [*]; done)), H', ⟨Nat.le_refl _⟩, ⟨by (with_reducible repeat (first | apply Kd.S_alloc | apply Kd.S_drewN | apply Kd.S_drew)); exact HO117.out⟩, ⟨by repeat (first | (with_reducible first | exact HB.out | apply below_alloc | apply pw_below_drewN | apply below_drew1) | exact HB.out)⟩⟩
    case round =>
      clear H'; (try clear c1); (try clear p2); (try clear c3); (try clear c4); (try clear c5); (try clear c6)
      obtain ⟨x4_1, x19_1, rfl, HA, HK1, HO_4, HB⟩ := hrel
      cases gk with
      | zero => exact absurd HA.out (by simp [matrix_Transpose.l0])
      | succ k1 =>
        have H := HA.out
        clear HA
        simp only [matrix_Transpose.l0] at H
        by_cases c8 : x19_1 < (l0.length : Int)
        · rw [if_pos c8] at H
          have c8b0 : decide (x19_1 < (l0.length : Int)) = true := decide_eq_true c8
          clear c8
          by_cases c9 : 0 ≤ x19_1
          · rw [if_pos c9] at H
            have c9b0 : decide (0 ≤ x19_1) = true := decide_eq_true c9
            clear c9
            by_cases c10 : x19_1 < (l0.length : Int)
            · rw [if_pos c10] at H
              have c10b0 : decide (x19_1 < (l0.length : Int)) = true := decide_eq_true c10
              clear c10
              have H' := Aside0.mk H
              clear H
              have p118 : 0 ≤ (x19_1 : Int) := of_decide_eq_true (by first | (with_reducible assumption) | assumption)
              have q118 : x19_1 < (l0.length : Int) := of_decide_eq_true (by first | (with_reducible assumption) | assumption)
              obtain ⟨ad118, A118_0, c118_0, e118, hx118_0, hl118_0, hi118_0⟩ := at_L1 HR0.out x19_1 p118 q118
              cases e118
              replace hx118_0 := (HB.out.cell (World.block_lt_of_cell? w _ hx118_0)).trans hx118_0
              have HR118_0 := Aside0.mk hi118_0
              have HC118_0 := Aside0.mk hl118_0
              clear hi118_0 hl118_0
              replace p118 := eq_true p118
              replace q118 := eq_true q118
              go_wp2
              go_loopg [26] k1 (fun kq v26 w' => ∃ (x4_2 : List (List Int)) (x26_2 : Int), v26 = .int .i64 x26_2 ∧ Aside0 (matrix_Transpose.l1 kq x4_2 x19_1 l0 (l0.length : Int) x19_1 (rd_L1 l0 x19_1) ((rd_L1 l0 x19_1).length : Int) x26_2 = some (r1, r2)) ∧ Aside0 (kq ≤ k1) ∧ Aside0 (Kd.S (Kd.slice 5 (Kd.int .u8)) 34 w' w.heap.size (fun _ => True) v116 x4_2) ∧ Aside0 (Below w.heap.size w w'))
              case atStart => exact ⟨(x4_1), (0), (by first | rfl | (simp; done) | (simp [*]; done)), H', ⟨Nat.le_refl _⟩, ⟨by (with_reducible repeat (first | apply Kd.S_alloc | apply Kd.S_drewN | apply Kd.S_drew)); exact HO_4.out⟩, ⟨by repeat (first | (with_reducible first | exact HB.out | apply below_alloc | apply pw_below_drewN | apply below_drew1) | exact HB.out)⟩⟩
              case round =>
                clear H'; (try clear c1); (try clear p1); (try clear q1); (try clear hx1); (try clear p2); (try clear c3); (try clear c4); (try clear c5); (try clear c6); (try clear c8); (try clear c8b0); (try clear c9); (try clear c9b0); (try clear c10); (try clear c10b0); (try clear hx118_0); (try clear p118); (try clear p2); (try clear q118)
                obtain ⟨x4_2, x26_2, rfl, HA, HK2, HO_4, HB⟩ := hrel
                cases gk with
                | zero => exact absurd HA.out (by simp [matrix_Transpose.l1])
                | succ k2 =>
                  have H := HA.out
                  clear HA
                  simp only [matrix_Transpose.l1] at H
                  by_cases c11 : x26_2 < ((rd_L1 l0 x19_1).length : Int)
                  · rw [if_pos c11] at H
                    have c11b0 : decide (x26_2 < ((rd_L1 l0 x19_1).length : Int)) = true := decide_eq_true c11
                    clear c11
                    by_cases c12 : 0 ≤ x26_2
                    · rw [if_pos c12] at H
                      have c12b0 : decide (0 ≤ x26_2) = true := decide_eq_true c12
                      clear c12
                      by_cases c13 : x26_2 < ((rd_L1 l0 x19_1).length : Int)
                      · rw [if_pos c13] at H
                        have c13b0 : decide (x26_2 < ((rd_L1 l0 x19_1).length : Int)) = true := decide_eq_true c13
                        clear c13
                        by_cases c14 : x26_2 < (x4_2.length : Int)
                        · rw [if_pos c14] at H
                          have c14b0 : decide (x26_2 < (x4_2.length : Int)) = true := decide_eq_true c14
                          clear c14
                          by_cases c15 : 0 ≤ x19_1
                          · rw [if_pos c15] at H
                            have c15b0 : decide (0 ≤ x19_1) = true := decide_eq_true c15
                            clear c15
                            by_cases c16 : x19_1 < ((rd_L1 x4_2 x26_2).length : Int)
                            · rw [if_pos c16] at H
                              have c16b0 : decide (x19_1 < ((rd_L1 x4_2 x26_2).length : Int)) = true := decide_eq_true c16
                              clear c16
                              obtain ⟨y121, hy121⟩ : ∃ y_ : List Int, y_ = ((rd_L1 x4_2 x26_2).set (x19_1 : Int).toNat (rd (rd_L1 l0 x19_1) x26_2)) := ⟨_, rfl⟩
                              replace H : (matrix_Transpose.l1 k2 (x4_2.set (x26_2 : Int).toNat y121) x19_1 l0 (l0.length : Int) x19_1 (rd_L1 l0 x19_1) ((rd_L1 l0 x19_1).length : Int) (wrap64 (x26_2 + 1))) = some (r1, r2) := by first | (rw [hy121]; with_reducible exact H) | (have H2_ := (Option.bind_some _ _).symm.trans H; rw [hy121]; with_reducible exact H2_) | (have H2_ := (Option.bind_some _ _).symm.trans H; with_reducible exact H2_) | with_reducible exact H | (rw [hy121]; exact H) | exact H
                              have Ny121 := Aside0.mk hy121
                              clear hy121
                              obtain ⟨y123, hy123⟩ : ∃ y_ : List (List Int), y_ = (x4_2.set (x26_2 : Int).toNat y121) := ⟨_, rfl⟩
                              replace H : (matrix_Transpose.l1 k2 y123 x19_1 l0 (l0.length : Int) x19_1 (rd_L1 l0 x19_1) ((rd_L1 l0 x19_1).length : Int) (wrap64 (x26_2 + 1))) = some (r1, r2) := by first | (rw [hy123]; with_reducible exact H) | (have H2_ := (Option.bind_some _ _).symm.trans H; rw [hy123]; with_reducible exact H2_) | (have H2_ := (Option.bind_some _ _).symm.trans H; with_reducible exact H2_) | with_reducible exact H | (rw [hy123]; exact H) | exact H
                              have Ny123 := Aside0.mk hy123
                              clear hy123
                              have H' := Aside0.mk H
                              clear H
                              have p119 : 0 ≤ (x26_2 : Int) := of_decide_eq_true (by first | (with_reducible assumption) | assumption)
                              have q119 : x26_2 < ((rd_L1 l0 x19_1).length : Int) := of_decide_eq_true (by first | (with_reducible assumption) | assumption)
                              obtain ⟨ad119, e119, hx119_0⟩ := Kd.at_int HR118_0.out x26_2 p119 q119
                              cases e119
                              replace hx119_0 := (HB.out.cell (World.block_lt_of_cell? w _ hx119_0)).trans hx119_0
                              replace p119 := eq_true p119
                              replace q119 := eq_true q119
                              obtain ⟨Ao18, co18, eo18⟩ := Kd.S_slice HO_4.out
                              subst eo18
                              have p120 : 0 ≤ (x26_2 : Int) := of_decide_eq_true (by first | (with_reducible assumption) | assumption)
                              have q120 : x26_2 < (x4_2.length : Int) := of_decide_eq_true (by first | (with_reducible assumption) | assumption)
                              obtain ⟨ad120, A120_0, c120_0, e120, hx120_0, hl120_0, hi120_0⟩ := at_L1 (Kd.S_reads' HO_4.out).2.2 x26_2 p120 q120
                              cases e120
                              obtain ⟨ce120, hce120, hMe120, hcc120⟩ := Kd.S_get HO_4.out [] x26_2 p120 (by first | exact q120 | exact of_decide_eq_true (by first | (with_reducible assumption) | assumption) | (have e_ := (Kd.S_reads' HO_4.out).1; omega))
                              obtain ⟨ve120_0, rfl, ge120_0⟩ := hMe120
                              have hv120_0 := hcc120 0 _ rfl
                              rw [Nat.add_zero, show ((Kd.slice 5 (Kd.int .u8))).sz = 1 from rfl, Nat.mul_one] at hv120_0
                              replace hv120_0 := Option.some.inj (hv120_0.symm.trans hx120_0)
                              rw [hv120_0] at ge120_0
                              have HL120_0 := Aside0.mk (show Kd.R (Kd.int .u8) 5 _ _ _ _ (rd_L1 x4_2 x26_2) from ge120_0)
                              clear hv120_0 ge120_0
                              have HX120_0 := Aside0.mk hx120_0
                              clear hcc120 hce120
                              have HR120_0 := Aside0.mk hi120_0
                              have HC120_0 := Aside0.mk hl120_0
                              clear hi120_0 hl120_0
                              replace p120 := eq_true p120
                              replace q120 := eq_true q120
                              have p17 : 0 ≤ (x19_1 : Int) := of_decide_eq_true (by first | (with_reducible assumption) | assumption)
                              have q17 : (x19_1 : Int) < (((rd_L1 x4_2 x26_2).length : Int) : Int) := of_decide_eq_true (by first | (with_reducible assumption) | assumption)
                              obtain ⟨go17, co17, eo17, gb17, gl17, cl17, HG17⟩ := Kd.R_form HL120_0.out (by omega)
                              (first | cases eo17 | (injection eo17 with ea_ en_ ec_; (first | subst ea_ | (injection ea_ with ea_; subst ea_)); subst ec_; clear en_))
                              have GB17 := Aside0.mk gb17
                              have GG17 := Aside0.mk HG17
                              clear gb17 gl17 HG17
                              obtain ⟨hx17_0, hf17_0⟩ := Kd.R_celln 0 HL120_0.out (x19_1 : Int) p17 q17
                              replace p17 := eq_true p17
                              replace q17 := eq_true q17
                              have hq19 : (x26_2 : Int) < (x4_2.length : Int) := (by have h_ : (x26_2 : Int) < ((x4_2.length : Int) : Int) := of_decide_eq_true (by first | (with_reducible assumption) | assumption); first | exact h_ | (have e_ := (Kd.S_reads' HO_4.out).1; omega) | simpa only [List.length_set, List.length_set] using h_)
                              obtain ⟨oki19, ce19, hcl19, hM19, hcc19, hok19, hbk19⟩ := Kd.S_borrow HO_4.out [] (x26_2 : Int) (of_decide_eq_true (by first | (with_reducible assumption) | assumption)) hq19
                              obtain ⟨ve19_0, rfl, ge19_0⟩ := hM19
                              have hv19 := hcc19 0 _ rfl
                              rw [Nat.add_zero, show ((Kd.slice 5 (Kd.int .u8))).sz = 1 from rfl, Nat.mul_one] at hv19
                              replace hv19 := Option.some.inj (hv19.symm.trans HX120_0.out)
                              subst hv19
                              clear hcc19 hcl19
                              replace ge19_0 := (show Kd.R (Kd.int .u8) 5 _ _ _ _ (rd_L1 x4_2 x26_2) from ge19_0)
                              have HP19 := Kd.R_putg ge19_0 (x19_1 : Int) (rd (rd_L1 l0 x19_1) x26_2)
                              go_wp2_with (first | ((with_reducible refine gate_store (t := 5) (p := 37) rfl ?_); refine store_event (t := 5) (p := 37) (v := ?vo_w20) (w1 := (wr.setCell ⟨go17, (x19_1 : Int).toNat, none⟩ (.int .u8 (rd (rd_L1 l0 x19_1) x26_2)))) ?hg ?ho ?hn ?hr ?_; (case ho => rfl); (case hg => rfl); (case hn => rfl); (case hr => first | (go_simp; done) | (go_simp; rfl)); intro w20 hw; have hg : wr.grownBy w20 (some go17) := (by rw [hw]; exact HP19.2); have hz_ : Kd.R (Kd.int .u8) 5 w20 w.heap.size oki19 (.slice (some ⟨go17, 0, none⟩) (rd_L1 x4_2 x26_2).length c120_0) y121 := (by rw [hw, Ny121.out]; exact HP19.1); have hp_ : Kd.S (Kd.slice 5 (Kd.int .u8)) 34 w20 w.heap.size (fun _ => True) (.slice (some ad120) x4_2.length co18) y123 := (by rw [Ny123.out]; exact hbk19 hg (fun k_ e_ => by injection e_ with e_; subst e_; exact ge19_0.1 _ rfl) (Kd.M_row hz_)); have hm_ := Kd.R_mono hz_ hok19; clear HP19 hbk19; have n0_ := Aside0.mk (hp_); have n1_ := Aside0.mk ((by rw [hw]; exact below_set (HB.out) GB17.out : Below w.heap.size w w20)); have n2_ := Aside0.mk (hm_); have n3_ := Aside0.mk ((Kd.R_reads' hm_).2.1); clear HO_4; clear HB; clear HL120_0; have HO_4 := n0_; have HB := n1_; have HL124 := n2_; have HC122 := n3_; clear n0_ n1_ n2_ n3_; clear hg hw hp_ hz_ hm_ hok19))
                              go_roundg k2
                              case measure => have := HK1.out; have := HK2.out; omega
                              case rel => exact ⟨(y123), (wrap64 (x26_2 + 1)), (by first | rfl | (simp; done) | (simp [*]; done)), H', ⟨by have := HK1.out; have := HK2.out; omega⟩, ⟨by (with_reducible repeat (first | apply Kd.S_alloc | apply Kd.S_drewN | apply Kd.S_drew)); exact HO_4.out⟩, ⟨by repeat (first | (with_reducible first | exact HB.out | apply below_alloc | apply pw_below_drewN | apply below_drew1) | exact HB.out)⟩⟩
                            · rw [if_neg c16] at H
                              exact absurd H (by simp)
                          · rw [if_neg c15] at H
                            exact absurd H (by simp)
                        · rw [if_neg c14] at H
                          exact absurd H (by simp)
                      · rw [if_neg c13] at H
                        exact absurd H (by simp)
                    · rw [if_neg c12] at H
                      exact absurd H (by simp)
                  · rw [if_neg c11] at H
                    have c11b0 : decide (x26_2 < ((rd_L1 l0 x19_1).length : Int)) = false := decide_eq_false c11
                    clear c11
                    have H' := Aside0.mk H
                    clear H
                    go_wp2
                    go_roundg k2
                    case measure => have := HK1.out; have := HK2.out; omega
                    case rel => exact ⟨(x4_2), (wrap64 (x19_1 + 1)), (by first | rfl | (simp; done) | (simp [*]; done)), H', ⟨by have := HK1.out; have := HK2.out; omega⟩, ⟨by (with_reducible repeat (first | apply Kd.S_alloc | apply Kd.S_drewN | apply Kd.S_drew)); exact HO_4.out⟩, ⟨by repeat (first | (with_reducible first | exact HB.out | apply below_alloc | apply pw_below_drewN | apply below_drew1) | exact HB.out)⟩⟩
            · rw [if_neg c10] at H
              exact absurd H (by simp)
          · rw [if_neg c9] at H
            exact absurd H (by simp)
        · rw [if_neg c8] at H
          have c8b0 : decide (x19_1 < (l0.length : Int)) = false := decide_eq_false c8
          clear c8
          simp only [Option.some.injEq, Prod.mk.injEq] at H
          obtain ⟨rfl, rfl⟩ := H
          go_wp2
          go_ret2
          exact ⟨_, by first | rfl | (simp [errW_none, errW_some] <;> rfl) | (simp [*, errW_none, errW_some] <;> rfl), by (with_reducible repeat (first | apply Kd.S_alloc | apply Kd.S_drewN | apply Kd.S_drew)); exact HO_4.out, by repeat (first | (with_reducible first | exact HB.out | apply below_alloc | apply pw_below_drewN | apply below_drew1) | exact HB.out)⟩
  · replace c3 := Bool.eq_false_iff.mpr c3
    subst c3
    have H1 : (some (([] : List (List Int)), 1)) = some (r1, r2) := by rw [if_neg (show ¬ (false = true) by decide)] at H; exact H
    clear H
    have H := H1
    clear H1
    simp only [Option.some.injEq, Prod.mk.injEq] at H
    obtain ⟨rfl, rfl⟩ := H
    go_enter Try.func45, Try.ntmps45
    go_wp2_with (first | ((with_reducible refine gate_callee (f := 17) rfl ?_); refine goesL_ (some 10) rfl rfl Try.func17 (by kernel_rfl) rfl #[.slice A0 l0.length c0] rfl (by (try simp only [List.map_toArray, List.map_cons, List.map_nil]); first | done | rfl | (simp only [List.length_drop, List.length_take]; rfl)) ?_; (with_reducible refine (matrix_Valid.calls _ _ l0 false _ ?side1 ?side2 A2.out).mono ?_); (case side1 => repeat (first | exact HR0.out | (with_reducible refine Kd.C_alloc ?_ _) | (with_reducible refine Kd.C_drewN ?_ _) | (with_reducible refine Kd.C_drew ?_))); (case side2 => exact HC0.out); rintro e w21 ⟨rfl, hb⟩; refine ⟨_, rfl, ?_⟩; have n0_ := Aside0.mk (below_step (by repeat (first | (with_reducible first | exact HB.out | apply below_alloc | apply pw_below_drewN | apply below_drew1) | exact HB.out)) hb); clear HB; have HB := n0_; clear n0_; (try clear hb); (try clear hb2); (try clear hk); (try clear hi)))
    go_ret2
    exact ⟨_, by first | rfl | (simp [errW_none, errW_some] <;> rfl) | (simp [*, errW_none, errW_some] <;> rfl), by first | exact Kd.S_nil _ _ _ _ _ | exact Kd.N_nil _ _ _ _ _ | exact Kd.V_nil _ _ _ _ _ | exact Kd.Q_nil _ _ _ _ _ | exact Kd.R_nil _ _ _ _ _, by repeat (first | (with_reducible first | exact HB.out | apply below_alloc | apply pw_below_drewN | apply below_drew1) | exact HB.out)⟩
end Go.Proofs.Ytpkghpljgjlmjaa.K
/- make with length 0 and a capacity: a row of one's own without an element. -/
namespace Go.Proofs.Ytpkghpljgjlmjaa.K
open Go.RowKit Go.Proofs.YtpkghpljgjlmjaaW.PrintWords Go.Proofs.YtpkghpljgjlmjaaW.PrintLast Go.Proofs.YtpkghpljgjlmjaaW.PrintMore
set_option linter.unusedVariables false
section
variable {P : Program} {ops : Array Oper} {rest : List Oper} {o : Oper} {a : Act} {Q : Exit → Act → World → Prop} {α : Type}
theorem R_make0 (d : Kd α) {w0 W : World} (base e : Nat) (hgd : o.guard = none) {N : Tmp} (hd : o.dst = some N) (t : TypeId) (x y : Operand) (ho : o.op = .makeSlice t x y) (n : Int) (hx : a.eval x = .int .i64 0) (hy : a.eval y = .int .i64 n)
    (ht : P.underlying t = some (.slice e)) (z : Value) (bytes : Nat) (hinfo : (P.info? e).map (fun i => (i.zero, i.size, i.bytes)) = some (some z, d.sz, bytes)) (hb0 : 0 < bytes)
    {ok : Nat → Prop} (hfresh : ok W.heap.size) (h0 : 0 ≤ n) (hl : n.toNat * bytes ≤ 281474976710656) (HB : Below base w0 W) (hbase : base ≤ W.heap.size)
    (h : ∀ v1 w1, d.R e w1 base ok v1 [] → Below base w0 w1 → wpList P ops Q rest (a.put o.dst v1) w1) : wpList P ops Q (o :: rest) a W := by
  obtain ⟨m, rfl⟩ := Int.eq_ofNat_of_zero_le h0
  simp only [Int.toNat_natCast] at hl
  obtain ⟨i0, hi, hzz⟩ := Option.map_eq_some_iff.1 hinfo
  simp only [Prod.mk.injEq] at hzz
  obtain ⟨hz0, hz1, hz2⟩ := hzz
  have hm : m ≤ 281474976710656 := Nat.le_trans (Nat.le_mul_of_pos_right _ hb0) hl
  have hr := run_make (P := P) W t e i0 z ht hi hz0 .i64 .i64 0 (m : Int) (by omega) (by omega)
    (by
      have h3 : ((i0.bytes * m : Nat) : Int) ≤ 281474976710656 := by rw [hz2, Nat.mul_comm]; omega
      rwa [Int.natCast_mul] at h3) (by omega)
  simp only [Int.toNat_natCast] at hr
  have hrun : (execOp a.eval o).run P W = .ok (.value (.slice (some ⟨W.heap.size, 0, none⟩) 0 m)) (W.alloc (.cells (madeCells z.cells (m * i0.size)) e)) := by
    simp [execOp, ho, hx, hy, hr]
  refine Kd.event_run hgd hrun (h _ _ ⟨fun k hk => ?_, [], ⟨by simp, .inr ⟨W.heap.size, m, madeCells z.cells (m * i0.size), rfl, hbase, ?_, Nat.zero_le _, ?_, ?_, by simp⟩⟩, Reps.none _ _⟩ (HB.alloc hbase _))
  · have : W.heap.size = k := by simpa [Value.ownBlock] using hk
    rw [← this]; exact hfresh
  · simp only [World.alloc]
    exact Array.getElem?_push_size
  · show m ≤ 9223372036854775807
    omega
  · rw [hz1]
    exact size_madeCells _ _
theorem S_make0 (d : Kd α) {w0 W : World} (base e : Nat) (hgd : o.guard = none) {N : Tmp} (hd : o.dst = some N) (t : TypeId) (x y : Operand) (ho : o.op = .makeSlice t x y) (n : Int) (hx : a.eval x = .int .i64 0) (hy : a.eval y = .int .i64 n)
    (ht : P.underlying t = some (.slice e)) (z : Value) (bytes : Nat) (hinfo : (P.info? e).map (fun i => (i.zero, i.size, i.bytes)) = some (some z, d.sz, bytes)) (hb0 : 0 < bytes)
    {ok : Nat → Prop} (hfresh : ok W.heap.size) (h0 : 0 ≤ n) (hl : n.toNat * bytes ≤ 281474976710656) (HB : Below base w0 W) (hbase : base ≤ W.heap.size)
    (h : ∀ v1 w1, Kd.S d e w1 base ok v1 [] → Below base w0 w1 → wpList P ops Q rest (a.put o.dst v1) w1) : wpList P ops Q (o :: rest) a W :=
  R_make0 (Kd.bare d) base e hgd hd t x y ho n hx hy ht z bytes hinfo hb0 (ok := ok) hfresh h0 hl HB hbase (fun v1 w1 hr => h v1 w1 (Kd.S_bare hr))
end
end Go.Proofs.Ytpkghpljgjlmjaa.K
/- Rows of package matrix: its walk (the print of all but the making of its result). -/
namespace Go.Proofs.Ytpkghpljgjlmjaa.K
open Go.RowKit Go.Proofs.YtpkghpljgjlmjaaW.PrintWords Go.Proofs.YtpkghpljgjlmjaaW.PrintLast Go.Proofs.YtpkghpljgjlmjaaW.PrintMore
attribute [local go_sem] max2_int min2_int max_two min_two max_three min_three max_four min_four   -- for this text's walks alone
set_option linter.unusedVariables false
set_option linter.unusedSimpArgs false

/-! ### matrix_Rows: function 46 -/
mutual
def matrix_Rows.j0 : Nat → List (List Int) → List Int → Bool → Option ((List (List Int)) × Int)
  | 0, _, _, _ => none
  | k + 1, x0, x1, x16 => if x16 = true then (some (([] : List (List Int)), 1)) else (if x1.length ≤ 64 then (matrix_Rows.l0 k x0 (([] : List (List Int))) x1 (x1.length : Int) 0) else none)
def matrix_Rows.l0 : Nat → List (List Int) → List (List Int) → List Int → Int → Int → Option ((List (List Int)) × Int)
  | 0, _, _, _, _, _ => none
  | k + 1, x0, x6, x20, x21, x22 => if x22 < x21 then (if 0 ≤ x22 then (if x22 < (x20.length : Int) then (if (rd x20 x22) < 0 then (some (([] : List (List Int)), 1)) else (if (rd x20 x22) ≥ (x0.length : Int) then (some (([] : List (List Int)), 1)) else (if 0 ≤ (rd x20 x22) then (if (rd x20 x22) < (x0.length : Int) then ((slices_Clone_byte_byte.f (rd_L1 x0 (rd x20 x22))).bind fun t107 => (if x6.length < 5864062014805 then (matrix_Rows.l0 k x0 (x6 ++ [t107]) x20 x21 (wrap64 (x22 + 1))) else (none))) else (none)) else (none)))) else (none)) else (none)) else (some (x6, 0))
end
def matrix_Rows.f (k : Nat) (l0 : List (List Int)) (l1 : List Int) : Option ((List (List Int)) × Int) := (matrix_Valid.f l0).bind fun t101 => (if t101 = true then (matrix_Rows.j0 k l0 l1 (decide ((l1.length : Int) > 64))) else (matrix_Rows.j0 k l0 l1 true))
set_option maxHeartbeats 8000000 in
set_option maxRecDepth 100000 in
theorem matrix_Rows.calls (k : Nat) (A0 : Option Addr) (c0 : Nat) (l0 : List (List Int)) (A1 : Option Addr) (c1 : Nat) (l1 : List Int) (r1 : List (List Int)) (r2 : Int) (w : World) (hr0 : Kd.C (Kd.slice 5 (Kd.int .u8)) w A0 l0.length l0) (hc0 : l0.length ≤ c0) (hr1 : Kd.C (Kd.int .i64) w A1 l1.length l1) (hc1 : l1.length ≤ c1) (h : matrix_Rows.f k l0 l1 = some (r1, r2)) :
    Calls Try.prog 46 #[.slice A0 l0.length c0, .slice A1 l1.length c1] w fun e w' => ∃ v0_ : Value, e = .returned (.tuple #[v0_, .int .i64 r2]) ∧ Kd.S (Kd.slice 5 (Kd.int .u8)) 34 w' w.heap.size (fun _ => True) v0_ r1 ∧ Below w.heap.size w w' := by
  have HR0 := Aside0.mk hr0
  have HC0 := Aside0.mk hc0
  clear hr0 hc0
  have HR1 := Aside0.mk hr1
  have HC1 := Aside0.mk hc1
  clear hr1 hc1
  have HB := Aside0.mk (Below.refl w.heap.size w)
  have H : ((matrix_Valid.f l0).bind fun t101 => (if t101 = true then (matrix_Rows.j0 k l0 l1 (decide ((l1.length : Int) > 64))) else (matrix_Rows.j0 k l0 l1 true))) = some (r1, r2) := h
  clear h
  have HC3 := Aside0.mk H
  clear H
  go_enter Try.func46, Try.ntmps46
  go_upto_region 1 with (fail)
  go_cut [16] (fun v16 wc => ∃ (kq : Nat) (x16_2 : Bool), v16 = .bool x16_2 ∧ Aside0 (matrix_Rows.j0 kq l0 l1 x16_2 = some (r1, r2)) ∧ Aside0 (kq ≤ k) ∧ Aside0 (Below w.heap.size w wc))
  case first =>
    have H := HC3.out
    clear HC3
    replace H := Option.bind_eq_some_iff.mp H
    obtain ⟨t101, A40, H⟩ := H
    replace H : (if t101 = true then (matrix_Rows.j0 k l0 l1 (decide ((l1.length : Int) > 64))) else (matrix_Rows.j0 k l0 l1 true)) = some (r1, r2) := H
    have A4 := Aside0.mk A40
    clear A40
    by_cases c5 : t101 = true
    · subst c5
      have H1 : (matrix_Rows.j0 k l0 l1 (decide ((l1.length : Int) > 64))) = some (r1, r2) := by rw [if_pos rfl] at H; exact H
      clear H
      have H := H1
      clear H1
      have H' := Aside0.mk H
      clear H
      go_wp2_with (first | ((with_reducible refine gate_callee (f := 17) rfl ?_); refine goesL_ (some 10) rfl rfl Try.func17 (by kernel_rfl) rfl #[.slice A0 l0.length c0] rfl (by (try simp only [List.map_toArray, List.map_cons, List.map_nil]); first | done | rfl | (simp only [List.length_drop, List.length_take]; rfl)) ?_; (with_reducible refine (matrix_Valid.calls _ _ l0 true _ ?side1 ?side2 A4.out).mono ?_); (case side1 => repeat (first | exact (Kd.C_below HR0.out HB.out) | (with_reducible refine Kd.C_alloc ?_ _) | (with_reducible refine Kd.C_drewN ?_ _) | (with_reducible refine Kd.C_drew ?_))); (case side2 => exact HC0.out); rintro e w6 ⟨rfl, hb⟩; refine ⟨_, rfl, ?_⟩; have n0_ := Aside0.mk (below_step (by repeat (first | (with_reducible first | exact HB.out | apply below_alloc | apply pw_below_drewN | apply below_drew1) | exact HB.out)) hb); clear HB; have HB := n0_; clear n0_; (try clear hb); (try clear hb2); (try clear hk); (try clear hi)))
      go_meet
      case rel => exact ⟨_, (decide ((l1.length : Int) > 64)), (by first | rfl | (simp; done) | (simp [*]; done)), H', ⟨by first | omega | exact Nat.le_refl _⟩, ⟨by repeat (first | (with_reducible first | exact HB.out | apply below_alloc | apply pw_below_drewN | apply below_drew1) | exact HB.out)⟩⟩
    · replace c5 := Bool.eq_false_iff.mpr c5
      subst c5
      have H1 : (matrix_Rows.j0 k l0 l1 true) = some (r1, r2) := by rw [if_neg (show ¬ (false = true) by decide)] at H; exact H
      clear H
      have H := H1
      clear H1
      have H' := Aside0.mk H
      clear H
      go_wp2_with (first | ((with_reducible refine gate_callee (f := 17) rfl ?_); refine goesL_ (some 10) rfl rfl Try.func17 (by kernel_rfl) rfl #[.slice A0 l0.length c0] rfl (by (try simp only [List.map_toArray, List.map_cons, List.map_nil]); first | done | rfl | (simp only [List.length_drop, List.length_take]; rfl)) ?_; (with_reducible refine (matrix_Valid.calls _ _ l0 false _ ?side1 ?side2 A4.out).mono ?_); (case side1 => repeat (first | exact (Kd.C_below HR0.out HB.out) | (with_reducible refine Kd.C_alloc ?_ _) | (with_reducible refine Kd.C_drewN ?_ _) | (with_reducible refine Kd.C_drew ?_))); (case side2 => exact HC0.out); rintro e w7 ⟨rfl, hb⟩; refine ⟨_, rfl, ?_⟩; have n0_ := Aside0.mk (below_step (by repeat (first | (with_reducible first | exact HB.out | apply below_alloc | apply pw_below_drewN | apply below_drew1) | exact HB.out)) hb); clear HB; have HB := n0_; clear n0_; (try clear hb); (try clear hb2); (try clear hk); (try clear hi)))
      go_meet
      case rel => exact ⟨_, (true), (by first | rfl | (simp; done) | (simp [*]; done)), H', ⟨by first | omega | exact Nat.le_refl _⟩, ⟨by repeat (first | (with_reducible first | exact HB.out | apply below_alloc | apply pw_below_drewN | apply below_drew1) | exact HB.out)⟩⟩
  case rest =>
    clear HC3; (try clear c1); (try clear p2); (try clear c4); (try clear c5)
    obtain ⟨kq, x16_2, rfl, HA, HJ2, HB⟩ := hcut
    cases kq with
    | zero => exact absurd HA.out (by simp [matrix_Rows.j0])
    | succ kj2 =>
      have H := HA.out
      clear HA
      simp only [matrix_Rows.j0] at H
      by_cases c8 : x16_2 = true
      · subst c8
        have H1 : (some (([] : List (List Int)), 1)) = some (r1, r2) := by rw [if_pos rfl] at H; exact H
        clear H
        have H := H1
        clear H1
        simp only [Option.some.injEq, Prod.mk.injEq] at H
        obtain ⟨rfl, rfl⟩ := H
        go_wp2
        go_ret2
        exact ⟨_, by first | rfl | (simp [errW_none, errW_some] <;> rfl) | (simp [*, errW_none, errW_some] <;> rfl), by first | exact Kd.S_nil _ _ _ _ _ | exact Kd.N_nil _ _ _ _ _ | exact Kd.V_nil _ _ _ _ _ | exact Kd.Q_nil _ _ _ _ _ | exact Kd.R_nil _ _ _ _ _, by repeat (first | (with_reducible first | exact HB.out | apply below_alloc | apply pw_below_drewN | apply below_drew1) | exact HB.out)⟩
      · replace c8 := Bool.eq_false_iff.mpr c8
        subst c8
        have H0 : (if l1.length ≤ 64 then (matrix_Rows.l0 kj2 l0 (([] : List (List Int))) l1 (l1.length : Int) 0) else none) = some (r1, r2) := by rw [if_neg (show ¬ (false = true) by decide)] at H; exact H
        have hz64 : l1.length ≤ 64 := by
          by_cases hz : l1.length ≤ 64
          · exact hz
          · rw [if_neg hz] at H0; cases H0
        have HZ := Aside0.mk hz64
        have H1 : (matrix_Rows.l0 kj2 l0 (([] : List (List Int))) l1 (l1.length : Int) 0) = some (r1, r2) := by rw [if_pos hz64] at H0; exact H0
        clear H0 hz64; clear H
        have H := H1
        clear H1
        obtain ⟨y102, hy102⟩ : ∃ y_ : List (List Int), y_ = (([] : List (List Int))) := ⟨_, rfl⟩
        replace H : (matrix_Rows.l0 kj2 l0 y102 l1 (l1.length : Int) 0) = some (r1, r2) := by first | (rw [hy102]; with_reducible exact H) | (have H2_ := (Option.bind_some _ _).symm.trans H; rw [hy102]; with_reducible exact H2_) | (have H2_ := (Option.bind_some _ _).symm.trans H; with_reducible exact H2_) | with_reducible exact H | (rw [hy102]; exact H) | exact H
        have Ny102 := Aside0.mk hy102
        clear hy102
        have H' := Aside0.mk H
        clear H
        go_wp2_with (first | ((with_reducible refine gate_dst (N := 19) rfl ?_); (try (refine gate_guard (by rfl) ?_; dsimp only)); refine S_make0 (Kd.slice 5 (Kd.int .u8)) _ 34 ?hg (N := 19) ?hd 22 (.const (.int .i64 0)) (.tmp 18) rfl (l1.length : Int) rfl rfl Try.underlying22 (.slice none 0 0) 24 info34 (by decide) (ok := fun _ => True) trivial (by omega) ?hl (Below.refl _ _) (Nat.le_refl _) ?_; (case hd => rfl); (case hg => rfl); (case hl => have := HZ.out; rw [Int.toNat_natCast]; omega); intro v103 w9 ho10 hb; rw [← Ny102.out] at ho10; have n0_ := Aside0.mk (Kd.S_lower ho10 (below_size (by repeat (first | (with_reducible first | exact HB.out | apply below_alloc | apply pw_below_drewN | apply below_drew1) | exact HB.out)))); have n1_ := Aside0.mk (below_step (by repeat (first | (with_reducible first | exact HB.out | apply below_alloc | apply pw_below_drewN | apply below_drew1) | exact HB.out)) hb); clear HB; have HO104 := n0_; have HB := n1_; clear n0_ n1_; clear hb ho10))
        go_loopg [6, 22] kj2 (fun kq v6 v22 w' => ∃ (x6_2 : List (List Int)) (x22_2 : Int), v22 = .int .i64 x22_2 ∧ Aside0 (matrix_Rows.l0 kq l0 x6_2 l1 (l1.length : Int) x22_2 = some (r1, r2)) ∧ Aside0 (kq ≤ kj2) ∧ Aside0 (Kd.S (Kd.slice 5 (Kd.int .u8)) 34 w' w.heap.size (fun _ => True) v6 x6_2) ∧ Aside0 (Below w.heap.size w w'))
        case atStart => exact ⟨(y102), (0), (by first | rfl | (simp; done) | (simp [*]; done)), H', ⟨Nat.le_refl _⟩, ⟨by (with_reducible repeat (first | apply Kd.S_alloc | apply Kd.S_drewN | apply Kd.S_drew)); exact HO104.out⟩, ⟨by repeat (first | (with_reducible first | exact HB.out | apply below_alloc | apply pw_below_drewN | apply below_drew1) | exact HB.out)⟩⟩
        case round =>
          clear H'; (try clear c1); (try clear p2); (try clear c4); (try clear c5); (try clear c8); (try clear p2)
          obtain ⟨x6_2, x22_2, rfl, HA, HK2, HO_6, HB⟩ := hrel
          cases gk with
          | zero => exact absurd HA.out (by simp [matrix_Rows.l0])
          | succ k2 =>
            have H := HA.out
            clear HA
            simp only [matrix_Rows.l0] at H
            by_cases c11 : x22_2 < (l1.length : Int)
            · rw [if_pos c11] at H
              have c11b0 : decide (x22_2 < (l1.length : Int)) = true := decide_eq_true c11
              clear c11
              by_cases c12 : 0 ≤ x22_2
              · rw [if_pos c12] at H
                have c12b0 : decide (0 ≤ x22_2) = true := decide_eq_true c12
                clear c12
                by_cases c13 : x22_2 < (l1.length : Int)
                · rw [if_pos c13] at H
                  have c13b0 : decide (x22_2 < (l1.length : Int)) = true := decide_eq_true c13
                  clear c13
                  by_cases c14 : (rd l1 x22_2) < 0
                  · rw [if_pos c14] at H
                    have c14b0 : decide ((rd l1 x22_2) < 0) = true := decide_eq_true c14
                    clear c14
                    simp only [Option.some.injEq, Prod.mk.injEq] at H
                    obtain ⟨rfl, rfl⟩ := H
                    have p105 : 0 ≤ (x22_2 : Int) := of_decide_eq_true (by first | (with_reducible assumption) | assumption)
                    have q105 : x22_2 < (l1.length : Int) := of_decide_eq_true (by first | (with_reducible assumption) | assumption)
                    obtain ⟨ad105, e105, hx105_0⟩ := Kd.at_int HR1.out x22_2 p105 q105
                    cases e105
                    replace hx105_0 := (HB.out.cell (World.block_lt_of_cell? w _ hx105_0)).trans hx105_0
                    replace p105 := eq_true p105
                    replace q105 := eq_true q105
                    go_wp2
                    go_ret2
                    exact ⟨_, by first | rfl | (simp [errW_none, errW_some] <;> rfl) | (simp [*, errW_none, errW_some] <;> rfl), by first | exact Kd.S_nil _ _ _ _ _ | exact Kd.N_nil _ _ _ _ _ | exact Kd.V_nil _ _ _ _ _ | exact Kd.Q_nil _ _ _ _ _ | exact Kd.R_nil _ _ _ _ _, by repeat (first | (with_reducible first | exact HB.out | apply below_alloc | apply pw_below_drewN | apply below_drew1) | exact HB.out)⟩
                  · rw [if_neg c14] at H
                    have c14b0 : decide ((rd l1 x22_2) < 0) = false := decide_eq_false c14
                    clear c14
                    by_cases c15 : (rd l1 x22_2) ≥ (l0.length : Int)
                    · rw [if_pos c15] at H
                      have c15b0 : decide ((l0.length : Int) ≤ (rd l1 x22_2)) = true := decide_eq_true c15
                      clear c15
                      simp only [Option.some.injEq, Prod.mk.injEq] at H
                      obtain ⟨rfl, rfl⟩ := H
                      have p105 : 0 ≤ (x22_2 : Int) := of_decide_eq_true (by first | (with_reducible assumption) | assumption)
                      have q105 : x22_2 < (l1.length : Int) := of_decide_eq_true (by first | (with_reducible assumption) | assumption)
                      obtain ⟨ad105, e105, hx105_0⟩ := Kd.at_int HR1.out x22_2 p105 q105
                      cases e105
                      replace hx105_0 := (HB.out.cell (World.block_lt_of_cell? w _ hx105_0)).trans hx105_0
                      replace p105 := eq_true p105
                      replace q105 := eq_true q105
                      go_wp2
                      go_ret2
                      exact ⟨_, by first | rfl | (simp [errW_none, errW_some] <;> rfl) | (simp [*, errW_none, errW_some] <;> rfl), by first | exact Kd.S_nil _ _ _ _ _ | exact Kd.N_nil _ _ _ _ _ | exact Kd.V_nil _ _ _ _ _ | exact Kd.Q_nil _ _ _ _ _ | exact Kd.R_nil _ _ _ _ _, by repeat (first | (with_reducible first | exact HB.out | apply below_alloc | apply pw_below_drewN | apply below_drew1) | exact HB.out)⟩
                    · rw [if_neg c15] at H
                      have c15b0 : decide ((l0.length : Int) ≤ (rd l1 x22_2)) = false := decide_eq_false c15
                      clear c15
                      by_cases c16 : 0 ≤ (rd l1 x22_2)
                      · rw [if_pos c16] at H
                        have c16b0 : decide (0 ≤ (rd l1 x22_2)) = true := decide_eq_true c16
                        clear c16
                        by_cases c17 : (rd l1 x22_2) < (l0.length : Int)
                        · rw [if_pos c17] at H
                          have c17b0 : decide ((rd l1 x22_2) < (l0.length : Int)) = true := decide_eq_true c17
                          clear c17
                          replace H := Option.bind_eq_some_iff.mp H
                          obtain ⟨t107, A180, H⟩ := H
                          replace H : (if x6_2.length < 5864062014805 then (matrix_Rows.l0 k2 l0 (x6_2 ++ [t107]) l1 (l1.length : Int) (wrap64 (x22_2 + 1))) else (none)) = some (r1, r2) := H
                          have A18 := Aside0.mk A180
                          clear A180
                          by_cases c19 : x6_2.length < 5864062014805
                          · rw [if_pos c19] at H
                            have LMc19 := Aside0.mk c19
                            clear c19
                            obtain ⟨y110, hy110⟩ : ∃ y_ : List (List Int), y_ = (x6_2 ++ [t107]) := ⟨_, rfl⟩
                            replace H : (matrix_Rows.l0 k2 l0 y110 l1 (l1.length : Int) (wrap64 (x22_2 + 1))) = some (r1, r2) := by first | (rw [hy110]; with_reducible exact H) | (have H2_ := (Option.bind_some _ _).symm.trans H; rw [hy110]; with_reducible exact H2_) | (have H2_ := (Option.bind_some _ _).symm.trans H; with_reducible exact H2_) | with_reducible exact H | (rw [hy110]; exact H) | exact H
                            have Ny110 := Aside0.mk hy110
                            clear hy110
                            have H' := Aside0.mk H
                            clear H
                            have p105 : 0 ≤ (x22_2 : Int) := of_decide_eq_true (by first | (with_reducible assumption) | assumption)
                            have q105 : x22_2 < (l1.length : Int) := of_decide_eq_true (by first | (with_reducible assumption) | assumption)
                            obtain ⟨ad105, e105, hx105_0⟩ := Kd.at_int HR1.out x22_2 p105 q105
                            cases e105
                            replace hx105_0 := (HB.out.cell (World.block_lt_of_cell? w _ hx105_0)).trans hx105_0
                            replace p105 := eq_true p105
                            replace q105 := eq_true q105
                            have p106 : 0 ≤ ((rd l1 x22_2) : Int) := of_decide_eq_true (by first | (with_reducible assumption) | assumption)
                            have q106 : (rd l1 x22_2) < (l0.length : Int) := of_decide_eq_true (by first | (with_reducible assumption) | assumption)
                            obtain ⟨ad106, A106_0, c106_0, e106, hx106_0, hl106_0, hi106_0⟩ := at_L1 HR0.out (rd l1 x22_2) p106 q106
                            cases e106
                            replace hx106_0 := (HB.out.cell (World.block_lt_of_cell? w _ hx106_0)).trans hx106_0
                            have HR106_0 := Aside0.mk hi106_0
                            have HC106_0 := Aside0.mk hl106_0
                            clear hi106_0 hl106_0
                            replace p106 := eq_true p106
                            replace q106 := eq_true q106
                            go_wp2_with (first | ((with_reducible refine gate_callee (f := 63) rfl ?_); refine goesL_ (some 39) rfl rfl Try.func63 (by kernel_rfl) rfl #[.slice A106_0 (rd_L1 l0 (rd l1 x22_2)).length c106_0] rfl (by (try simp only [List.map_toArray, List.map_cons, List.map_nil]); first | done | rfl | (simp only [List.length_drop, List.length_take]; rfl)) ?_; (with_reducible refine (slices_Clone_byte_byte.calls _ _ (rd_L1 l0 (rd l1 x22_2)) t107 _ ?side1 ?side2 A18.out).mono ?_); (case side1 => repeat (first | exact (Kd.C_below HR106_0.out HB.out) | (with_reducible refine Kd.C_alloc ?_ _) | (with_reducible refine Kd.C_drewN ?_ _) | (with_reducible refine Kd.C_drew ?_))); (case side2 => exact HC106_0.out); rintro e w20 ⟨v108, rfl, ho0, hb⟩; refine ⟨_, rfl, ?_⟩; have n0_ := Aside0.mk (Kd.S_elder' (by (with_reducible repeat (first | apply Kd.S_alloc | apply Kd.S_drewN | apply Kd.S_drew)); exact HO_6.out) (Kd.R_base ho0) hb); have n1_ := Aside0.mk (Kd.R_lower ho0 (below_size (by repeat (first | (with_reducible first | exact HB.out | apply below_alloc | apply pw_below_drewN | apply below_drew1) | exact HB.out)))); have n2_ := Aside0.mk (below_step (by repeat (first | (with_reducible first | exact HB.out | apply below_alloc | apply pw_below_drewN | apply below_drew1) | exact HB.out)) hb); clear HO_6; clear HB; have HO_6 := n0_; have HO109 := n1_; have HB := n2_; clear n0_ n1_ n2_; (try clear hb); (try clear hb2); (try clear hk); (try clear hi); (try clear ho0); obtain ⟨Ao22, co22, eo22⟩ := Kd.R_slice HO109.out; subst eo22) | ((with_reducible refine gate_builtin (b := .append) (xs := #[.tmp 34, .tmp 40]) rfl ?_); (try (refine gate_guard (by rfl) ?_; dsimp only)); at_builtin; refine Kd.S_append (Kd.slice 5 (Kd.int .u8)) (w0 := w) w.heap.size rfl (.tmp 34) (.tmp 40) 22 34 (.slice none 0 0) 24 rfl Try.underlying22 info34 rfl (by decide) (by omega) u6 x6_2 t107 [.slice Ao22 t107.length co22] (fun _ => True) (fun k_ => some k_ = (.slice Ao22 t107.length co22 : Value).ownBlock) rfl rfl ?aP (fun k_ hk_ => ((Kd.R_mono (ok' := fun k_ => ((fun _ => True)) k_ ∧ some k_ ≠ (u6 : Value).ownBlock) (Kd.R_apart' (HO109.out) (Kd.S_typed HO_6.out) (by decide)) (fun k_ hk => ⟨trivial, hk.2⟩))).1 k_ hk_.symm) ?aF ?aO ?aB ?aS ?aL ?_; (case aP => exact Kd.M_row (Kd.R_mono (Kd.R_tight rfl (Kd.R_mono (ok' := fun k_ => ((fun _ => True)) k_ ∧ some k_ ≠ (u6 : Value).ownBlock) (Kd.R_apart' (HO109.out) (Kd.S_typed HO_6.out) (by decide)) (fun k_ hk => ⟨trivial, hk.2⟩))) (fun _ h_ => h_))); (case aB => exact (by repeat (first | (with_reducible first | exact HB.out | apply below_alloc | apply pw_below_drewN | apply below_drew1) | exact HB.out))); (case aF => exact (fun _ _ => trivial)); (case aO => exact (by (with_reducible repeat (first | apply Kd.S_alloc | apply Kd.S_drewN | apply Kd.S_drew)); exact Kd.S_mono HO_6.out (fun k_ hk => ⟨trivial, fun e_ => hk.2 e_⟩))); (case aS => exact (below_size (by repeat (first | (with_reducible first | exact HB.out | apply below_alloc | apply pw_below_drewN | apply below_drew1) | exact HB.out)))); (case aL => have := LMc19.out; omega); intro v111 w21 ho hb hg hat; rw [← Ny110.out] at ho; have n0_ := Aside0.mk (hb); have n1_ := Aside0.mk (ho); clear HB; clear HO_6; clear HO109; have HB := n0_; have HO112 := n1_; clear n0_ n1_; clear ho hb hg hat))
                            go_roundg k2
                            case measure => have := HJ2.out; have := HK2.out; omega
                            case rel => exact ⟨(y110), (wrap64 (x22_2 + 1)), (by first | rfl | (simp; done) | (simp [*]; done)), H', ⟨by have := HJ2.out; have := HK2.out; omega⟩, ⟨by (with_reducible repeat (first | apply Kd.S_alloc | apply Kd.S_drewN | apply Kd.S_drew)); exact HO112.out⟩, ⟨by repeat (first | (with_reducible first | exact HB.out | apply below_alloc | apply pw_below_drewN | apply below_drew1) | exact HB.out)⟩⟩
                          · rw [if_neg c19] at H
                            exact absurd H (by simp)
                        · rw [if_neg c17] at H
                          exact absurd H (by simp)
                      · rw [if_neg c16] at H
                        exact absurd H (by simp)
                · rw [if_neg c13] at H
                  exact absurd H (by simp)
              · rw [if_neg c12] at H
                exact absurd H (by simp)
            · rw [if_neg c11] at H
              have c11b0 : decide (x22_2 < (l1.length : Int)) = false := decide_eq_false c11
              clear c11
              simp only [Option.some.injEq, Prod.mk.injEq] at H
              obtain ⟨rfl, rfl⟩ := H
              go_wp2
              go_ret2
              exact ⟨_, by first | rfl | (simp [errW_none, errW_some] <;> rfl) | (simp [*, errW_none, errW_some] <;> rfl), by (with_reducible repeat (first | apply Kd.S_alloc | apply Kd.S_drewN | apply Kd.S_drew)); exact HO_6.out, by repeat (first | (with_reducible first | exact HB.out | apply below_alloc | apply pw_below_drewN | apply below_drew1) | exact HB.out)⟩
end Go.Proofs.Ytpkghpljgjlmjaa.K
-- Lines of this claim, written by the session's own program kprint.py (it runs print.py).
namespace Go.Proofs.Ytpkghpljgjlmjaa.K
open Go.RowKit Go.Proofs.YtpkghpljgjlmjaaW.PrintWords Go.Proofs.YtpkghpljgjlmjaaW.PrintLast Go.Proofs.YtpkghpljgjlmjaaW.PrintMore
attribute [local go_sem] max2_int min2_int max_two min_two max_three min_three max_four min_four   -- for this text's walks alone
set_option linter.unusedVariables false
set_option linter.unusedSimpArgs false

/-! ### kinkeeplaw04_MatrixPicks: function 10 -/
mutual
def kinkeeplaw04_MatrixPicks.j0 : Nat → List (List Int) → List Int → Bool → Option (Bool)
  | 0, _, _, _ => none
  | k + 1, x0, x1, x18 => if x18 = true then ((kinkeeplaw04_awake.f).bind fun t102 => (some t102)) else ((matrix_Transpose.f k x0).bind fun bt103 => ((matrix_Rows.f k x0 x1).bind fun bt107 => ((kinkeepref04_Valid.f k x0).bind fun t111 => (if t111 = true then (if bt103.2 = 0 then ((kinkeepref04_Transpose.f k x0).bind fun t113 => ((kinkeepref04_Same.f k bt103.1 t113).bind fun t116 => (kinkeeplaw04_MatrixPicks.j1 k x0 x1 bt107.1 bt107.2 (!t116)))) else (kinkeeplaw04_MatrixPicks.j1 k x0 x1 bt107.1 bt107.2 true)) else ((kinkeeplaw04_awake.f).bind fun t112 => (if t112 = true then (if bt103.2 = 1 then (if bt107.2 = 1 then (if (bt103.1.length : Int) = 0 then (some ((bt107.1.length : Int) == 0)) else (some false)) else (some false)) else (some false)) else (some false)))))))
def kinkeeplaw04_MatrixPicks.j1 : Nat → List (List Int) → List Int → List (List Int) → Int → Bool → Option (Bool)
  | 0, _, _, _, _, _ => none
  | k + 1, x0, x1, x7, x8, x61 => if x61 = true then (some false) else (kinkeeplaw04_MatrixPicks.l0 k x0 x1 x7 x8 (([] : List (List Int))) 0)
def kinkeeplaw04_MatrixPicks.l0 : Nat → List (List Int) → List Int → List (List Int) → Int → List (List Int) → Int → Option (Bool)
  | 0, _, _, _, _, _, _ => none
  | k + 1, x0, x1, x7, x8, x9, x10 => if x10 < (x1.length : Int) then (if 0 ≤ x10 then (if (rd x1 x10) < 0 then ((kinkeeplaw04_awake.f).bind fun t121 => (if t121 = true then (if x8 = 1 then (some ((x7.length : Int) == 0)) else (some false)) else (some false))) else (if (rd x1 x10) ≥ (x0.length : Int) then ((kinkeeplaw04_awake.f).bind fun t123 => (if t123 = true then (if x8 = 1 then (some ((x7.length : Int) == 0)) else (some false)) else (some false))) else (if 0 ≤ (rd x1 x10) then (if (rd x1 x10) < (x0.length : Int) then (if x9.length < 5864062014805 then (kinkeeplaw04_MatrixPicks.l0 k x0 x1 x7 x8 (x9 ++ [rd_L1 x0 (rd x1 x10)]) (wrap64 (x10 + 1))) else (none)) else (none)) else (none)))) else (none)) else ((kinkeeplaw04_awake.f).bind fun t129 => (if t129 = true then (if x8 = 0 then ((kinkeepref04_Same.f k x7 x9).bind fun t130 => (some t130)) else (some false)) else (some false)))
end
def kinkeeplaw04_MatrixPicks.f (k : Nat) (l0 : List (List Int)) (l1 : List Int) : Option (Bool) := (kinkeeplaw04_few.f k l0 8).bind fun t101 => (if t101 = true then (kinkeeplaw04_MatrixPicks.j0 k l0 l1 (decide ((l1.length : Int) > 10))) else (kinkeeplaw04_MatrixPicks.j0 k l0 l1 true))
set_option maxHeartbeats 8000000 in
set_option maxRecDepth 100000 in
theorem kinkeeplaw04_MatrixPicks.calls (k : Nat) (P0_ : Nat → Prop) (A0 : Option Addr) (c0 : Nat) (l0 : List (List Int)) (A1 : Option Addr) (c1 : Nat) (l1 : List Int) (r : Bool) (w : World) (hs0 : Kd.V (Kd.slice 5 (Kd.int .u8)) 34 w w.heap.size (fun k_ => P0_ k_) (.slice A0 l0.length c0) l0) (hr1 : Kd.C (Kd.int .i64) w A1 l1.length l1) (hc1 : l1.length ≤ c1) (h : kinkeeplaw04_MatrixPicks.f k l0 l1 = some r) :
    Calls Try.prog 10 #[.slice A0 l0.length c0, .slice A1 l1.length c1] w fun e w' => e = .returned (.bool r) ∧ Below w.heap.size w w' := by
  have HO0 := Aside0.mk (show Kd.V (Kd.slice 5 (Kd.int .u8)) 34 w w.heap.size (fun k_ => (P0_ k_ ∨ w.heap.size ≤ k_)) (.slice A0 l0.length c0) l0 from Kd.V_mono hs0 (fun k_ hk => .inl hk))
  have HR1 := Aside0.mk hr1
  have HC1 := Aside0.mk hc1
  clear hr1 hc1
  have HB := Aside0.mk (Below.refl w.heap.size w)
  have H : ((kinkeeplaw04_few.f k l0 8).bind fun t101 => (if t101 = true then (kinkeeplaw04_MatrixPicks.j0 k l0 l1 (decide ((l1.length : Int) > 10))) else (kinkeeplaw04_MatrixPicks.j0 k l0 l1 true))) = some r := h
  clear h
  have HC3 := Aside0.mk H
  clear H
  go_enter Try.func10, Try.ntmps10
  go_upto_region 1 with (fail)
  go_cut [18] (fun v18 wc => ∃ (kq : Nat) (x18_2 : Bool), v18 = .bool x18_2 ∧ Aside0 (kinkeeplaw04_MatrixPicks.j0 kq l0 l1 x18_2 = some r) ∧ Aside0 (kq ≤ k) ∧ Aside0 (Kd.V (Kd.slice 5 (Kd.int .u8)) 34 wc w.heap.size (fun k_ => (P0_ k_ ∨ w.heap.size ≤ k_)) (.slice A0 l0.length c0) l0) ∧ Aside0 (Below w.heap.size w wc))
  case first =>
    have H := HC3.out
    clear HC3
    replace H := Option.bind_eq_some_iff.mp H
    obtain ⟨t101, A40, H⟩ := H
    replace H : (if t101 = true then (kinkeeplaw04_MatrixPicks.j0 k l0 l1 (decide ((l1.length : Int) > 10))) else (kinkeeplaw04_MatrixPicks.j0 k l0 l1 true)) = some r := H
    have A4 := Aside0.mk A40
    clear A40
    by_cases c5 : t101 = true
    · subst c5
      have H1 : (kinkeeplaw04_MatrixPicks.j0 k l0 l1 (decide ((l1.length : Int) > 10))) = some r := by rw [if_pos rfl] at H; exact H
      clear H
      have H := H1
      clear H1
      have H' := Aside0.mk H
      clear H
      go_wp2_with (first | ((with_reducible refine gate_callee (f := 15) rfl ?_); refine goesL_ (some 12) rfl rfl Try.func15 (by kernel_rfl) rfl #[.slice A0 l0.length c0, .int .i64 8] rfl (by (try simp only [List.map_toArray, List.map_cons, List.map_nil]); first | done | rfl | (simp only [List.length_drop, List.length_take]; rfl)) ?_; (with_reducible refine (kinkeeplaw04_few.calls k _ _ l0 8 true _ ?side1 ?side2 A4.out).mono ?_); (case side1 => repeat (first | exact (Kd.V_reads' HO0.out).2.2 | (with_reducible refine Kd.C_alloc ?_ _) | (with_reducible refine Kd.C_drewN ?_ _) | (with_reducible refine Kd.C_drew ?_))); (case side2 => exact (Kd.V_reads' HO0.out).2.1); rintro e w' ⟨rfl, ⟨nd, rfl⟩⟩; refine ⟨_, rfl, ?_⟩))
      go_meet
      case rel => exact ⟨_, (decide ((l1.length : Int) > 10)), (by first | rfl | (simp; done) | (simp [*]; done)), H', ⟨by first | omega | exact Nat.le_refl _⟩, ⟨by (with_reducible repeat (first | apply Kd.V_alloc | apply Kd.V_drewN | apply Kd.V_drew)); exact HO0.out⟩, ⟨by repeat (first | (with_reducible first | exact HB.out | apply below_alloc | apply pw_below_drewN | apply below_drew1) | exact HB.out)⟩⟩
    · replace c5 := Bool.eq_false_iff.mpr c5
      subst c5
      have H1 : (kinkeeplaw04_MatrixPicks.j0 k l0 l1 true) = some r := by rw [if_neg (show ¬ (false = true) by decide)] at H; exact H
      clear H
      have H := H1
      clear H1
      have H' := Aside0.mk H
      clear H
      go_wp2_with (first | ((with_reducible refine gate_callee (f := 15) rfl ?_); refine goesL_ (some 12) rfl rfl Try.func15 (by kernel_rfl) rfl #[.slice A0 l0.length c0, .int .i64 8] rfl (by (try simp only [List.map_toArray, List.map_cons, List.map_nil]); first | done | rfl | (simp only [List.length_drop, List.length_take]; rfl)) ?_; (with_reducible refine (kinkeeplaw04_few.calls k _ _ l0 8 false _ ?side1 ?side2 A4.out).mono ?_); (case side1 => repeat (first | exact (Kd.V_reads' HO0.out).2.2 | (with_reducible refine Kd.C_alloc ?_ _) | (with_reducible refine Kd.C_drewN ?_ _) | (with_reducible refine Kd.C_drew ?_))); (case side2 => exact (Kd.V_reads' HO0.out).2.1); rintro e w' ⟨rfl, ⟨nd, rfl⟩⟩; refine ⟨_, rfl, ?_⟩))
      go_meet
      case rel => exact ⟨_, (true), (by first | rfl | (simp; done) | (simp [*]; done)), H', ⟨by first | omega | exact Nat.le_refl _⟩, ⟨by (with_reducible repeat (first | apply Kd.V_alloc | apply Kd.V_drewN | apply Kd.V_drew)); exact HO0.out⟩, ⟨by repeat (first | (with_reducible first | exact HB.out | apply below_alloc | apply pw_below_drewN | apply below_drew1) | exact HB.out)⟩⟩
  case rest =>
    clear HC3; (try clear c1); (try clear p2); (try clear c5)
    obtain ⟨kq, x18_2, rfl, HA, HJ2, HO_0, HB⟩ := hcut
    cases kq with
    | zero => exact absurd HA.out (by simp [kinkeeplaw04_MatrixPicks.j0])
    | succ kj2 =>
      have H := HA.out
      clear HA
      simp only [kinkeeplaw04_MatrixPicks.j0] at H
      by_cases c6 : x18_2 = true
      · subst c6
        have H1 : ((kinkeeplaw04_awake.f).bind fun t102 => (some t102)) = some r := by rw [if_pos rfl] at H; exact H
        clear H
        have H := H1
        clear H1
        replace H := Option.bind_eq_some_iff.mp H
        obtain ⟨t102, A70, H⟩ := H
        replace H : (some t102) = some r := H
        have A7 := Aside0.mk A70
        clear A70
        obtain rfl := Option.some.inj H
        go_wp2_with (first | ((with_reducible refine gate_callee (f := 16) rfl ?_); refine goesL_ (some 19) rfl rfl Try.func16 (by kernel_rfl) rfl #[] rfl (by (try simp only [List.map_toArray, List.map_cons, List.map_nil]); first | done | rfl | (simp only [List.length_drop, List.length_take]; rfl)) ?_; (with_reducible refine (kinkeeplaw04_awake.calls  t102 _ A7.out).mono ?_); rintro e w8 ⟨rfl, hb⟩; refine ⟨_, rfl, ?_⟩; have n0_ := Aside0.mk (Kd.V_below (by (with_reducible repeat (first | apply Kd.V_alloc | apply Kd.V_drewN | apply Kd.V_drew)); exact HO_0.out) hb); have n1_ := Aside0.mk (below_step (by repeat (first | (with_reducible first | exact HB.out | apply below_alloc | apply pw_below_drewN | apply below_drew1) | exact HB.out)) hb); clear HO_0; clear HB; have HO_0 := n0_; have HB := n1_; clear n0_ n1_; (try clear hb); (try clear hb2); (try clear hk); (try clear hi)))
        go_ret
        exact ⟨by first | rfl | (simp [errW_none, errW_some] <;> rfl) | (simp [*, errW_none, errW_some] <;> rfl), by repeat (first | (with_reducible first | exact HB.out | apply below_alloc | apply pw_below_drewN | apply below_drew1) | exact HB.out)⟩
      · replace c6 := Bool.eq_false_iff.mpr c6
        subst c6
        have H1 : ((matrix_Transpose.f kj2 l0).bind fun bt103 => ((matrix_Rows.f kj2 l0 l1).bind fun bt107 => ((kinkeepref04_Valid.f kj2 l0).bind fun t111 => (if t111 = true then (if bt103.2 = 0 then ((kinkeepref04_Transpose.f kj2 l0).bind fun t113 => ((kinkeepref04_Same.f kj2 bt103.1 t113).bind fun t116 => (kinkeeplaw04_MatrixPicks.j1 kj2 l0 l1 bt107.1 bt107.2 (!t116)))) else (kinkeeplaw04_MatrixPicks.j1 kj2 l0 l1 bt107.1 bt107.2 true)) else ((kinkeeplaw04_awake.f).bind fun t112 => (if t112 = true then (if bt103.2 = 1 then (if bt107.2 = 1 then (if (bt103.1.length : Int) = 0 then (some ((bt107.1.length : Int) == 0)) else (some false)) else (some false)) else (some false)) else (some false))))))) = some r := by rw [if_neg (show ¬ (false = true) by decide)] at H; exact H
        clear H
        have H := H1
        clear H1
        replace H := Option.bind_eq_some_iff.mp H
        obtain ⟨⟨t103, t104⟩, A90, H⟩ := H
        replace H : ((matrix_Rows.f kj2 l0 l1).bind fun bt107 => ((kinkeepref04_Valid.f kj2 l0).bind fun t111 => (if t111 = true then (if t104 = 0 then ((kinkeepref04_Transpose.f kj2 l0).bind fun t113 => ((kinkeepref04_Same.f kj2 t103 t113).bind fun t116 => (kinkeeplaw04_MatrixPicks.j1 kj2 l0 l1 bt107.1 bt107.2 (!t116)))) else (kinkeeplaw04_MatrixPicks.j1 kj2 l0 l1 bt107.1 bt107.2 true)) else ((kinkeeplaw04_awake.f).bind fun t112 => (if t112 = true then (if t104 = 1 then (if bt107.2 = 1 then (if (t103.length : Int) = 0 then (some ((bt107.1.length : Int) == 0)) else (some false)) else (some false)) else (some false)) else (some false)))))) = some r := H
        have A9 := Aside0.mk A90
        clear A90
        replace H := Option.bind_eq_some_iff.mp H
        obtain ⟨⟨t107, t108⟩, A100, H⟩ := H
        replace H : ((kinkeepref04_Valid.f kj2 l0).bind fun t111 => (if t111 = true then (if t104 = 0 then ((kinkeepref04_Transpose.f kj2 l0).bind fun t113 => ((kinkeepref04_Same.f kj2 t103 t113).bind fun t116 => (kinkeeplaw04_MatrixPicks.j1 kj2 l0 l1 t107 t108 (!t116)))) else (kinkeeplaw04_MatrixPicks.j1 kj2 l0 l1 t107 t108 true)) else ((kinkeeplaw04_awake.f).bind fun t112 => (if t112 = true then (if t104 = 1 then (if t108 = 1 then (if (t103.length : Int) = 0 then (some ((t107.length : Int) == 0)) else (some false)) else (some false)) else (some false)) else (some false))))) = some r := H
        have A10 := Aside0.mk A100
        clear A100
        replace H := Option.bind_eq_some_iff.mp H
        obtain ⟨t111, A110, H⟩ := H
        replace H : (if t111 = true then (if t104 = 0 then ((kinkeepref04_Transpose.f kj2 l0).bind fun t113 => ((kinkeepref04_Same.f kj2 t103 t113).bind fun t116 => (kinkeeplaw04_MatrixPicks.j1 kj2 l0 l1 t107 t108 (!t116)))) else (kinkeeplaw04_MatrixPicks.j1 kj2 l0 l1 t107 t108 true)) else ((kinkeeplaw04_awake.f).bind fun t112 => (if t112 = true then (if t104 = 1 then (if t108 = 1 then (if (t103.length : Int) = 0 then (some ((t107.length : Int) == 0)) else (some false)) else (some false)) else (some false)) else (some false)))) = some r := H
        have A11 := Aside0.mk A110
        clear A110
        by_cases c12 : t111 = true
        · subst c12
          have H1 : (if t104 = 0 then ((kinkeepref04_Transpose.f kj2 l0).bind fun t113 => ((kinkeepref04_Same.f kj2 t103 t113).bind fun t116 => (kinkeeplaw04_MatrixPicks.j1 kj2 l0 l1 t107 t108 (!t116)))) else (kinkeeplaw04_MatrixPicks.j1 kj2 l0 l1 t107 t108 true)) = some r := by rw [if_pos rfl] at H; exact H
          clear H
          have H := H1
          clear H1
          have HC13 := Aside0.mk H
          clear H
          go_upto_region 7 with (first | ((with_reducible refine gate_callee (f := 45) rfl ?_); refine goesL_ (some 22) rfl rfl Try.func45 (by kernel_rfl) rfl #[.slice A0 l0.length c0] rfl (by (try simp only [List.map_toArray, List.map_cons, List.map_nil]); first | done | rfl | (simp only [List.length_drop, List.length_take]; rfl)) ?_; (with_reducible refine (matrix_Transpose.calls kj2 _ _ l0 t103 t104 _ ?side1 ?side2 A9.out).mono ?_); (case side1 => repeat (first | exact (Kd.V_reads' HO_0.out).2.2 | (with_reducible refine Kd.C_alloc ?_ _) | (with_reducible refine Kd.C_drewN ?_ _) | (with_reducible refine Kd.C_drew ?_))); (case side2 => exact (Kd.V_reads' HO_0.out).2.1); rintro e w14 ⟨v105, rfl, ho0, hb⟩; refine ⟨_, rfl, ?_⟩; have n0_ := Aside0.mk (Kd.V_elder' (by (with_reducible repeat (first | apply Kd.V_alloc | apply Kd.V_drewN | apply Kd.V_drew)); exact HO_0.out) (by first | exact Kd.N_base ho0 | exact Kd.S_base ho0) hb); have n1_ := Aside0.mk (Kd.N_lower (Kd.N_mono (ok' := fun k_ => (P0_ k_ ∨ w.heap.size ≤ k_)) (Kd.S_N (Kd.S_bound ho0)) (fun k_ hk_ => (.inr (Nat.le_trans (below_size (by repeat (first | (with_reducible first | exact HB.out | apply below_alloc | apply pw_below_drewN | apply below_drew1) | exact HB.out))) hk_.2.1)))) (below_size (by repeat (first | (with_reducible first | exact HB.out | apply below_alloc | apply pw_below_drewN | apply below_drew1) | exact HB.out)))); have n2_ := Aside0.mk (below_step (by repeat (first | (with_reducible first | exact HB.out | apply below_alloc | apply pw_below_drewN | apply below_drew1) | exact HB.out)) hb); clear HO_0; clear HB; have HO_0 := n0_; have HO106 := n1_; have HB := n2_; clear n0_ n1_ n2_; (try clear hb); (try clear hb2); (try clear hk); (try clear hi); (try clear ho0)) | ((with_reducible refine gate_callee (f := 46) rfl ?_); refine goesL_ (some 28) rfl rfl Try.func46 (by kernel_rfl) rfl #[.slice A0 l0.length c0, .slice A1 l1.length c1] rfl (by (try simp only [List.map_toArray, List.map_cons, List.map_nil]); first | done | rfl | (simp only [List.length_drop, List.length_take]; rfl)) ?_; (with_reducible refine (matrix_Rows.calls kj2 _ _ l0 _ _ l1 t107 t108 _ ?side1 ?side2 ?side3 ?side4 A10.out).mono ?_); (case side1 => repeat (first | exact (Kd.V_reads' HO_0.out).2.2 | (with_reducible refine Kd.C_alloc ?_ _) | (with_reducible refine Kd.C_drewN ?_ _) | (with_reducible refine Kd.C_drew ?_))); (case side2 => exact (Kd.V_reads' HO_0.out).2.1); (case side3 => repeat (first | exact (Kd.C_below HR1.out HB.out) | (with_reducible refine Kd.C_alloc ?_ _) | (with_reducible refine Kd.C_drewN ?_ _) | (with_reducible refine Kd.C_drew ?_))); (case side4 => exact HC1.out); rintro e w15 ⟨v109, rfl, ho0, hb⟩; refine ⟨_, rfl, ?_⟩; have n0_ := Aside0.mk (Kd.V_elder' (by (with_reducible repeat (first | apply Kd.V_alloc | apply Kd.V_drewN | apply Kd.V_drew)); exact HO_0.out) (by first | exact Kd.N_base ho0 | exact Kd.S_base ho0) hb); have n1_ := Aside0.mk (Kd.N_elder' (by (with_reducible repeat (first | apply Kd.N_alloc | apply Kd.N_drewN | apply Kd.N_drew)); exact HO106.out) (by first | exact Kd.N_base ho0 | exact Kd.S_base ho0) hb); have n2_ := Aside0.mk (Kd.N_lower (Kd.N_mono (ok' := fun k_ => (P0_ k_ ∨ w.heap.size ≤ k_) ∧ some k_ ≠ (v105 : Value).ownBlock) (Kd.S_N (Kd.S_bound ho0)) (fun k_ hk_ => ⟨(.inr (Nat.le_trans (below_size (by repeat (first | (with_reducible first | exact HB.out | apply below_alloc | apply pw_below_drewN | apply below_drew1) | exact HB.out))) hk_.2.1)), (Kd.fresh' (Kd.N_lt (by (with_reducible repeat (first | apply Kd.N_alloc | apply Kd.N_drewN | apply Kd.N_drew)); exact HO106.out)) k_ hk_.2.1)⟩)) (below_size (by repeat (first | (with_reducible first | exact HB.out | apply below_alloc | apply pw_below_drewN | apply below_drew1) | exact HB.out)))); have n3_ := Aside0.mk (below_step (by repeat (first | (with_reducible first | exact HB.out | apply below_alloc | apply pw_below_drewN | apply below_drew1) | exact HB.out)) hb); clear HO_0; clear HO106; clear HB; have HO_0 := n0_; have HO106 := n1_; have HO110 := n2_; have HB := n3_; clear n0_ n1_ n2_ n3_; (try clear hb); (try clear hb2); (try clear hk); (try clear hi); (try clear ho0)) | ((with_reducible refine gate_callee (f := 18) rfl ?_); refine goesL_ (some 32) rfl rfl Try.func18 (by kernel_rfl) rfl #[.slice A0 l0.length c0] rfl (by (try simp only [List.map_toArray, List.map_cons, List.map_nil]); first | done | rfl | (simp only [List.length_drop, List.length_take]; rfl)) ?_; (with_reducible refine (kinkeepref04_Valid.calls kj2 _ _ l0 true _ ?side1 ?side2 A11.out).mono ?_); (case side1 => repeat (first | exact (Kd.V_reads' HO_0.out).2.2 | (with_reducible refine Kd.C_alloc ?_ _) | (with_reducible refine Kd.C_drewN ?_ _) | (with_reducible refine Kd.C_drew ?_))); (case side2 => exact (Kd.V_reads' HO_0.out).2.1); rintro e w' ⟨rfl, ⟨nd, rfl⟩⟩; refine ⟨_, rfl, ?_⟩))
          (try simp only [Act.put, List.setIfInBounds_toArray, List.set_cons_zero, List.set_cons_succ])
          go_cut [61] (fun v61 wc => ∃ (kq : Nat) (x61_12 : Bool), v61 = .bool x61_12 ∧ Aside0 (kinkeeplaw04_MatrixPicks.j1 kq l0 l1 t107 t108 x61_12 = some r) ∧ Aside0 (kq ≤ kj2) ∧ Aside0 (Kd.V (Kd.slice 5 (Kd.int .u8)) 34 wc w.heap.size (fun k_ => (P0_ k_ ∨ w.heap.size ≤ k_) ∧ some k_ ≠ (v109 : Value).ownBlock) (.slice A0 l0.length c0) l0) ∧ Aside0 (Kd.N (Kd.slice 5 (Kd.int .u8)) 34 wc w.heap.size (fun k_ => (P0_ k_ ∨ w.heap.size ≤ k_)) v109 t107) ∧ Aside0 (Below w.heap.size w wc))
          case first =>
            have H := HC13.out
            clear HC13
            by_cases c16 : t104 = 0
            · rw [if_pos c16] at H
              have c16b0 : (t104 == 0) = true := beq_iff_eq.mpr c16
              have c16b1 : (t104 != 0) = false := bne_eq_false_iff_eq.mpr c16
              clear c16
              (first | rw [c16b0] | rw [c16b1] | rw [c16b2] | (simp only [i64_w, i32_w]; rw [c16b0]) | skip)
              replace H := Option.bind_eq_some_iff.mp H
              obtain ⟨t113, A170, H⟩ := H
              replace H : ((kinkeepref04_Same.f kj2 t103 t113).bind fun t116 => (kinkeeplaw04_MatrixPicks.j1 kj2 l0 l1 t107 t108 (!t116))) = some r := H
              have A17 := Aside0.mk A170
              clear A170
              replace H := Option.bind_eq_some_iff.mp H
              obtain ⟨t116, A180, H⟩ := H
              replace H : (kinkeeplaw04_MatrixPicks.j1 kj2 l0 l1 t107 t108 (!t116)) = some r := H
              have A18 := Aside0.mk A180
              clear A180
              have H' := Aside0.mk H
              clear H
              go_wp2_with (first | (go_at_call 47; (with_reducible refine (kinkeepref04_Transpose.calls kj2 _ _ l0 t113 _ ?side1 ?side2 A17.out).mono ?_); (case side1 => repeat (first | exact (Kd.V_reads' HO_0.out).2.2 | (with_reducible refine Kd.C_alloc ?_ _) | (with_reducible refine Kd.C_drewN ?_ _) | (with_reducible refine Kd.C_drew ?_))); (case side2 => exact (Kd.V_reads' HO_0.out).2.1); rintro e w19 ⟨v114, rfl, ho0, hb⟩; have n0_ := Aside0.mk (Kd.V_elder' (by (with_reducible repeat (first | apply Kd.V_alloc | apply Kd.V_drewN | apply Kd.V_drew)); exact HO_0.out) (by first | exact Kd.N_base ho0 | exact Kd.S_base ho0) hb); have n1_ := Aside0.mk (Kd.N_elder' (by (with_reducible repeat (first | apply Kd.N_alloc | apply Kd.N_drewN | apply Kd.N_drew)); exact HO106.out) (by first | exact Kd.N_base ho0 | exact Kd.S_base ho0) hb); have n2_ := Aside0.mk (Kd.N_elder' (by (with_reducible repeat (first | apply Kd.N_alloc | apply Kd.N_drewN | apply Kd.N_drew)); exact HO110.out) (by first | exact Kd.N_base ho0 | exact Kd.S_base ho0) hb); have n3_ := Aside0.mk (Kd.N_lower (Kd.N_mono (ok' := fun k_ => (P0_ k_ ∨ w.heap.size ≤ k_) ∧ some k_ ≠ (v105 : Value).ownBlock ∧ some k_ ≠ (v109 : Value).ownBlock) (Kd.S_N (Kd.S_bound ho0)) (fun k_ hk_ => ⟨(.inr (Nat.le_trans (below_size (by repeat (first | (with_reducible first | exact HB.out | apply below_alloc | apply pw_below_drewN | apply below_drew1) | exact HB.out))) hk_.2.1)), (Kd.fresh' (Kd.N_lt (by (with_reducible repeat (first | apply Kd.N_alloc | apply Kd.N_drewN | apply Kd.N_drew)); exact HO106.out)) k_ hk_.2.1), (Kd.fresh' (Kd.N_lt (by (with_reducible repeat (first | apply Kd.N_alloc | apply Kd.N_drewN | apply Kd.N_drew)); exact HO110.out)) k_ hk_.2.1)⟩)) (below_size (by repeat (first | (with_reducible first | exact HB.out | apply below_alloc | apply pw_below_drewN | apply below_drew1) | exact HB.out)))); have n4_ := Aside0.mk (below_step (by repeat (first | (with_reducible first | exact HB.out | apply below_alloc | apply pw_below_drewN | apply below_drew1) | exact HB.out)) hb); clear HO_0; clear HO106; clear HO110; clear HB; have HO_0 := n0_; have HO106 := n1_; have HO110 := n2_; have HO115 := n3_; have HB := n4_; clear n0_ n1_ n2_ n3_ n4_; (try clear hb); (try clear hb2); (try clear hk); (try clear hi); (try clear ho0); obtain ⟨Ao20, co20, eo20⟩ := Kd.N_slice HO106.out; subst eo20; obtain ⟨Ao21, co21, eo21⟩ := Kd.N_slice HO115.out; subst eo21) | (go_at_call 23; (with_reducible refine (kinkeepref04_Same.calls kj2 _ _ t103 _ _ t113 t116 _ ?side1 ?side2 ?side3 ?side4 A18.out).mono ?_); (case side1 => repeat (first | exact (Kd.N_reads' HO106.out).2.2 | (with_reducible refine Kd.C_alloc ?_ _) | (with_reducible refine Kd.C_drewN ?_ _) | (with_reducible refine Kd.C_drew ?_))); (case side2 => exact (Kd.N_reads' HO106.out).2.1); (case side3 => repeat (first | exact (Kd.N_reads' HO115.out).2.2 | (with_reducible refine Kd.C_alloc ?_ _) | (with_reducible refine Kd.C_drewN ?_ _) | (with_reducible refine Kd.C_drew ?_))); (case side4 => exact (Kd.N_reads' HO115.out).2.1); rintro e w' ⟨rfl, ⟨nd, rfl⟩⟩))
              go_meet
              case rel => exact ⟨_, (!t116), (by first | rfl | (simp; done) | (simp [*]; done)), H', ⟨by have := HJ2.out; first | omega | exact Nat.le_refl _⟩, ⟨by (with_reducible repeat (first | apply Kd.V_alloc | apply Kd.V_drewN | apply Kd.V_drew)); exact Kd.V_mono HO_0.out (fun _ hk => ⟨hk.1.1.1, hk.1.2⟩)⟩, ⟨by (with_reducible repeat (first | apply Kd.N_alloc | apply Kd.N_drewN | apply Kd.N_drew)); exact Kd.N_mono HO110.out (fun _ hk => hk.1.1)⟩, ⟨by repeat (first | (with_reducible first | exact HB.out | apply below_alloc | apply pw_below_drewN | apply below_drew1) | exact HB.out)⟩⟩
            · rw [if_neg c16] at H
              have c16b0 : (t104 == 0) = false := beq_eq_false_iff_ne.mpr c16
              have c16b1 : (t104 != 0) = true := bne_iff_ne.mpr c16
              (first | rw [c16b0] | rw [c16b1] | rw [c16b2] | (simp only [i64_w, i32_w]; rw [c16b0]) | skip)
              have H' := Aside0.mk H
              clear H
              go_wp2
              go_meet
              case rel => exact ⟨_, (true), (by first | rfl | (simp; done) | (simp [*]; done)), H', ⟨by have := HJ2.out; first | omega | exact Nat.le_refl _⟩, ⟨by (with_reducible repeat (first | apply Kd.V_alloc | apply Kd.V_drewN | apply Kd.V_drew)); exact Kd.V_mono HO_0.out (fun _ hk => ⟨hk.1.1, hk.2⟩)⟩, ⟨by (with_reducible repeat (first | apply Kd.N_alloc | apply Kd.N_drewN | apply Kd.N_drew)); exact Kd.N_mono HO110.out (fun _ hk => hk.1)⟩, ⟨by repeat (first | (with_reducible first | exact HB.out | apply below_alloc | apply pw_below_drewN | apply below_drew1) | exact HB.out)⟩⟩
          case rest =>
            clear HC13; (try clear c1); (try clear p2); (try clear c4); (try clear c5); (try clear c6); (try clear c10); (try clear c12); (try clear c15); (try clear c16); (try clear c16b0); (try clear c16b1); (try clear c18); (try clear p2)
            obtain ⟨kq, x61_12, rfl, HA, HJ12, HO_0, HO_7, HB⟩ := hcut
            cases kq with
            | zero => exact absurd HA.out (by simp [kinkeeplaw04_MatrixPicks.j1])
            | succ kj12 =>
              have H := HA.out
              clear HA
              simp only [kinkeeplaw04_MatrixPicks.j1] at H
              by_cases c22 : x61_12 = true
              · subst c22
                have H1 : (some false) = some r := by rw [if_pos rfl] at H; exact H
                clear H
                have H := H1
                clear H1
                obtain rfl := Option.some.inj H
                go_wp2
                go_ret
                exact ⟨by first | rfl | (simp [errW_none, errW_some] <;> rfl) | (simp [*, errW_none, errW_some] <;> rfl), by repeat (first | (with_reducible first | exact HB.out | apply below_alloc | apply pw_below_drewN | apply below_drew1) | exact HB.out)⟩
              · replace c22 := Bool.eq_false_iff.mpr c22
                subst c22
                have H1 : (kinkeeplaw04_MatrixPicks.l0 kj12 l0 l1 t107 t108 (([] : List (List Int))) 0) = some r := by rw [if_neg (show ¬ (false = true) by decide)] at H; exact H
                clear H
                have H := H1
                clear H1
                obtain ⟨y117, hy117⟩ : ∃ y_ : List (List Int), y_ = (([] : List (List Int))) := ⟨_, rfl⟩
                replace H : (kinkeeplaw04_MatrixPicks.l0 kj12 l0 l1 t107 t108 y117 0) = some r := by first | (rw [hy117]; with_reducible exact H) | (have H2_ := (Option.bind_some _ _).symm.trans H; rw [hy117]; with_reducible exact H2_) | (have H2_ := (Option.bind_some _ _).symm.trans H; with_reducible exact H2_) | with_reducible exact H | (rw [hy117]; exact H) | exact H
                have Ny117 := Aside0.mk hy117
                clear hy117
                have H' := Aside0.mk H
                clear H
                go_wp2_with (first | ((with_reducible refine gate_dst (N := 62) rfl ?_); (try (refine gate_guard (by rfl) ?_; dsimp only)); refine Kd.N_lit (Kd.slice 5 (Kd.int .u8)) _ 34 ?hg (N' := 62) ?hd (xs := ([] : List (List Int))) (inner := []) (ok := (fun k_ => (P0_ k_ ∨ w.heap.size ≤ k_) ∧ some k_ ≠ (v109 : Value).ownBlock)) (okp := (fun k_ => (P0_ k_ ∨ w.heap.size ≤ k_) ∧ some k_ ≠ (v109 : Value).ownBlock)) ?hr ?hp (fun _ hk => hk) ((show ∀ k_, wc.heap.size ≤ k_ → (fun k_ => (P0_ k_ ∨ w.heap.size ≤ k_) ∧ some k_ ≠ (v109 : Value).ownBlock) k_ from fun k_ hk => ⟨(.inr (Nat.le_trans (below_size (by repeat (first | (with_reducible first | exact HB.out | apply below_alloc | apply pw_below_drewN | apply below_drew1) | exact HB.out))) hk)), Kd.fresh' (Kd.N_lt (by (with_reducible repeat (first | apply Kd.N_alloc | apply Kd.N_drewN | apply Kd.N_drew)); exact HO_7.out)) k_ hk⟩) _ (Nat.le_refl _)) (Below.refl _ _) (Nat.le_refl _) (by simp) ?_; (case hd => rfl); (case hg => rfl); (case hr => first | (go_simp; done) | (go_simp; rfl)); (case hp => exact (Reps.none _ _)); intro v118 w23 ho24 hb hg_ hnew_; clear hg_ hnew_; (first | rw [← Ny117.out] at ho24 | (simp only [Int.reduceToNat] at ho24; rw [← Ny117.out] at ho24)); have n0_ := Aside0.mk (Kd.V_elder' (by (with_reducible repeat (first | apply Kd.V_alloc | apply Kd.V_drewN | apply Kd.V_drew)); exact HO_0.out) (by first | exact Kd.N_base ho24 | exact Kd.S_base ho24) hb); have n1_ := Aside0.mk (Kd.N_elder' (by (with_reducible repeat (first | apply Kd.N_alloc | apply Kd.N_drewN | apply Kd.N_drew)); exact HO_7.out) (by first | exact Kd.N_base ho24 | exact Kd.S_base ho24) hb); have n2_ := Aside0.mk (Kd.N_lower ho24 (below_size (by repeat (first | (with_reducible first | exact HB.out | apply below_alloc | apply pw_below_drewN | apply below_drew1) | exact HB.out)))); have n3_ := Aside0.mk (below_step (by repeat (first | (with_reducible first | exact HB.out | apply below_alloc | apply pw_below_drewN | apply below_drew1) | exact HB.out)) hb); clear HO_0; clear HO_7; clear HB; have HO_0 := n0_; have HO_7 := n1_; have HO119 := n2_; have HB := n3_; clear n0_ n1_ n2_ n3_; clear hb ho24))
                go_loopg [9, 10] kj12 (fun kq v9 v10 w' => ∃ (x9_3 : List (List Int)) (x10_3 : Int), v10 = .int .i64 x10_3 ∧ Aside0 (kinkeeplaw04_MatrixPicks.l0 kq l0 l1 t107 t108 x9_3 x10_3 = some r) ∧ Aside0 (kq ≤ kj12) ∧ Aside0 (Kd.V (Kd.slice 5 (Kd.int .u8)) 34 w' w.heap.size (fun k_ => (P0_ k_ ∨ w.heap.size ≤ k_) ∧ some k_ ≠ (v109 : Value).ownBlock ∧ some k_ ≠ (v9 : Value).ownBlock) (.slice A0 l0.length c0) l0) ∧ Aside0 (Kd.N (Kd.slice 5 (Kd.int .u8)) 34 w' w.heap.size (fun k_ => (P0_ k_ ∨ w.heap.size ≤ k_) ∧ some k_ ≠ (v9 : Value).ownBlock) v109 t107) ∧ Aside0 (Kd.N (Kd.slice 5 (Kd.int .u8)) 34 w' w.heap.size (fun k_ => (P0_ k_ ∨ w.heap.size ≤ k_) ∧ some k_ ≠ (v109 : Value).ownBlock) v9 x9_3) ∧ Aside0 (Below w.heap.size w w'))
                case atStart => exact ⟨(y117), (0), (by first | rfl | (simp; done) | (simp [*]; done)), H', ⟨Nat.le_refl _⟩, ⟨by (with_reducible repeat (first | apply Kd.V_alloc | apply Kd.V_drewN | apply Kd.V_drew)); exact Kd.V_mono HO_0.out (fun _ hk => ⟨hk.1.1, ⟨hk.1.2, hk.2⟩⟩)⟩, ⟨by (with_reducible repeat (first | apply Kd.N_alloc | apply Kd.N_drewN | apply Kd.N_drew)); exact HO_7.out⟩, ⟨by (with_reducible repeat (first | apply Kd.N_alloc | apply Kd.N_drewN | apply Kd.N_drew)); exact HO119.out⟩, ⟨by repeat (first | (with_reducible first | exact HB.out | apply below_alloc | apply pw_below_drewN | apply below_drew1) | exact HB.out)⟩⟩
                case round =>
                  clear H'; (try clear c1); (try clear c2); (try clear p2); (try clear c4); (try clear c5); (try clear c6); (try clear c10); (try clear c12); (try clear c15); (try clear c16); (try clear c16b0); (try clear c16b1); (try clear c18); (try clear c22); (try clear p2)
                  obtain ⟨x9_3, x10_3, rfl, HA, HK3, HO_0, HO_7, HO_9, HB⟩ := hrel
                  cases gk with
                  | zero => exact absurd HA.out (by simp [kinkeeplaw04_MatrixPicks.l0])
                  | succ k3 =>
                    have H := HA.out
                    clear HA
                    simp only [kinkeeplaw04_MatrixPicks.l0] at H
                    by_cases c25 : x10_3 < (l1.length : Int)
                    · rw [if_pos c25] at H
                      have c25b0 : decide (x10_3 < (l1.length : Int)) = true := decide_eq_true c25
                      clear c25
                      by_cases c26 : 0 ≤ x10_3
                      · rw [if_pos c26] at H
                        have c26b0 : decide (0 ≤ x10_3) = true := decide_eq_true c26
                        clear c26
                        by_cases c27 : (rd l1 x10_3) < 0
                        · rw [if_pos c27] at H
                          have c27b0 : decide ((rd l1 x10_3) < 0) = true := decide_eq_true c27
                          clear c27
                          replace H := Option.bind_eq_some_iff.mp H
                          obtain ⟨t121, A280, H⟩ := H
                          replace H : (if t121 = true then (if t108 = 1 then (some ((t107.length : Int) == 0)) else (some false)) else (some false)) = some r := H
                          have A28 := Aside0.mk A280
                          clear A280
                          by_cases c29 : t121 = true
                          · subst c29
                            have H1 : (if t108 = 1 then (some ((t107.length : Int) == 0)) else (some false)) = some r := by rw [if_pos rfl] at H; exact H
                            clear H
                            have H := H1
                            clear H1
                            by_cases c30 : t108 = 1
                            · rw [if_pos c30] at H
                              have c30b0 : (t108 == 1) = true := beq_iff_eq.mpr c30
                              have c30b1 : (t108 != 1) = false := bne_eq_false_iff_eq.mpr c30
                              clear c30
                              obtain rfl := Option.some.inj H
                              have p120 : 0 ≤ (x10_3 : Int) := of_decide_eq_true (by first | (with_reducible assumption) | assumption)
                              have q120 : x10_3 < (l1.length : Int) := of_decide_eq_true (by first | (with_reducible assumption) | assumption)
                              obtain ⟨ad120, e120, hx120_0⟩ := Kd.at_int HR1.out x10_3 p120 q120
                              cases e120
                              replace hx120_0 := (HB.out.cell (World.block_lt_of_cell? w _ hx120_0)).trans hx120_0
                              replace p120 := eq_true p120
                              replace q120 := eq_true q120
                              go_wp2_with (first | ((with_reducible refine gate_callee (f := 16) rfl ?_); refine goesL_ (some 83) rfl rfl Try.func16 (by kernel_rfl) rfl #[] rfl (by (try simp only [List.map_toArray, List.map_cons, List.map_nil]); first | done | rfl | (simp only [List.length_drop, List.length_take]; rfl)) ?_; (with_reducible refine (kinkeeplaw04_awake.calls  true _ A28.out).mono ?_); rintro e w31 ⟨rfl, hb⟩; refine ⟨_, rfl, ?_⟩; have n0_ := Aside0.mk (Kd.V_below (by (with_reducible repeat (first | apply Kd.V_alloc | apply Kd.V_drewN | apply Kd.V_drew)); exact HO_0.out) hb); have n1_ := Aside0.mk (Kd.N_below (by (with_reducible repeat (first | apply Kd.N_alloc | apply Kd.N_drewN | apply Kd.N_drew)); exact HO_7.out) hb); have n2_ := Aside0.mk (Kd.N_below (by (with_reducible repeat (first | apply Kd.N_alloc | apply Kd.N_drewN | apply Kd.N_drew)); exact HO_9.out) hb); have n3_ := Aside0.mk (below_step (by repeat (first | (with_reducible first | exact HB.out | apply below_alloc | apply pw_below_drewN | apply below_drew1) | exact HB.out)) hb); clear HO_0; clear HO_7; clear HO_9; clear HB; have HO_0 := n0_; have HO_7 := n1_; have HO_9 := n2_; have HB := n3_; clear n0_ n1_ n2_ n3_; (try clear hb); (try clear hb2); (try clear hk); (try clear hi); obtain ⟨Ao32, co32, eo32⟩ := Kd.N_slice HO_7.out; subst eo32))
                              go_ret
                              exact ⟨by first | rfl | (simp [errW_none, errW_some] <;> rfl) | (simp [*, errW_none, errW_some] <;> rfl), by repeat (first | (with_reducible first | exact HB.out | apply below_alloc | apply pw_below_drewN | apply below_drew1) | exact HB.out)⟩
                            · rw [if_neg c30] at H
                              have c30b0 : (t108 == 1) = false := beq_eq_false_iff_ne.mpr c30
                              have c30b1 : (t108 != 1) = true := bne_iff_ne.mpr c30
                              obtain rfl := Option.some.inj H
                              have p120 : 0 ≤ (x10_3 : Int) := of_decide_eq_true (by first | (with_reducible assumption) | assumption)
                              have q120 : x10_3 < (l1.length : Int) := of_decide_eq_true (by first | (with_reducible assumption) | assumption)
                              obtain ⟨ad120, e120, hx120_0⟩ := Kd.at_int HR1.out x10_3 p120 q120
                              cases e120
                              replace hx120_0 := (HB.out.cell (World.block_lt_of_cell? w _ hx120_0)).trans hx120_0
                              replace p120 := eq_true p120
                              replace q120 := eq_true q120
                              go_wp2_with (first | ((with_reducible refine gate_callee (f := 16) rfl ?_); refine goesL_ (some 83) rfl rfl Try.func16 (by kernel_rfl) rfl #[] rfl (by (try simp only [List.map_toArray, List.map_cons, List.map_nil]); first | done | rfl | (simp only [List.length_drop, List.length_take]; rfl)) ?_; (with_reducible refine (kinkeeplaw04_awake.calls  true _ A28.out).mono ?_); rintro e w33 ⟨rfl, hb⟩; refine ⟨_, rfl, ?_⟩; have n0_ := Aside0.mk (Kd.V_below (by (with_reducible repeat (first | apply Kd.V_alloc | apply Kd.V_drewN | apply Kd.V_drew)); exact HO_0.out) hb); have n1_ := Aside0.mk (Kd.N_below (by (with_reducible repeat (first | apply Kd.N_alloc | apply Kd.N_drewN | apply Kd.N_drew)); exact HO_7.out) hb); have n2_ := Aside0.mk (Kd.N_below (by (with_reducible repeat (first | apply Kd.N_alloc | apply Kd.N_drewN | apply Kd.N_drew)); exact HO_9.out) hb); have n3_ := Aside0.mk (below_step (by repeat (first | (with_reducible first | exact HB.out | apply below_alloc | apply pw_below_drewN | apply below_drew1) | exact HB.out)) hb); clear HO_0; clear HO_7; clear HO_9; clear HB; have HO_0 := n0_; have HO_7 := n1_; have HO_9 := n2_; have HB := n3_; clear n0_ n1_ n2_ n3_; (try clear hb); (try clear hb2); (try clear hk); (try clear hi)))
                              go_ret
                              exact ⟨by first | rfl | (simp [errW_none, errW_some] <;> rfl) | (simp [*, errW_none, errW_some] <;> rfl), by repeat (first | (with_reducible first | exact HB.out | apply below_alloc | apply pw_below_drewN | apply below_drew1) | exact HB.out)⟩
                          · replace c29 := Bool.eq_false_iff.mpr c29
                            subst c29
                            have H1 : (some false) = some r := by rw [if_neg (show ¬ (false = true) by decide)] at H; exact H
                            clear H
                            have H := H1
                            clear H1
                            obtain rfl := Option.some.inj H
                            have p120 : 0 ≤ (x10_3 : Int) := of_decide_eq_true (by first | (with_reducible assumption) | assumption)
                            have q120 : x10_3 < (l1.length : Int) := of_decide_eq_true (by first | (with_reducible assumption) | assumption)
                            obtain ⟨ad120, e120, hx120_0⟩ := Kd.at_int HR1.out x10_3 p120 q120
                            cases e120
                            replace hx120_0 := (HB.out.cell (World.block_lt_of_cell? w _ hx120_0)).trans hx120_0
                            replace p120 := eq_true p120
                            replace q120 := eq_true q120
                            go_wp2_with (first | ((with_reducible refine gate_callee (f := 16) rfl ?_); refine goesL_ (some 83) rfl rfl Try.func16 (by kernel_rfl) rfl #[] rfl (by (try simp only [List.map_toArray, List.map_cons, List.map_nil]); first | done | rfl | (simp only [List.length_drop, List.length_take]; rfl)) ?_; (with_reducible refine (kinkeeplaw04_awake.calls  false _ A28.out).mono ?_); rintro e w34 ⟨rfl, hb⟩; refine ⟨_, rfl, ?_⟩; have n0_ := Aside0.mk (Kd.V_below (by (with_reducible repeat (first | apply Kd.V_alloc | apply Kd.V_drewN | apply Kd.V_drew)); exact HO_0.out) hb); have n1_ := Aside0.mk (Kd.N_below (by (with_reducible repeat (first | apply Kd.N_alloc | apply Kd.N_drewN | apply Kd.N_drew)); exact HO_7.out) hb); have n2_ := Aside0.mk (Kd.N_below (by (with_reducible repeat (first | apply Kd.N_alloc | apply Kd.N_drewN | apply Kd.N_drew)); exact HO_9.out) hb); have n3_ := Aside0.mk (below_step (by repeat (first | (with_reducible first | exact HB.out | apply below_alloc | apply pw_below_drewN | apply below_drew1) | exact HB.out)) hb); clear HO_0; clear HO_7; clear HO_9; clear HB; have HO_0 := n0_; have HO_7 := n1_; have HO_9 := n2_; have HB := n3_; clear n0_ n1_ n2_ n3_; (try clear hb); (try clear hb2); (try clear hk); (try clear hi)))
                            go_ret
                            exact ⟨by first | rfl | (simp [errW_none, errW_some] <;> rfl) | (simp [*, errW_none, errW_some] <;> rfl), by repeat (first | (with_reducible first | exact HB.out | apply below_alloc | apply pw_below_drewN | apply below_drew1) | exact HB.out)⟩
                        · rw [if_neg c27] at H
                          have c27b0 : decide ((rd l1 x10_3) < 0) = false := decide_eq_false c27
                          clear c27
                          by_cases c35 : (rd l1 x10_3) ≥ (l0.length : Int)
                          · rw [if_pos c35] at H
                            have c35b0 : decide ((l0.length : Int) ≤ (rd l1 x10_3)) = true := decide_eq_true c35
                            clear c35
                            replace H := Option.bind_eq_some_iff.mp H
                            obtain ⟨t123, A360, H⟩ := H
                            replace H : (if t123 = true then (if t108 = 1 then (some ((t107.length : Int) == 0)) else (some false)) else (some false)) = some r := H
                            have A36 := Aside0.mk A360
                            clear A360
                            by_cases c37 : t123 = true
                            · subst c37
                              have H1 : (if t108 = 1 then (some ((t107.length : Int) == 0)) else (some false)) = some r := by rw [if_pos rfl] at H; exact H
                              clear H
                              have H := H1
                              clear H1
                              by_cases c38 : t108 = 1
                              · rw [if_pos c38] at H
                                have c38b0 : (t108 == 1) = true := beq_iff_eq.mpr c38
                                have c38b1 : (t108 != 1) = false := bne_eq_false_iff_eq.mpr c38
                                clear c38
                                obtain rfl := Option.some.inj H
                                have p120 : 0 ≤ (x10_3 : Int) := of_decide_eq_true (by first | (with_reducible assumption) | assumption)
                                have q120 : x10_3 < (l1.length : Int) := of_decide_eq_true (by first | (with_reducible assumption) | assumption)
                                obtain ⟨ad120, e120, hx120_0⟩ := Kd.at_int HR1.out x10_3 p120 q120
                                cases e120
                                replace hx120_0 := (HB.out.cell (World.block_lt_of_cell? w _ hx120_0)).trans hx120_0
                                replace p120 := eq_true p120
                                replace q120 := eq_true q120
                                have p122 : 0 ≤ (x10_3 : Int) := of_decide_eq_true (by first | (with_reducible assumption) | assumption)
                                have q122 : x10_3 < (l1.length : Int) := of_decide_eq_true (by first | (with_reducible assumption) | assumption)
                                obtain ⟨ad122, e122, hx122_0⟩ := Kd.at_int HR1.out x10_3 p122 q122
                                obtain rfl : ad120 = ad122 := (by injection e122)
                                replace hx122_0 := (HB.out.cell (World.block_lt_of_cell? w _ hx122_0)).trans hx122_0
                                replace p122 := eq_true p122
                                replace q122 := eq_true q122
                                go_wp2_with (first | ((with_reducible refine gate_callee (f := 16) rfl ?_); refine goesL_ (some 83) rfl rfl Try.func16 (by kernel_rfl) rfl #[] rfl (by (try simp only [List.map_toArray, List.map_cons, List.map_nil]); first | done | rfl | (simp only [List.length_drop, List.length_take]; rfl)) ?_; (with_reducible refine (kinkeeplaw04_awake.calls  true _ A36.out).mono ?_); rintro e w39 ⟨rfl, hb⟩; refine ⟨_, rfl, ?_⟩; have n0_ := Aside0.mk (Kd.V_below (by (with_reducible repeat (first | apply Kd.V_alloc | apply Kd.V_drewN | apply Kd.V_drew)); exact HO_0.out) hb); have n1_ := Aside0.mk (Kd.N_below (by (with_reducible repeat (first | apply Kd.N_alloc | apply Kd.N_drewN | apply Kd.N_drew)); exact HO_7.out) hb); have n2_ := Aside0.mk (Kd.N_below (by (with_reducible repeat (first | apply Kd.N_alloc | apply Kd.N_drewN | apply Kd.N_drew)); exact HO_9.out) hb); have n3_ := Aside0.mk (below_step (by repeat (first | (with_reducible first | exact HB.out | apply below_alloc | apply pw_below_drewN | apply below_drew1) | exact HB.out)) hb); clear HO_0; clear HO_7; clear HO_9; clear HB; have HO_0 := n0_; have HO_7 := n1_; have HO_9 := n2_; have HB := n3_; clear n0_ n1_ n2_ n3_; (try clear hb); (try clear hb2); (try clear hk); (try clear hi); obtain ⟨Ao40, co40, eo40⟩ := Kd.N_slice HO_7.out; subst eo40))
                                go_ret
                                exact ⟨by first | rfl | (simp [errW_none, errW_some] <;> rfl) | (simp [*, errW_none, errW_some] <;> rfl), by repeat (first | (with_reducible first | exact HB.out | apply below_alloc | apply pw_below_drewN | apply below_drew1) | exact HB.out)⟩
                              · rw [if_neg c38] at H
                                have c38b0 : (t108 == 1) = false := beq_eq_false_iff_ne.mpr c38
                                have c38b1 : (t108 != 1) = true := bne_iff_ne.mpr c38
                                obtain rfl := Option.some.inj H
                                have p120 : 0 ≤ (x10_3 : Int) := of_decide_eq_true (by first | (with_reducible assumption) | assumption)
                                have q120 : x10_3 < (l1.length : Int) := of_decide_eq_true (by first | (with_reducible assumption) | assumption)
                                obtain ⟨ad120, e120, hx120_0⟩ := Kd.at_int HR1.out x10_3 p120 q120
                                cases e120
                                replace hx120_0 := (HB.out.cell (World.block_lt_of_cell? w _ hx120_0)).trans hx120_0
                                replace p120 := eq_true p120
                                replace q120 := eq_true q120
                                have p122 : 0 ≤ (x10_3 : Int) := of_decide_eq_true (by first | (with_reducible assumption) | assumption)
                                have q122 : x10_3 < (l1.length : Int) := of_decide_eq_true (by first | (with_reducible assumption) | assumption)
                                obtain ⟨ad122, e122, hx122_0⟩ := Kd.at_int HR1.out x10_3 p122 q122
                                obtain rfl : ad120 = ad122 := (by injection e122)
                                replace hx122_0 := (HB.out.cell (World.block_lt_of_cell? w _ hx122_0)).trans hx122_0
                                replace p122 := eq_true p122
                                replace q122 := eq_true q122
                                go_wp2_with (first | ((with_reducible refine gate_callee (f := 16) rfl ?_); refine goesL_ (some 83) rfl rfl Try.func16 (by kernel_rfl) rfl #[] rfl (by (try simp only [List.map_toArray, List.map_cons, List.map_nil]); first | done | rfl | (simp only [List.length_drop, List.length_take]; rfl)) ?_; (with_reducible refine (kinkeeplaw04_awake.calls  true _ A36.out).mono ?_); rintro e w41 ⟨rfl, hb⟩; refine ⟨_, rfl, ?_⟩; have n0_ := Aside0.mk (Kd.V_below (by (with_reducible repeat (first | apply Kd.V_alloc | apply Kd.V_drewN | apply Kd.V_drew)); exact HO_0.out) hb); have n1_ := Aside0.mk (Kd.N_below (by (with_reducible repeat (first | apply Kd.N_alloc | apply Kd.N_drewN | apply Kd.N_drew)); exact HO_7.out) hb); have n2_ := Aside0.mk (Kd.N_below (by (with_reducible repeat (first | apply Kd.N_alloc | apply Kd.N_drewN | apply Kd.N_drew)); exact HO_9.out) hb); have n3_ := Aside0.mk (below_step (by repeat (first | (with_reducible first | exact HB.out | apply below_alloc | apply pw_below_drewN | apply below_drew1) | exact HB.out)) hb); clear HO_0; clear HO_7; clear HO_9; clear HB; have HO_0 := n0_; have HO_7 := n1_; have HO_9 := n2_; have HB := n3_; clear n0_ n1_ n2_ n3_; (try clear hb); (try clear hb2); (try clear hk); (try clear hi)))
                                go_ret
                                exact ⟨by first | rfl | (simp [errW_none, errW_some] <;> rfl) | (simp [*, errW_none, errW_some] <;> rfl), by repeat (first | (with_reducible first | exact HB.out | apply below_alloc | apply pw_below_drewN | apply below_drew1) | exact HB.out)⟩
                            · replace c37 := Bool.eq_false_iff.mpr c37
                              subst c37
                              have H1 : (some false) = some r := by rw [if_neg (show ¬ (false = true) by decide)] at H; exact H
                              clear H
                              have H := H1
                              clear H1
                              obtain rfl := Option.some.inj H
                              have p120 : 0 ≤ (x10_3 : Int) := of_decide_eq_true (by first | (with_reducible assumption) | assumption)
                              have q120 : x10_3 < (l1.length : Int) := of_decide_eq_true (by first | (with_reducible assumption) | assumption)
                              obtain ⟨ad120, e120, hx120_0⟩ := Kd.at_int HR1.out x10_3 p120 q120
                              cases e120
                              replace hx120_0 := (HB.out.cell (World.block_lt_of_cell? w _ hx120_0)).trans hx120_0
                              replace p120 := eq_true p120
                              replace q120 := eq_true q120
                              have p122 : 0 ≤ (x10_3 : Int) := of_decide_eq_true (by first | (with_reducible assumption) | assumption)
                              have q122 : x10_3 < (l1.length : Int) := of_decide_eq_true (by first | (with_reducible assumption) | assumption)
                              obtain ⟨ad122, e122, hx122_0⟩ := Kd.at_int HR1.out x10_3 p122 q122
                              obtain rfl : ad120 = ad122 := (by injection e122)
                              replace hx122_0 := (HB.out.cell (World.block_lt_of_cell? w _ hx122_0)).trans hx122_0
                              replace p122 := eq_true p122
                              replace q122 := eq_true q122
                              go_wp2_with (first | ((with_reducible refine gate_callee (f := 16) rfl ?_); refine goesL_ (some 83) rfl rfl Try.func16 (by kernel_rfl) rfl #[] rfl (by (try simp only [List.map_toArray, List.map_cons, List.map_nil]); first | done | rfl | (simp only [List.length_drop, List.length_take]; rfl)) ?_; (with_reducible refine (kinkeeplaw04_awake.calls  false _ A36.out).mono ?_); rintro e w42 ⟨rfl, hb⟩; refine ⟨_, rfl, ?_⟩; have n0_ := Aside0.mk (Kd.V_below (by (with_reducible repeat (first | apply Kd.V_alloc | apply Kd.V_drewN | apply Kd.V_drew)); exact HO_0.out) hb); have n1_ := Aside0.mk (Kd.N_below (by (with_reducible repeat (first | apply Kd.N_alloc | apply Kd.N_drewN | apply Kd.N_drew)); exact HO_7.out) hb); have n2_ := Aside0.mk (Kd.N_below (by (with_reducible repeat (first | apply Kd.N_alloc | apply Kd.N_drewN | apply Kd.N_drew)); exact HO_9.out) hb); have n3_ := Aside0.mk (below_step (by repeat (first | (with_reducible first | exact HB.out | apply below_alloc | apply pw_below_drewN | apply below_drew1) | exact HB.out)) hb); clear HO_0; clear HO_7; clear HO_9; clear HB; have HO_0 := n0_; have HO_7 := n1_; have HO_9 := n2_; have HB := n3_; clear n0_ n1_ n2_ n3_; (try clear hb); (try clear hb2); (try clear hk); (try clear hi)))
                              go_ret
                              exact ⟨by first | rfl | (simp [errW_none, errW_some] <;> rfl) | (simp [*, errW_none, errW_some] <;> rfl), by repeat (first | (with_reducible first | exact HB.out | apply below_alloc | apply pw_below_drewN | apply below_drew1) | exact HB.out)⟩
                          · rw [if_neg c35] at H
                            have c35b0 : decide ((l0.length : Int) ≤ (rd l1 x10_3)) = false := decide_eq_false c35
                            clear c35
                            by_cases c43 : 0 ≤ (rd l1 x10_3)
                            · rw [if_pos c43] at H
                              have c43b0 : decide (0 ≤ (rd l1 x10_3)) = true := decide_eq_true c43
                              clear c43
                              by_cases c44 : (rd l1 x10_3) < (l0.length : Int)
                              · rw [if_pos c44] at H
                                have c44b0 : decide ((rd l1 x10_3) < (l0.length : Int)) = true := decide_eq_true c44
                                clear c44
                                by_cases c45 : x9_3.length < 5864062014805
                                · rw [if_pos c45] at H
                                  have LMc45 := Aside0.mk c45
                                  clear c45
                                  obtain ⟨y126, hy126⟩ : ∃ y_ : List (List Int), y_ = (x9_3 ++ [rd_L1 l0 (rd l1 x10_3)]) := ⟨_, rfl⟩
                                  replace H : (kinkeeplaw04_MatrixPicks.l0 k3 l0 l1 t107 t108 y126 (wrap64 (x10_3 + 1))) = some r := by first | (rw [hy126]; with_reducible exact H) | (have H2_ := (Option.bind_some _ _).symm.trans H; rw [hy126]; with_reducible exact H2_) | (have H2_ := (Option.bind_some _ _).symm.trans H; with_reducible exact H2_) | with_reducible exact H | (rw [hy126]; exact H) | exact H
                                  have Ny126 := Aside0.mk hy126
                                  clear hy126
                                  have H' := Aside0.mk H
                                  clear H
                                  have p120 : 0 ≤ (x10_3 : Int) := of_decide_eq_true (by first | (with_reducible assumption) | assumption)
                                  have q120 : x10_3 < (l1.length : Int) := of_decide_eq_true (by first | (with_reducible assumption) | assumption)
                                  obtain ⟨ad120, e120, hx120_0⟩ := Kd.at_int HR1.out x10_3 p120 q120
                                  cases e120
                                  replace hx120_0 := (HB.out.cell (World.block_lt_of_cell? w _ hx120_0)).trans hx120_0
                                  replace p120 := eq_true p120
                                  replace q120 := eq_true q120
                                  have p122 : 0 ≤ (x10_3 : Int) := of_decide_eq_true (by first | (with_reducible assumption) | assumption)
                                  have q122 : x10_3 < (l1.length : Int) := of_decide_eq_true (by first | (with_reducible assumption) | assumption)
                                  obtain ⟨ad122, e122, hx122_0⟩ := Kd.at_int HR1.out x10_3 p122 q122
                                  obtain rfl : ad120 = ad122 := (by injection e122)
                                  replace hx122_0 := (HB.out.cell (World.block_lt_of_cell? w _ hx122_0)).trans hx122_0
                                  replace p122 := eq_true p122
                                  replace q122 := eq_true q122
                                  have p124 : 0 ≤ (x10_3 : Int) := of_decide_eq_true (by first | (with_reducible assumption) | assumption)
                                  have q124 : x10_3 < (l1.length : Int) := of_decide_eq_true (by first | (with_reducible assumption) | assumption)
                                  obtain ⟨ad124, e124, hx124_0⟩ := Kd.at_int HR1.out x10_3 p124 q124
                                  obtain rfl : ad120 = ad124 := (by injection e124)
                                  replace hx124_0 := (HB.out.cell (World.block_lt_of_cell? w _ hx124_0)).trans hx124_0
                                  replace p124 := eq_true p124
                                  replace q124 := eq_true q124
                                  have p125 : 0 ≤ ((rd l1 x10_3) : Int) := of_decide_eq_true (by first | (with_reducible assumption) | assumption)
                                  have q125 : (rd l1 x10_3) < (l0.length : Int) := of_decide_eq_true (by first | (with_reducible assumption) | assumption)
                                  obtain ⟨ad125, A125_0, c125_0, e125, hx125_0, hl125_0, hi125_0⟩ := at_L1 (Kd.V_reads' HO_0.out).2.2 (rd l1 x10_3) p125 q125
                                  cases e125
                                  obtain ⟨ce125, hce125, hMe125, hcc125⟩ := Kd.V_get HO_0.out [] (rd l1 x10_3) p125 (by first | exact q125 | exact of_decide_eq_true (by first | (with_reducible assumption) | assumption) | (have e_ := (Kd.V_reads' HO_0.out).1; omega))
                                  obtain ⟨ua125_0, uc125_0, rfl, ul125_0, ge125_0⟩ := Kd.FK_slice_open hMe125
                                  have hv125_0 := hcc125 0 _ rfl
                                  rw [Nat.add_zero, show ((Kd.slice 5 (Kd.int .u8))).sz = 1 from rfl, Nat.mul_one] at hv125_0
                                  replace hv125_0 := Option.some.inj (hv125_0.symm.trans hx125_0)
                                  injection hv125_0 with hva_ hvn_ hvc_
                                  rw [hva_] at ge125_0
                                  rw [hvc_] at ul125_0
                                  have HL125_0 := Aside0.mk (show Kd.V (Kd.int .u8) 5 _ w.heap.size _ _ (rd_L1 l0 (rd l1 x10_3)) from Kd.V_mk ul125_0 ge125_0)
                                  clear hva_ hvn_ hvc_ ge125_0 ul125_0; clear hcc125 hce125
                                  have HR125_0 := Aside0.mk hi125_0
                                  have HC125_0 := Aside0.mk hl125_0
                                  clear hi125_0 hl125_0
                                  replace p125 := eq_true p125
                                  replace q125 := eq_true q125
                                  go_wp2_with (first | ((with_reducible refine gate_builtin (b := .append) (xs := #[.tmp 93, .tmp 101]) rfl ?_); (try (refine gate_guard (by rfl) ?_; dsimp only)); at_builtin; refine Kd.N_append (Kd.slice 5 (Kd.int .u8)) (w0 := w) w.heap.size rfl (.tmp 93) (.tmp 101) 22 34 (.slice none 0 0) 24 rfl Try.underlying22 info34 rfl (by decide) (by omega) u9 x9_3 (rd_L1 l0 (rd l1 x10_3)) [.slice A125_0 (rd_L1 l0 (rd l1 x10_3)).length c125_0] (fun k_ => (P0_ k_ ∨ w.heap.size ≤ k_) ∧ some k_ ≠ (v109 : Value).ownBlock) (fun k_ => ((fun k_ => (P0_ k_ ∨ w.heap.size ≤ k_) ∧ some k_ ≠ (v109 : Value).ownBlock)) k_ ∧ some k_ ≠ (u9 : Value).ownBlock) rfl rfl ?aP (fun _ hk => hk) ?aF ?aO ?aB ?aS ?aL ?_; (case aP => exact (Kd.FK_slice_mk (Kd.V_reads' (Kd.V_mono (ok' := (fun k_ => ((fun k_ => (P0_ k_ ∨ w.heap.size ≤ k_) ∧ some k_ ≠ (v109 : Value).ownBlock)) k_ ∧ some k_ ≠ (u9 : Value).ownBlock)) (HL125_0.out) (fun k_ hk => ⟨⟨hk.1, hk.2.1⟩, hk.2.2⟩))).2.1 (Kd.V_F (Kd.V_mono (ok' := (fun k_ => ((fun k_ => (P0_ k_ ∨ w.heap.size ≤ k_) ∧ some k_ ≠ (v109 : Value).ownBlock)) k_ ∧ some k_ ≠ (u9 : Value).ownBlock)) (HL125_0.out) (fun k_ hk => ⟨⟨hk.1, hk.2.1⟩, hk.2.2⟩))))); (case aB => exact (by repeat (first | (with_reducible first | exact HB.out | apply below_alloc | apply pw_below_drewN | apply below_drew1) | exact HB.out))); (case aF => exact (fun k_ hk => ⟨(.inr (Nat.le_trans (below_size (by repeat (first | (with_reducible first | exact HB.out | apply below_alloc | apply pw_below_drewN | apply below_drew1) | exact HB.out))) hk)), Kd.fresh' (Kd.N_lt (by (with_reducible repeat (first | apply Kd.N_alloc | apply Kd.N_drewN | apply Kd.N_drew)); exact HO_7.out)) k_ hk⟩)); (case aO => exact (by (with_reducible repeat (first | apply Kd.N_alloc | apply Kd.N_drewN | apply Kd.N_drew)); exact HO_9.out)); (case aS => exact (below_size (by repeat (first | (with_reducible first | exact HB.out | apply below_alloc | apply pw_below_drewN | apply below_drew1) | exact HB.out)))); (case aL => have := LMc45.out; omega); intro v127 w46 ho hb hg hat; rw [← Ny126.out] at ho; have n0_ := Aside0.mk (Kd.V_afterv (ok := (fun k_ => (P0_ k_ ∨ w.heap.size ≤ k_) ∧ some k_ ≠ (v109 : Value).ownBlock)) (by (with_reducible repeat (first | apply Kd.V_alloc | apply Kd.V_drewN | apply Kd.V_drew)); exact Kd.V_mono HO_0.out (fun _ hk => ⟨⟨hk.1, hk.2.1⟩, hk.2.2⟩)) hg hat); have n1_ := Aside0.mk (Kd.N_afterv (ok := (fun k_ => (P0_ k_ ∨ w.heap.size ≤ k_))) (by (with_reducible repeat (first | apply Kd.N_alloc | apply Kd.N_drewN | apply Kd.N_drew)); exact HO_7.out) hg hat); have n2_ := Aside0.mk (Kd.V_afterv (ok := (fun k_ => (P0_ k_ ∨ w.heap.size ≤ k_) ∧ some k_ ≠ (v109 : Value).ownBlock)) (by (with_reducible repeat (first | apply Kd.V_alloc | apply Kd.V_drewN | apply Kd.V_drew)); exact Kd.V_mono HL125_0.out (fun _ hk => ⟨⟨hk.1, hk.2.1⟩, hk.2.2⟩)) hg hat); have n3_ := Aside0.mk (hb); have n4_ := Aside0.mk (ho); clear HO_0; clear HO_7; clear HL125_0; clear HB; clear HO_9; have HO_0 := n0_; have HO_7 := n1_; have HL125_0 := n2_; have HB := n3_; have HO128 := n4_; clear n0_ n1_ n2_ n3_ n4_; clear ho hb hg hat))
                                  go_roundg k3
                                  case measure => have := HJ2.out; have := HJ12.out; have := HK3.out; omega
                                  case rel => exact ⟨(y126), (wrap64 (x10_3 + 1)), (by first | rfl | (simp; done) | (simp [*]; done)), H', ⟨by have := HJ2.out; have := HJ12.out; have := HK3.out; omega⟩, ⟨by (with_reducible repeat (first | apply Kd.V_alloc | apply Kd.V_drewN | apply Kd.V_drew)); exact Kd.V_mono HO_0.out (fun _ hk => ⟨hk.1.1, ⟨hk.1.2, hk.2⟩⟩)⟩, ⟨by (with_reducible repeat (first | apply Kd.N_alloc | apply Kd.N_drewN | apply Kd.N_drew)); exact HO_7.out⟩, ⟨by (with_reducible repeat (first | apply Kd.N_alloc | apply Kd.N_drewN | apply Kd.N_drew)); exact HO128.out⟩, ⟨by repeat (first | (with_reducible first | exact HB.out | apply below_alloc | apply pw_below_drewN | apply below_drew1) | exact HB.out)⟩⟩
                                · rw [if_neg c45] at H
                                  exact absurd H (by simp)
                              · rw [if_neg c44] at H
                                exact absurd H (by simp)
                            · rw [if_neg c43] at H
                              exact absurd H (by simp)
                      · rw [if_neg c26] at H
                        exact absurd H (by simp)
                    · rw [if_neg c25] at H
                      have c25b0 : decide (x10_3 < (l1.length : Int)) = false := decide_eq_false c25
                      clear c25
                      replace H := Option.bind_eq_some_iff.mp H
                      obtain ⟨t129, A470, H⟩ := H
                      replace H : (if t129 = true then (if t108 = 0 then ((kinkeepref04_Same.f k3 t107 x9_3).bind fun t130 => (some t130)) else (some false)) else (some false)) = some r := H
                      have A47 := Aside0.mk A470
                      clear A470
                      by_cases c48 : t129 = true
                      · subst c48
                        have H1 : (if t108 = 0 then ((kinkeepref04_Same.f k3 t107 x9_3).bind fun t130 => (some t130)) else (some false)) = some r := by rw [if_pos rfl] at H; exact H
                        clear H
                        have H := H1
                        clear H1
                        by_cases c49 : t108 = 0
                        · rw [if_pos c49] at H
                          have c49b0 : (t108 == 0) = true := beq_iff_eq.mpr c49
                          have c49b1 : (t108 != 0) = false := bne_eq_false_iff_eq.mpr c49
                          clear c49
                          replace H := Option.bind_eq_some_iff.mp H
                          obtain ⟨t130, A500, H⟩ := H
                          replace H : (some t130) = some r := H
                          have A50 := Aside0.mk A500
                          clear A500
                          obtain rfl := Option.some.inj H
                          go_wp2_with (first | ((with_reducible refine gate_callee (f := 16) rfl ?_); refine goesL_ (some 103) rfl rfl Try.func16 (by kernel_rfl) rfl #[] rfl (by (try simp only [List.map_toArray, List.map_cons, List.map_nil]); first | done | rfl | (simp only [List.length_drop, List.length_take]; rfl)) ?_; (with_reducible refine (kinkeeplaw04_awake.calls  true _ A47.out).mono ?_); rintro e w51 ⟨rfl, hb⟩; refine ⟨_, rfl, ?_⟩; have n0_ := Aside0.mk (Kd.V_below (by (with_reducible repeat (first | apply Kd.V_alloc | apply Kd.V_drewN | apply Kd.V_drew)); exact HO_0.out) hb); have n1_ := Aside0.mk (Kd.N_below (by (with_reducible repeat (first | apply Kd.N_alloc | apply Kd.N_drewN | apply Kd.N_drew)); exact HO_7.out) hb); have n2_ := Aside0.mk (Kd.N_below (by (with_reducible repeat (first | apply Kd.N_alloc | apply Kd.N_drewN | apply Kd.N_drew)); exact HO_9.out) hb); have n3_ := Aside0.mk (below_step (by repeat (first | (with_reducible first | exact HB.out | apply below_alloc | apply pw_below_drewN | apply below_drew1) | exact HB.out)) hb); clear HO_0; clear HO_7; clear HO_9; clear HB; have HO_0 := n0_; have HO_7 := n1_; have HO_9 := n2_; have HB := n3_; clear n0_ n1_ n2_ n3_; (try clear hb); (try clear hb2); (try clear hk); (try clear hi); obtain ⟨Ao52, co52, eo52⟩ := Kd.N_slice HO_7.out; subst eo52; obtain ⟨Ao53, co53, eo53⟩ := Kd.N_slice HO_9.out; subst eo53) | (go_at_call 23; (with_reducible refine (kinkeepref04_Same.calls k3 _ _ t107 _ _ x9_3 t130 _ ?side1 ?side2 ?side3 ?side4 A50.out).mono ?_); (case side1 => repeat (first | exact (Kd.N_reads' HO_7.out).2.2 | (with_reducible refine Kd.C_alloc ?_ _) | (with_reducible refine Kd.C_drewN ?_ _) | (with_reducible refine Kd.C_drew ?_))); (case side2 => exact (Kd.N_reads' HO_7.out).2.1); (case side3 => repeat (first | exact (Kd.N_reads' HO_9.out).2.2 | (with_reducible refine Kd.C_alloc ?_ _) | (with_reducible refine Kd.C_drewN ?_ _) | (with_reducible refine Kd.C_drew ?_))); (case side4 => exact (Kd.N_reads' HO_9.out).2.1); rintro e w' ⟨rfl, ⟨nd, rfl⟩⟩))
                          go_ret
                          exact ⟨by first | rfl | (simp [errW_none, errW_some] <;> rfl) | (simp [*, errW_none, errW_some] <;> rfl), by repeat (first | (with_reducible first | exact HB.out | apply below_alloc | apply pw_below_drewN | apply below_drew1) | exact HB.out)⟩
                        · rw [if_neg c49] at H
                          have c49b0 : (t108 == 0) = false := beq_eq_false_iff_ne.mpr c49
                          have c49b1 : (t108 != 0) = true := bne_iff_ne.mpr c49
                          obtain rfl := Option.some.inj H
                          go_wp2_with (first | ((with_reducible refine gate_callee (f := 16) rfl ?_); refine goesL_ (some 103) rfl rfl Try.func16 (by kernel_rfl) rfl #[] rfl (by (try simp only [List.map_toArray, List.map_cons, List.map_nil]); first | done | rfl | (simp only [List.length_drop, List.length_take]; rfl)) ?_; (with_reducible refine (kinkeeplaw04_awake.calls  true _ A47.out).mono ?_); rintro e w54 ⟨rfl, hb⟩; refine ⟨_, rfl, ?_⟩; have n0_ := Aside0.mk (Kd.V_below (by (with_reducible repeat (first | apply Kd.V_alloc | apply Kd.V_drewN | apply Kd.V_drew)); exact HO_0.out) hb); have n1_ := Aside0.mk (Kd.N_below (by (with_reducible repeat (first | apply Kd.N_alloc | apply Kd.N_drewN | apply Kd.N_drew)); exact HO_7.out) hb); have n2_ := Aside0.mk (Kd.N_below (by (with_reducible repeat (first | apply Kd.N_alloc | apply Kd.N_drewN | apply Kd.N_drew)); exact HO_9.out) hb); have n3_ := Aside0.mk (below_step (by repeat (first | (with_reducible first | exact HB.out | apply below_alloc | apply pw_below_drewN | apply below_drew1) | exact HB.out)) hb); clear HO_0; clear HO_7; clear HO_9; clear HB; have HO_0 := n0_; have HO_7 := n1_; have HO_9 := n2_; have HB := n3_; clear n0_ n1_ n2_ n3_; (try clear hb); (try clear hb2); (try clear hk); (try clear hi)))
                          go_ret
                          exact ⟨by first | rfl | (simp [errW_none, errW_some] <;> rfl) | (simp [*, errW_none, errW_some] <;> rfl), by repeat (first | (with_reducible first | exact HB.out | apply below_alloc | apply pw_below_drewN | apply below_drew1) | exact HB.out)⟩
                      · replace c48 := Bool.eq_false_iff.mpr c48
                        subst c48
                        have H1 : (some false) = some r := by rw [if_neg (show ¬ (false = true) by decide)] at H; exact H
                        clear H
                        have H := H1
                        clear H1
                        obtain rfl := Option.some.inj H
                        go_wp2_with (first | ((with_reducible refine gate_callee (f := 16) rfl ?_); refine goesL_ (some 103) rfl rfl Try.func16 (by kernel_rfl) rfl #[] rfl (by (try simp only [List.map_toArray, List.map_cons, List.map_nil]); first | done | rfl | (simp only [List.length_drop, List.length_take]; rfl)) ?_; (with_reducible refine (kinkeeplaw04_awake.calls  false _ A47.out).mono ?_); rintro e w55 ⟨rfl, hb⟩; refine ⟨_, rfl, ?_⟩; have n0_ := Aside0.mk (Kd.V_below (by (with_reducible repeat (first | apply Kd.V_alloc | apply Kd.V_drewN | apply Kd.V_drew)); exact HO_0.out) hb); have n1_ := Aside0.mk (Kd.N_below (by (with_reducible repeat (first | apply Kd.N_alloc | apply Kd.N_drewN | apply Kd.N_drew)); exact HO_7.out) hb); have n2_ := Aside0.mk (Kd.N_below (by (with_reducible repeat (first | apply Kd.N_alloc | apply Kd.N_drewN | apply Kd.N_drew)); exact HO_9.out) hb); have n3_ := Aside0.mk (below_step (by repeat (first | (with_reducible first | exact HB.out | apply below_alloc | apply pw_below_drewN | apply below_drew1) | exact HB.out)) hb); clear HO_0; clear HO_7; clear HO_9; clear HB; have HO_0 := n0_; have HO_7 := n1_; have HO_9 := n2_; have HB := n3_; clear n0_ n1_ n2_ n3_; (try clear hb); (try clear hb2); (try clear hk); (try clear hi)))
                        go_ret
                        exact ⟨by first | rfl | (simp [errW_none, errW_some] <;> rfl) | (simp [*, errW_none, errW_some] <;> rfl), by repeat (first | (with_reducible first | exact HB.out | apply below_alloc | apply pw_below_drewN | apply below_drew1) | exact HB.out)⟩
        · replace c12 := Bool.eq_false_iff.mpr c12
          subst c12
          have H1 : ((kinkeeplaw04_awake.f).bind fun t112 => (if t112 = true then (if t104 = 1 then (if t108 = 1 then (if (t103.length : Int) = 0 then (some ((t107.length : Int) == 0)) else (some false)) else (some false)) else (some false)) else (some false))) = some r := by rw [if_neg (show ¬ (false = true) by decide)] at H; exact H
          clear H
          have H := H1
          clear H1
          replace H := Option.bind_eq_some_iff.mp H
          obtain ⟨t112, A560, H⟩ := H
          replace H : (if t112 = true then (if t104 = 1 then (if t108 = 1 then (if (t103.length : Int) = 0 then (some ((t107.length : Int) == 0)) else (some false)) else (some false)) else (some false)) else (some false)) = some r := H
          have A56 := Aside0.mk A560
          clear A560
          by_cases c57 : t112 = true
          · subst c57
            have H1 : (if t104 = 1 then (if t108 = 1 then (if (t103.length : Int) = 0 then (some ((t107.length : Int) == 0)) else (some false)) else (some false)) else (some false)) = some r := by rw [if_pos rfl] at H; exact H
            clear H
            have H := H1
            clear H1
            by_cases c58 : t104 = 1
            · rw [if_pos c58] at H
              have c58b0 : (t104 == 1) = true := beq_iff_eq.mpr c58
              have c58b1 : (t104 != 1) = false := bne_eq_false_iff_eq.mpr c58
              clear c58
              by_cases c59 : t108 = 1
              · rw [if_pos c59] at H
                have c59b0 : (t108 == 1) = true := beq_iff_eq.mpr c59
                have c59b1 : (t108 != 1) = false := bne_eq_false_iff_eq.mpr c59
                clear c59
                by_cases c60 : (t103.length : Int) = 0
                · rw [if_pos c60] at H
                  have c60b0 : ((t103.length : Int) == 0) = true := beq_iff_eq.mpr c60
                  have c60b1 : ((t103.length : Int) != 0) = false := bne_eq_false_iff_eq.mpr c60
                  clear c60
                  obtain rfl := Option.some.inj H
                  go_wp2_with (first | ((with_reducible refine gate_callee (f := 45) rfl ?_); refine goesL_ (some 22) rfl rfl Try.func45 (by kernel_rfl) rfl #[.slice A0 l0.length c0] rfl (by (try simp only [List.map_toArray, List.map_cons, List.map_nil]); first | done | rfl | (simp only [List.length_drop, List.length_take]; rfl)) ?_; (with_reducible refine (matrix_Transpose.calls kj2 _ _ l0 t103 t104 _ ?side1 ?side2 A9.out).mono ?_); (case side1 => repeat (first | exact (Kd.V_reads' HO_0.out).2.2 | (with_reducible refine Kd.C_alloc ?_ _) | (with_reducible refine Kd.C_drewN ?_ _) | (with_reducible refine Kd.C_drew ?_))); (case side2 => exact (Kd.V_reads' HO_0.out).2.1); rintro e w61 ⟨v105, rfl, ho0, hb⟩; refine ⟨_, rfl, ?_⟩; have n0_ := Aside0.mk (Kd.V_elder' (by (with_reducible repeat (first | apply Kd.V_alloc | apply Kd.V_drewN | apply Kd.V_drew)); exact HO_0.out) (by first | exact Kd.N_base ho0 | exact Kd.S_base ho0) hb); have n1_ := Aside0.mk (Kd.N_lower (Kd.N_mono (ok' := fun k_ => (P0_ k_ ∨ w.heap.size ≤ k_)) (Kd.S_N (Kd.S_bound ho0)) (fun k_ hk_ => (.inr (Nat.le_trans (below_size (by repeat (first | (with_reducible first | exact HB.out | apply below_alloc | apply pw_below_drewN | apply below_drew1) | exact HB.out))) hk_.2.1)))) (below_size (by repeat (first | (with_reducible first | exact HB.out | apply below_alloc | apply pw_below_drewN | apply below_drew1) | exact HB.out)))); have n2_ := Aside0.mk (below_step (by repeat (first | (with_reducible first | exact HB.out | apply below_alloc | apply pw_below_drewN | apply below_drew1) | exact HB.out)) hb); clear HO_0; clear HB; have HO_0 := n0_; have HO106 := n1_; have HB := n2_; clear n0_ n1_ n2_; (try clear hb); (try clear hb2); (try clear hk); (try clear hi); (try clear ho0)) | ((with_reducible refine gate_callee (f := 46) rfl ?_); refine goesL_ (some 28) rfl rfl Try.func46 (by kernel_rfl) rfl #[.slice A0 l0.length c0, .slice A1 l1.length c1] rfl (by (try simp only [List.map_toArray, List.map_cons, List.map_nil]); first | done | rfl | (simp only [List.length_drop, List.length_take]; rfl)) ?_; (with_reducible refine (matrix_Rows.calls kj2 _ _ l0 _ _ l1 t107 t108 _ ?side1 ?side2 ?side3 ?side4 A10.out).mono ?_); (case side1 => repeat (first | exact (Kd.V_reads' HO_0.out).2.2 | (with_reducible refine Kd.C_alloc ?_ _) | (with_reducible refine Kd.C_drewN ?_ _) | (with_reducible refine Kd.C_drew ?_))); (case side2 => exact (Kd.V_reads' HO_0.out).2.1); (case side3 => repeat (first | exact (Kd.C_below HR1.out HB.out) | (with_reducible refine Kd.C_alloc ?_ _) | (with_reducible refine Kd.C_drewN ?_ _) | (with_reducible refine Kd.C_drew ?_))); (case side4 => exact HC1.out); rintro e w62 ⟨v109, rfl, ho0, hb⟩; refine ⟨_, rfl, ?_⟩; have n0_ := Aside0.mk (Kd.V_elder' (by (with_reducible repeat (first | apply Kd.V_alloc | apply Kd.V_drewN | apply Kd.V_drew)); exact HO_0.out) (by first | exact Kd.N_base ho0 | exact Kd.S_base ho0) hb); have n1_ := Aside0.mk (Kd.N_elder' (by (with_reducible repeat (first | apply Kd.N_alloc | apply Kd.N_drewN | apply Kd.N_drew)); exact HO106.out) (by first | exact Kd.N_base ho0 | exact Kd.S_base ho0) hb); have n2_ := Aside0.mk (Kd.N_lower (Kd.N_mono (ok' := fun k_ => (P0_ k_ ∨ w.heap.size ≤ k_) ∧ some k_ ≠ (v105 : Value).ownBlock) (Kd.S_N (Kd.S_bound ho0)) (fun k_ hk_ => ⟨(.inr (Nat.le_trans (below_size (by repeat (first | (with_reducible first | exact HB.out | apply below_alloc | apply pw_below_drewN | apply below_drew1) | exact HB.out))) hk_.2.1)), (Kd.fresh' (Kd.N_lt (by (with_reducible repeat (first | apply Kd.N_alloc | apply Kd.N_drewN | apply Kd.N_drew)); exact HO106.out)) k_ hk_.2.1)⟩)) (below_size (by repeat (first | (with_reducible first | exact HB.out | apply below_alloc | apply pw_below_drewN | apply below_drew1) | exact HB.out)))); have n3_ := Aside0.mk (below_step (by repeat (first | (with_reducible first | exact HB.out | apply below_alloc | apply pw_below_drewN | apply below_drew1) | exact HB.out)) hb); clear HO_0; clear HO106; clear HB; have HO_0 := n0_; have HO106 := n1_; have HO110 := n2_; have HB := n3_; clear n0_ n1_ n2_ n3_; (try clear hb); (try clear hb2); (try clear hk); (try clear hi); (try clear ho0)) | ((with_reducible refine gate_callee (f := 18) rfl ?_); refine goesL_ (some 32) rfl rfl Try.func18 (by kernel_rfl) rfl #[.slice A0 l0.length c0] rfl (by (try simp only [List.map_toArray, List.map_cons, List.map_nil]); first | done | rfl | (simp only [List.length_drop, List.length_take]; rfl)) ?_; (with_reducible refine (kinkeepref04_Valid.calls kj2 _ _ l0 false _ ?side1 ?side2 A11.out).mono ?_); (case side1 => repeat (first | exact (Kd.V_reads' HO_0.out).2.2 | (with_reducible refine Kd.C_alloc ?_ _) | (with_reducible refine Kd.C_drewN ?_ _) | (with_reducible refine Kd.C_drew ?_))); (case side2 => exact (Kd.V_reads' HO_0.out).2.1); rintro e w' ⟨rfl, ⟨nd, rfl⟩⟩; refine ⟨_, rfl, ?_⟩) | ((with_reducible refine gate_callee (f := 16) rfl ?_); refine goesL_ (some 34) rfl rfl Try.func16 (by kernel_rfl) rfl #[] rfl (by (try simp only [List.map_toArray, List.map_cons, List.map_nil]); first | done | rfl | (simp only [List.length_drop, List.length_take]; rfl)) ?_; (with_reducible refine (kinkeeplaw04_awake.calls  true _ A56.out).mono ?_); rintro e w63 ⟨rfl, hb⟩; refine ⟨_, rfl, ?_⟩; have n0_ := Aside0.mk (Kd.V_below (by (with_reducible repeat (first | apply Kd.V_alloc | apply Kd.V_drewN | apply Kd.V_drew)); exact HO_0.out) hb); have n1_ := Aside0.mk (Kd.N_below (by (with_reducible repeat (first | apply Kd.N_alloc | apply Kd.N_drewN | apply Kd.N_drew)); exact HO106.out) hb); have n2_ := Aside0.mk (Kd.N_below (by (with_reducible repeat (first | apply Kd.N_alloc | apply Kd.N_drewN | apply Kd.N_drew)); exact HO110.out) hb); have n3_ := Aside0.mk (below_step (by repeat (first | (with_reducible first | exact HB.out | apply below_alloc | apply pw_below_drewN | apply below_drew1) | exact HB.out)) hb); clear HO_0; clear HO106; clear HO110; clear HB; have HO_0 := n0_; have HO106 := n1_; have HO110 := n2_; have HB := n3_; clear n0_ n1_ n2_ n3_; (try clear hb); (try clear hb2); (try clear hk); (try clear hi); obtain ⟨Ao64, co64, eo64⟩ := Kd.N_slice HO106.out; subst eo64; obtain ⟨Ao65, co65, eo65⟩ := Kd.N_slice HO110.out; subst eo65))
                  go_ret
                  exact ⟨by first | rfl | (simp [errW_none, errW_some] <;> rfl) | (simp [*, errW_none, errW_some] <;> rfl), by repeat (first | (with_reducible first | exact HB.out | apply below_alloc | apply pw_below_drewN | apply below_drew1) | exact HB.out)⟩
                · rw [if_neg c60] at H
                  have c60b0 : ((t103.length : Int) == 0) = false := beq_eq_false_iff_ne.mpr c60
                  have c60b1 : ((t103.length : Int) != 0) = true := bne_iff_ne.mpr c60
                  have c60b2 : ¬ (t103 = []) := fun h_ => c60 (by rw [h_]; rfl)
                  obtain rfl := Option.some.inj H
                  go_wp2_with (first | ((with_reducible refine gate_callee (f := 45) rfl ?_); refine goesL_ (some 22) rfl rfl Try.func45 (by kernel_rfl) rfl #[.slice A0 l0.length c0] rfl (by (try simp only [List.map_toArray, List.map_cons, List.map_nil]); first | done | rfl | (simp only [List.length_drop, List.length_take]; rfl)) ?_; (with_reducible refine (matrix_Transpose.calls kj2 _ _ l0 t103 t104 _ ?side1 ?side2 A9.out).mono ?_); (case side1 => repeat (first | exact (Kd.V_reads' HO_0.out).2.2 | (with_reducible refine Kd.C_alloc ?_ _) | (with_reducible refine Kd.C_drewN ?_ _) | (with_reducible refine Kd.C_drew ?_))); (case side2 => exact (Kd.V_reads' HO_0.out).2.1); rintro e w66 ⟨v105, rfl, ho0, hb⟩; refine ⟨_, rfl, ?_⟩; have n0_ := Aside0.mk (Kd.V_elder' (by (with_reducible repeat (first | apply Kd.V_alloc | apply Kd.V_drewN | apply Kd.V_drew)); exact HO_0.out) (by first | exact Kd.N_base ho0 | exact Kd.S_base ho0) hb); have n1_ := Aside0.mk (Kd.N_lower (Kd.N_mono (ok' := fun k_ => (P0_ k_ ∨ w.heap.size ≤ k_)) (Kd.S_N (Kd.S_bound ho0)) (fun k_ hk_ => (.inr (Nat.le_trans (below_size (by repeat (first | (with_reducible first | exact HB.out | apply below_alloc | apply pw_below_drewN | apply below_drew1) | exact HB.out))) hk_.2.1)))) (below_size (by repeat (first | (with_reducible first | exact HB.out | apply below_alloc | apply pw_below_drewN | apply below_drew1) | exact HB.out)))); have n2_ := Aside0.mk (below_step (by repeat (first | (with_reducible first | exact HB.out | apply below_alloc | apply pw_below_drewN | apply below_drew1) | exact HB.out)) hb); clear HO_0; clear HB; have HO_0 := n0_; have HO106 := n1_; have HB := n2_; clear n0_ n1_ n2_; (try clear hb); (try clear hb2); (try clear hk); (try clear hi); (try clear ho0)) | ((with_reducible refine gate_callee (f := 46) rfl ?_); refine goesL_ (some 28) rfl rfl Try.func46 (by kernel_rfl) rfl #[.slice A0 l0.length c0, .slice A1 l1.length c1] rfl (by (try simp only [List.map_toArray, List.map_cons, List.map_nil]); first | done | rfl | (simp only [List.length_drop, List.length_take]; rfl)) ?_; (with_reducible refine (matrix_Rows.calls kj2 _ _ l0 _ _ l1 t107 t108 _ ?side1 ?side2 ?side3 ?side4 A10.out).mono ?_); (case side1 => repeat (first | exact (Kd.V_reads' HO_0.out).2.2 | (with_reducible refine Kd.C_alloc ?_ _) | (with_reducible refine Kd.C_drewN ?_ _) | (with_reducible refine Kd.C_drew ?_))); (case side2 => exact (Kd.V_reads' HO_0.out).2.1); (case side3 => repeat (first | exact (Kd.C_below HR1.out HB.out) | (with_reducible refine Kd.C_alloc ?_ _) | (with_reducible refine Kd.C_drewN ?_ _) | (with_reducible refine Kd.C_drew ?_))); (case side4 => exact HC1.out); rintro e w67 ⟨v109, rfl, ho0, hb⟩; refine ⟨_, rfl, ?_⟩; have n0_ := Aside0.mk (Kd.V_elder' (by (with_reducible repeat (first | apply Kd.V_alloc | apply Kd.V_drewN | apply Kd.V_drew)); exact HO_0.out) (by first | exact Kd.N_base ho0 | exact Kd.S_base ho0) hb); have n1_ := Aside0.mk (Kd.N_elder' (by (with_reducible repeat (first | apply Kd.N_alloc | apply Kd.N_drewN | apply Kd.N_drew)); exact HO106.out) (by first | exact Kd.N_base ho0 | exact Kd.S_base ho0) hb); have n2_ := Aside0.mk (Kd.N_lower (Kd.N_mono (ok' := fun k_ => (P0_ k_ ∨ w.heap.size ≤ k_) ∧ some k_ ≠ (v105 : Value).ownBlock) (Kd.S_N (Kd.S_bound ho0)) (fun k_ hk_ => ⟨(.inr (Nat.le_trans (below_size (by repeat (first | (with_reducible first | exact HB.out | apply below_alloc | apply pw_below_drewN | apply below_drew1) | exact HB.out))) hk_.2.1)), (Kd.fresh' (Kd.N_lt (by (with_reducible repeat (first | apply Kd.N_alloc | apply Kd.N_drewN | apply Kd.N_drew)); exact HO106.out)) k_ hk_.2.1)⟩)) (below_size (by repeat (first | (with_reducible first | exact HB.out | apply below_alloc | apply pw_below_drewN | apply below_drew1) | exact HB.out)))); have n3_ := Aside0.mk (below_step (by repeat (first | (with_reducible first | exact HB.out | apply below_alloc | apply pw_below_drewN | apply below_drew1) | exact HB.out)) hb); clear HO_0; clear HO106; clear HB; have HO_0 := n0_; have HO106 := n1_; have HO110 := n2_; have HB := n3_; clear n0_ n1_ n2_ n3_; (try clear hb); (try clear hb2); (try clear hk); (try clear hi); (try clear ho0)) | ((with_reducible refine gate_callee (f := 18) rfl ?_); refine goesL_ (some 32) rfl rfl Try.func18 (by kernel_rfl) rfl #[.slice A0 l0.length c0] rfl (by (try simp only [List.map_toArray, List.map_cons, List.map_nil]); first | done | rfl | (simp only [List.length_drop, List.length_take]; rfl)) ?_; (with_reducible refine (kinkeepref04_Valid.calls kj2 _ _ l0 false _ ?side1 ?side2 A11.out).mono ?_); (case side1 => repeat (first | exact (Kd.V_reads' HO_0.out).2.2 | (with_reducible refine Kd.C_alloc ?_ _) | (with_reducible refine Kd.C_drewN ?_ _) | (with_reducible refine Kd.C_drew ?_))); (case side2 => exact (Kd.V_reads' HO_0.out).2.1); rintro e w' ⟨rfl, ⟨nd, rfl⟩⟩; refine ⟨_, rfl, ?_⟩) | ((with_reducible refine gate_callee (f := 16) rfl ?_); refine goesL_ (some 34) rfl rfl Try.func16 (by kernel_rfl) rfl #[] rfl (by (try simp only [List.map_toArray, List.map_cons, List.map_nil]); first | done | rfl | (simp only [List.length_drop, List.length_take]; rfl)) ?_; (with_reducible refine (kinkeeplaw04_awake.calls  true _ A56.out).mono ?_); rintro e w68 ⟨rfl, hb⟩; refine ⟨_, rfl, ?_⟩; have n0_ := Aside0.mk (Kd.V_below (by (with_reducible repeat (first | apply Kd.V_alloc | apply Kd.V_drewN | apply Kd.V_drew)); exact HO_0.out) hb); have n1_ := Aside0.mk (Kd.N_below (by (with_reducible repeat (first | apply Kd.N_alloc | apply Kd.N_drewN | apply Kd.N_drew)); exact HO106.out) hb); have n2_ := Aside0.mk (Kd.N_below (by (with_reducible repeat (first | apply Kd.N_alloc | apply Kd.N_drewN | apply Kd.N_drew)); exact HO110.out) hb); have n3_ := Aside0.mk (below_step (by repeat (first | (with_reducible first | exact HB.out | apply below_alloc | apply pw_below_drewN | apply below_drew1) | exact HB.out)) hb); clear HO_0; clear HO106; clear HO110; clear HB; have HO_0 := n0_; have HO106 := n1_; have HO110 := n2_; have HB := n3_; clear n0_ n1_ n2_ n3_; (try clear hb); (try clear hb2); (try clear hk); (try clear hi); obtain ⟨Ao69, co69, eo69⟩ := Kd.N_slice HO106.out; subst eo69))
                  go_ret
                  exact ⟨by first | rfl | (simp [errW_none, errW_some] <;> rfl) | (simp [*, errW_none, errW_some] <;> rfl), by repeat (first | (with_reducible first | exact HB.out | apply below_alloc | apply pw_below_drewN | apply below_drew1) | exact HB.out)⟩
              · rw [if_neg c59] at H
                have c59b0 : (t108 == 1) = false := beq_eq_false_iff_ne.mpr c59
                have c59b1 : (t108 != 1) = true := bne_iff_ne.mpr c59
                obtain rfl := Option.some.inj H
                go_wp2_with (first | ((with_reducible refine gate_callee (f := 45) rfl ?_); refine goesL_ (some 22) rfl rfl Try.func45 (by kernel_rfl) rfl #[.slice A0 l0.length c0] rfl (by (try simp only [List.map_toArray, List.map_cons, List.map_nil]); first | done | rfl | (simp only [List.length_drop, List.length_take]; rfl)) ?_; (with_reducible refine (matrix_Transpose.calls kj2 _ _ l0 t103 t104 _ ?side1 ?side2 A9.out).mono ?_); (case side1 => repeat (first | exact (Kd.V_reads' HO_0.out).2.2 | (with_reducible refine Kd.C_alloc ?_ _) | (with_reducible refine Kd.C_drewN ?_ _) | (with_reducible refine Kd.C_drew ?_))); (case side2 => exact (Kd.V_reads' HO_0.out).2.1); rintro e w70 ⟨v105, rfl, ho0, hb⟩; refine ⟨_, rfl, ?_⟩; have n0_ := Aside0.mk (Kd.V_elder' (by (with_reducible repeat (first | apply Kd.V_alloc | apply Kd.V_drewN | apply Kd.V_drew)); exact HO_0.out) (by first | exact Kd.N_base ho0 | exact Kd.S_base ho0) hb); have n1_ := Aside0.mk (Kd.N_lower (Kd.N_mono (ok' := fun k_ => (P0_ k_ ∨ w.heap.size ≤ k_)) (Kd.S_N (Kd.S_bound ho0)) (fun k_ hk_ => (.inr (Nat.le_trans (below_size (by repeat (first | (with_reducible first | exact HB.out | apply below_alloc | apply pw_below_drewN | apply below_drew1) | exact HB.out))) hk_.2.1)))) (below_size (by repeat (first | (with_reducible first | exact HB.out | apply below_alloc | apply pw_below_drewN | apply below_drew1) | exact HB.out)))); have n2_ := Aside0.mk (below_step (by repeat (first | (with_reducible first | exact HB.out | apply below_alloc | apply pw_below_drewN | apply below_drew1) | exact HB.out)) hb); clear HO_0; clear HB; have HO_0 := n0_; have HO106 := n1_; have HB := n2_; clear n0_ n1_ n2_; (try clear hb); (try clear hb2); (try clear hk); (try clear hi); (try clear ho0)) | ((with_reducible refine gate_callee (f := 46) rfl ?_); refine goesL_ (some 28) rfl rfl Try.func46 (by kernel_rfl) rfl #[.slice A0 l0.length c0, .slice A1 l1.length c1] rfl (by (try simp only [List.map_toArray, List.map_cons, List.map_nil]); first | done | rfl | (simp only [List.length_drop, List.length_take]; rfl)) ?_; (with_reducible refine (matrix_Rows.calls kj2 _ _ l0 _ _ l1 t107 t108 _ ?side1 ?side2 ?side3 ?side4 A10.out).mono ?_); (case side1 => repeat (first | exact (Kd.V_reads' HO_0.out).2.2 | (with_reducible refine Kd.C_alloc ?_ _) | (with_reducible refine Kd.C_drewN ?_ _) | (with_reducible refine Kd.C_drew ?_))); (case side2 => exact (Kd.V_reads' HO_0.out).2.1); (case side3 => repeat (first | exact (Kd.C_below HR1.out HB.out) | (with_reducible refine Kd.C_alloc ?_ _) | (with_reducible refine Kd.C_drewN ?_ _) | (with_reducible refine Kd.C_drew ?_))); (case side4 => exact HC1.out); rintro e w71 ⟨v109, rfl, ho0, hb⟩; refine ⟨_, rfl, ?_⟩; have n0_ := Aside0.mk (Kd.V_elder' (by (with_reducible repeat (first | apply Kd.V_alloc | apply Kd.V_drewN | apply Kd.V_drew)); exact HO_0.out) (by first | exact Kd.N_base ho0 | exact Kd.S_base ho0) hb); have n1_ := Aside0.mk (Kd.N_elder' (by (with_reducible repeat (first | apply Kd.N_alloc | apply Kd.N_drewN | apply Kd.N_drew)); exact HO106.out) (by first | exact Kd.N_base ho0 | exact Kd.S_base ho0) hb); have n2_ := Aside0.mk (Kd.N_lower (Kd.N_mono (ok' := fun k_ => (P0_ k_ ∨ w.heap.size ≤ k_) ∧ some k_ ≠ (v105 : Value).ownBlock) (Kd.S_N (Kd.S_bound ho0)) (fun k_ hk_ => ⟨(.inr (Nat.le_trans (below_size (by repeat (first | (with_reducible first | exact HB.out | apply below_alloc | apply pw_below_drewN | apply below_drew1) | exact HB.out))) hk_.2.1)), (Kd.fresh' (Kd.N_lt (by (with_reducible repeat (first | apply Kd.N_alloc | apply Kd.N_drewN | apply Kd.N_drew)); exact HO106.out)) k_ hk_.2.1)⟩)) (below_size (by repeat (first | (with_reducible first | exact HB.out | apply below_alloc | apply pw_below_drewN | apply below_drew1) | exact HB.out)))); have n3_ := Aside0.mk (below_step (by repeat (first | (with_reducible first | exact HB.out | apply below_alloc | apply pw_below_drewN | apply below_drew1) | exact HB.out)) hb); clear HO_0; clear HO106; clear HB; have HO_0 := n0_; have HO106 := n1_; have HO110 := n2_; have HB := n3_; clear n0_ n1_ n2_ n3_; (try clear hb); (try clear hb2); (try clear hk); (try clear hi); (try clear ho0)) | ((with_reducible refine gate_callee (f := 18) rfl ?_); refine goesL_ (some 32) rfl rfl Try.func18 (by kernel_rfl) rfl #[.slice A0 l0.length c0] rfl (by (try simp only [List.map_toArray, List.map_cons, List.map_nil]); first | done | rfl | (simp only [List.length_drop, List.length_take]; rfl)) ?_; (with_reducible refine (kinkeepref04_Valid.calls kj2 _ _ l0 false _ ?side1 ?side2 A11.out).mono ?_); (case side1 => repeat (first | exact (Kd.V_reads' HO_0.out).2.2 | (with_reducible refine Kd.C_alloc ?_ _) | (with_reducible refine Kd.C_drewN ?_ _) | (with_reducible refine Kd.C_drew ?_))); (case side2 => exact (Kd.V_reads' HO_0.out).2.1); rintro e w' ⟨rfl, ⟨nd, rfl⟩⟩; refine ⟨_, rfl, ?_⟩) | ((with_reducible refine gate_callee (f := 16) rfl ?_); refine goesL_ (some 34) rfl rfl Try.func16 (by kernel_rfl) rfl #[] rfl (by (try simp only [List.map_toArray, List.map_cons, List.map_nil]); first | done | rfl | (simp only [List.length_drop, List.length_take]; rfl)) ?_; (with_reducible refine (kinkeeplaw04_awake.calls  true _ A56.out).mono ?_); rintro e w72 ⟨rfl, hb⟩; refine ⟨_, rfl, ?_⟩; have n0_ := Aside0.mk (Kd.V_below (by (with_reducible repeat (first | apply Kd.V_alloc | apply Kd.V_drewN | apply Kd.V_drew)); exact HO_0.out) hb); have n1_ := Aside0.mk (Kd.N_below (by (with_reducible repeat (first | apply Kd.N_alloc | apply Kd.N_drewN | apply Kd.N_drew)); exact HO106.out) hb); have n2_ := Aside0.mk (Kd.N_below (by (with_reducible repeat (first | apply Kd.N_alloc | apply Kd.N_drewN | apply Kd.N_drew)); exact HO110.out) hb); have n3_ := Aside0.mk (below_step (by repeat (first | (with_reducible first | exact HB.out | apply below_alloc | apply pw_below_drewN | apply below_drew1) | exact HB.out)) hb); clear HO_0; clear HO106; clear HO110; clear HB; have HO_0 := n0_; have HO106 := n1_; have HO110 := n2_; have HB := n3_; clear n0_ n1_ n2_ n3_; (try clear hb); (try clear hb2); (try clear hk); (try clear hi)))
                go_ret
                exact ⟨by first | rfl | (simp [errW_none, errW_some] <;> rfl) | (simp [*, errW_none, errW_some] <;> rfl), by repeat (first | (with_reducible first | exact HB.out | apply below_alloc | apply pw_below_drewN | apply below_drew1) | exact HB.out)⟩
            · rw [if_neg c58] at H
              have c58b0 : (t104 == 1) = false := beq_eq_false_iff_ne.mpr c58
              have c58b1 : (t104 != 1) = true := bne_iff_ne.mpr c58
              obtain rfl := Option.some.inj H
              go_wp2_with (first | ((with_reducible refine gate_callee (f := 45) rfl ?_); refine goesL_ (some 22) rfl rfl Try.func45 (by kernel_rfl) rfl #[.slice A0 l0.length c0] rfl (by (try simp only [List.map_toArray, List.map_cons, List.map_nil]); first | done | rfl | (simp only [List.length_drop, List.length_take]; rfl)) ?_; (with_reducible refine (matrix_Transpose.calls kj2 _ _ l0 t103 t104 _ ?side1 ?side2 A9.out).mono ?_); (case side1 => repeat (first | exact (Kd.V_reads' HO_0.out).2.2 | (with_reducible refine Kd.C_alloc ?_ _) | (with_reducible refine Kd.C_drewN ?_ _) | (with_reducible refine Kd.C_drew ?_))); (case side2 => exact (Kd.V_reads' HO_0.out).2.1); rintro e w73 ⟨v105, rfl, ho0, hb⟩; refine ⟨_, rfl, ?_⟩; have n0_ := Aside0.mk (Kd.V_elder' (by (with_reducible repeat (first | apply Kd.V_alloc | apply Kd.V_drewN | apply Kd.V_drew)); exact HO_0.out) (by first | exact Kd.N_base ho0 | exact Kd.S_base ho0) hb); have n1_ := Aside0.mk (Kd.N_lower (Kd.N_mono (ok' := fun k_ => (P0_ k_ ∨ w.heap.size ≤ k_)) (Kd.S_N (Kd.S_bound ho0)) (fun k_ hk_ => (.inr (Nat.le_trans (below_size (by repeat (first | (with_reducible first | exact HB.out | apply below_alloc | apply pw_below_drewN | apply below_drew1) | exact HB.out))) hk_.2.1)))) (below_size (by repeat (first | (with_reducible first | exact HB.out | apply below_alloc | apply pw_below_drewN | apply below_drew1) | exact HB.out)))); have n2_ := Aside0.mk (below_step (by repeat (first | (with_reducible first | exact HB.out | apply below_alloc | apply pw_below_drewN | apply below_drew1) | exact HB.out)) hb); clear HO_0; clear HB; have HO_0 := n0_; have HO106 := n1_; have HB := n2_; clear n0_ n1_ n2_; (try clear hb); (try clear hb2); (try clear hk); (try clear hi); (try clear ho0)) | ((with_reducible refine gate_callee (f := 46) rfl ?_); refine goesL_ (some 28) rfl rfl Try.func46 (by kernel_rfl) rfl #[.slice A0 l0.length c0, .slice A1 l1.length c1] rfl (by (try simp only [List.map_toArray, List.map_cons, List.map_nil]); first | done | rfl | (simp only [List.length_drop, List.length_take]; rfl)) ?_; (with_reducible refine (matrix_Rows.calls kj2 _ _ l0 _ _ l1 t107 t108 _ ?side1 ?side2 ?side3 ?side4 A10.out).mono ?_); (case side1 => repeat (first | exact (Kd.V_reads' HO_0.out).2.2 | (with_reducible refine Kd.C_alloc ?_ _) | (with_reducible refine Kd.C_drewN ?_ _) | (with_reducible refine Kd.C_drew ?_))); (case side2 => exact (Kd.V_reads' HO_0.out).2.1); (case side3 => repeat (first | exact (Kd.C_below HR1.out HB.out) | (with_reducible refine Kd.C_alloc ?_ _) | (with_reducible refine Kd.C_drewN ?_ _) | (with_reducible refine Kd.C_drew ?_))); (case side4 => exact HC1.out); rintro e w74 ⟨v109, rfl, ho0, hb⟩; refine ⟨_, rfl, ?_⟩; have n0_ := Aside0.mk (Kd.V_elder' (by (with_reducible repeat (first | apply Kd.V_alloc | apply Kd.V_drewN | apply Kd.V_drew)); exact HO_0.out) (by first | exact Kd.N_base ho0 | exact Kd.S_base ho0) hb); have n1_ := Aside0.mk (Kd.N_elder' (by (with_reducible repeat (first | apply Kd.N_alloc | apply Kd.N_drewN | apply Kd.N_drew)); exact HO106.out) (by first | exact Kd.N_base ho0 | exact Kd.S_base ho0) hb); have n2_ := Aside0.mk (Kd.N_lower (Kd.N_mono (ok' := fun k_ => (P0_ k_ ∨ w.heap.size ≤ k_) ∧ some k_ ≠ (v105 : Value).ownBlock) (Kd.S_N (Kd.S_bound ho0)) (fun k_ hk_ => ⟨(.inr (Nat.le_trans (below_size (by repeat (first | (with_reducible first | exact HB.out | apply below_alloc | apply pw_below_drewN | apply below_drew1) | exact HB.out))) hk_.2.1)), (Kd.fresh' (Kd.N_lt (by (with_reducible repeat (first | apply Kd.N_alloc | apply Kd.N_drewN | apply Kd.N_drew)); exact HO106.out)) k_ hk_.2.1)⟩)) (below_size (by repeat (first | (with_reducible first | exact HB.out | apply below_alloc | apply pw_below_drewN | apply below_drew1) | exact HB.out)))); have n3_ := Aside0.mk (below_step (by repeat (first | (with_reducible first | exact HB.out | apply below_alloc | apply pw_below_drewN | apply below_drew1) | exact HB.out)) hb); clear HO_0; clear HO106; clear HB; have HO_0 := n0_; have HO106 := n1_; have HO110 := n2_; have HB := n3_; clear n0_ n1_ n2_ n3_; (try clear hb); (try clear hb2); (try clear hk); (try clear hi); (try clear ho0)) | ((with_reducible refine gate_callee (f := 18) rfl ?_); refine goesL_ (some 32) rfl rfl Try.func18 (by kernel_rfl) rfl #[.slice A0 l0.length c0] rfl (by (try simp only [List.map_toArray, List.map_cons, List.map_nil]); first | done | rfl | (simp only [List.length_drop, List.length_take]; rfl)) ?_; (with_reducible refine (kinkeepref04_Valid.calls kj2 _ _ l0 false _ ?side1 ?side2 A11.out).mono ?_); (case side1 => repeat (first | exact (Kd.V_reads' HO_0.out).2.2 | (with_reducible refine Kd.C_alloc ?_ _) | (with_reducible refine Kd.C_drewN ?_ _) | (with_reducible refine Kd.C_drew ?_))); (case side2 => exact (Kd.V_reads' HO_0.out).2.1); rintro e w' ⟨rfl, ⟨nd, rfl⟩⟩; refine ⟨_, rfl, ?_⟩) | ((with_reducible refine gate_callee (f := 16) rfl ?_); refine goesL_ (some 34) rfl rfl Try.func16 (by kernel_rfl) rfl #[] rfl (by (try simp only [List.map_toArray, List.map_cons, List.map_nil]); first | done | rfl | (simp only [List.length_drop, List.length_take]; rfl)) ?_; (with_reducible refine (kinkeeplaw04_awake.calls  true _ A56.out).mono ?_); rintro e w75 ⟨rfl, hb⟩; refine ⟨_, rfl, ?_⟩; have n0_ := Aside0.mk (Kd.V_below (by (with_reducible repeat (first | apply Kd.V_alloc | apply Kd.V_drewN | apply Kd.V_drew)); exact HO_0.out) hb); have n1_ := Aside0.mk (Kd.N_below (by (with_reducible repeat (first | apply Kd.N_alloc | apply Kd.N_drewN | apply Kd.N_drew)); exact HO106.out) hb); have n2_ := Aside0.mk (Kd.N_below (by (with_reducible repeat (first | apply Kd.N_alloc | apply Kd.N_drewN | apply Kd.N_drew)); exact HO110.out) hb); have n3_ := Aside0.mk (below_step (by repeat (first | (with_reducible first | exact HB.out | apply below_alloc | apply pw_below_drewN | apply below_drew1) | exact HB.out)) hb); clear HO_0; clear HO106; clear HO110; clear HB; have HO_0 := n0_; have HO106 := n1_; have HO110 := n2_; have HB := n3_; clear n0_ n1_ n2_ n3_; (try clear hb); (try clear hb2); (try clear hk); (try clear hi)))
              go_ret
              exact ⟨by first | rfl | (simp [errW_none, errW_some] <;> rfl) | (simp [*, errW_none, errW_some] <;> rfl), by repeat (first | (with_reducible first | exact HB.out | apply below_alloc | apply pw_below_drewN | apply below_drew1) | exact HB.out)⟩
          · replace c57 := Bool.eq_false_iff.mpr c57
            subst c57
            have H1 : (some false) = some r := by rw [if_neg (show ¬ (false = true) by decide)] at H; exact H
            clear H
            have H := H1
            clear H1
            obtain rfl := Option.some.inj H
            go_wp2_with (first | ((with_reducible refine gate_callee (f := 45) rfl ?_); refine goesL_ (some 22) rfl rfl Try.func45 (by kernel_rfl) rfl #[.slice A0 l0.length c0] rfl (by (try simp only [List.map_toArray, List.map_cons, List.map_nil]); first | done | rfl | (simp only [List.length_drop, List.length_take]; rfl)) ?_; (with_reducible refine (matrix_Transpose.calls kj2 _ _ l0 t103 t104 _ ?side1 ?side2 A9.out).mono ?_); (case side1 => repeat (first | exact (Kd.V_reads' HO_0.out).2.2 | (with_reducible refine Kd.C_alloc ?_ _) | (with_reducible refine Kd.C_drewN ?_ _) | (with_reducible refine Kd.C_drew ?_))); (case side2 => exact (Kd.V_reads' HO_0.out).2.1); rintro e w76 ⟨v105, rfl, ho0, hb⟩; refine ⟨_, rfl, ?_⟩; have n0_ := Aside0.mk (Kd.V_elder' (by (with_reducible repeat (first | apply Kd.V_alloc | apply Kd.V_drewN | apply Kd.V_drew)); exact HO_0.out) (by first | exact Kd.N_base ho0 | exact Kd.S_base ho0) hb); have n1_ := Aside0.mk (Kd.N_lower (Kd.N_mono (ok' := fun k_ => (P0_ k_ ∨ w.heap.size ≤ k_)) (Kd.S_N (Kd.S_bound ho0)) (fun k_ hk_ => (.inr (Nat.le_trans (below_size (by repeat (first | (with_reducible first | exact HB.out | apply below_alloc | apply pw_below_drewN | apply below_drew1) | exact HB.out))) hk_.2.1)))) (below_size (by repeat (first | (with_reducible first | exact HB.out | apply below_alloc | apply pw_below_drewN | apply below_drew1) | exact HB.out)))); have n2_ := Aside0.mk (below_step (by repeat (first | (with_reducible first | exact HB.out | apply below_alloc | apply pw_below_drewN | apply below_drew1) | exact HB.out)) hb); clear HO_0; clear HB; have HO_0 := n0_; have HO106 := n1_; have HB := n2_; clear n0_ n1_ n2_; (try clear hb); (try clear hb2); (try clear hk); (try clear hi); (try clear ho0)) | ((with_reducible refine gate_callee (f := 46) rfl ?_); refine goesL_ (some 28) rfl rfl Try.func46 (by kernel_rfl) rfl #[.slice A0 l0.length c0, .slice A1 l1.length c1] rfl (by (try simp only [List.map_toArray, List.map_cons, List.map_nil]); first | done | rfl | (simp only [List.length_drop, List.length_take]; rfl)) ?_; (with_reducible refine (matrix_Rows.calls kj2 _ _ l0 _ _ l1 t107 t108 _ ?side1 ?side2 ?side3 ?side4 A10.out).mono ?_); (case side1 => repeat (first | exact (Kd.V_reads' HO_0.out).2.2 | (with_reducible refine Kd.C_alloc ?_ _) | (with_reducible refine Kd.C_drewN ?_ _) | (with_reducible refine Kd.C_drew ?_))); (case side2 => exact (Kd.V_reads' HO_0.out).2.1); (case side3 => repeat (first | exact (Kd.C_below HR1.out HB.out) | (with_reducible refine Kd.C_alloc ?_ _) | (with_reducible refine Kd.C_drewN ?_ _) | (with_reducible refine Kd.C_drew ?_))); (case side4 => exact HC1.out); rintro e w77 ⟨v109, rfl, ho0, hb⟩; refine ⟨_, rfl, ?_⟩; have n0_ := Aside0.mk (Kd.V_elder' (by (with_reducible repeat (first | apply Kd.V_alloc | apply Kd.V_drewN | apply Kd.V_drew)); exact HO_0.out) (by first | exact Kd.N_base ho0 | exact Kd.S_base ho0) hb); have n1_ := Aside0.mk (Kd.N_elder' (by (with_reducible repeat (first | apply Kd.N_alloc | apply Kd.N_drewN | apply Kd.N_drew)); exact HO106.out) (by first | exact Kd.N_base ho0 | exact Kd.S_base ho0) hb); have n2_ := Aside0.mk (Kd.N_lower (Kd.N_mono (ok' := fun k_ => (P0_ k_ ∨ w.heap.size ≤ k_) ∧ some k_ ≠ (v105 : Value).ownBlock) (Kd.S_N (Kd.S_bound ho0)) (fun k_ hk_ => ⟨(.inr (Nat.le_trans (below_size (by repeat (first | (with_reducible first | exact HB.out | apply below_alloc | apply pw_below_drewN | apply below_drew1) | exact HB.out))) hk_.2.1)), (Kd.fresh' (Kd.N_lt (by (with_reducible repeat (first | apply Kd.N_alloc | apply Kd.N_drewN | apply Kd.N_drew)); exact HO106.out)) k_ hk_.2.1)⟩)) (below_size (by repeat (first | (with_reducible first | exact HB.out | apply below_alloc | apply pw_below_drewN | apply below_drew1) | exact HB.out)))); have n3_ := Aside0.mk (below_step (by repeat (first | (with_reducible first | exact HB.out | apply below_alloc | apply pw_below_drewN | apply below_drew1) | exact HB.out)) hb); clear HO_0; clear HO106; clear HB; have HO_0 := n0_; have HO106 := n1_; have HO110 := n2_; have HB := n3_; clear n0_ n1_ n2_ n3_; (try clear hb); (try clear hb2); (try clear hk); (try clear hi); (try clear ho0)) | ((with_reducible refine gate_callee (f := 18) rfl ?_); refine goesL_ (some 32) rfl rfl Try.func18 (by kernel_rfl) rfl #[.slice A0 l0.length c0] rfl (by (try simp only [List.map_toArray, List.map_cons, List.map_nil]); first | done | rfl | (simp only [List.length_drop, List.length_take]; rfl)) ?_; (with_reducible refine (kinkeepref04_Valid.calls kj2 _ _ l0 false _ ?side1 ?side2 A11.out).mono ?_); (case side1 => repeat (first | exact (Kd.V_reads' HO_0.out).2.2 | (with_reducible refine Kd.C_alloc ?_ _) | (with_reducible refine Kd.C_drewN ?_ _) | (with_reducible refine Kd.C_drew ?_))); (case side2 => exact (Kd.V_reads' HO_0.out).2.1); rintro e w' ⟨rfl, ⟨nd, rfl⟩⟩; refine ⟨_, rfl, ?_⟩) | ((with_reducible refine gate_callee (f := 16) rfl ?_); refine goesL_ (some 34) rfl rfl Try.func16 (by kernel_rfl) rfl #[] rfl (by (try simp only [List.map_toArray, List.map_cons, List.map_nil]); first | done | rfl | (simp only [List.length_drop, List.length_take]; rfl)) ?_; (with_reducible refine (kinkeeplaw04_awake.calls  false _ A56.out).mono ?_); rintro e w78 ⟨rfl, hb⟩; refine ⟨_, rfl, ?_⟩; have n0_ := Aside0.mk (Kd.V_below (by (with_reducible repeat (first | apply Kd.V_alloc | apply Kd.V_drewN | apply Kd.V_drew)); exact HO_0.out) hb); have n1_ := Aside0.mk (Kd.N_below (by (with_reducible repeat (first | apply Kd.N_alloc | apply Kd.N_drewN | apply Kd.N_drew)); exact HO106.out) hb); have n2_ := Aside0.mk (Kd.N_below (by (with_reducible repeat (first | apply Kd.N_alloc | apply Kd.N_drewN | apply Kd.N_drew)); exact HO110.out) hb); have n3_ := Aside0.mk (below_step (by repeat (first | (with_reducible first | exact HB.out | apply below_alloc | apply pw_below_drewN | apply below_drew1) | exact HB.out)) hb); clear HO_0; clear HO106; clear HO110; clear HB; have HO_0 := n0_; have HO106 := n1_; have HO110 := n2_; have HB := n3_; clear n0_ n1_ n2_ n3_; (try clear hb); (try clear hb2); (try clear hk); (try clear hi)))
            go_ret
            exact ⟨by first | rfl | (simp [errW_none, errW_some] <;> rfl) | (simp [*, errW_none, errW_some] <;> rfl), by repeat (first | (with_reducible first | exact HB.out | apply below_alloc | apply pw_below_drewN | apply below_drew1) | exact HB.out)⟩
end Go.Proofs.Ytpkghpljgjlmjaa.K
/- Sums and determinants over the field of 256 elements, matrices as functions. No program in sight. -/
namespace Kin
set_option linter.unusedVariables false

/-- The sum of f 0 to f (n-1). -/
def bsum : Nat → (Nat → B) → B
  | 0, _ => 0
  | n + 1, f => bsum n f ^^^ f n
theorem bsum_congr {n : Nat} {f g : Nat → B} (h : ∀ j, j < n → f j = g j) : bsum n f = bsum n g := by
  induction n with
  | zero => rfl
  | succ n ih => simp only [bsum]; rw [ih (fun j hj => h j (by omega)), h n (by omega)]
theorem bsum_add (n : Nat) (f g : Nat → B) : bsum n (fun j => f j ^^^ g j) = bsum n f ^^^ bsum n g := by
  induction n with
  | zero => exact (bx_self 0).symm
  | succ n ih => simp only [bsum]; rw [ih, bx_swap4]
theorem bsum_mul (n : Nat) (c : B) (f : Nat → B) : bsum n (fun j => gmul c (f j)) = gmul c (bsum n f) := by
  induction n with
  | zero => simp only [bsum]; rw [gmul_zero]
  | succ n ih => simp only [bsum]; rw [ih, gmul_add_right]
theorem bsum_mul_right (n : Nat) (c : B) (f : Nat → B) : bsum n (fun j => gmul (f j) c) = gmul (bsum n f) c := by
  rw [gmul_comm, ← bsum_mul]
  exact bsum_congr fun j _ => gmul_comm _ _
theorem bsum_zero {n : Nat} {f : Nat → B} (h : ∀ j, j < n → f j = 0) : bsum n f = 0 := by
  induction n with
  | zero => rfl
  | succ n ih => simp only [bsum]; rw [ih (fun j hj => h j (by omega)), h n (by omega), bx_self]
/-- A symmetric double sum without a diagonal is 0. -/
theorem bsum_sym (n : Nat) (h : Nat → Nat → B) (hs : ∀ i j, i < n → j < n → h i j = h j i) (hd : ∀ i, i < n → h i i = 0) : bsum n (fun i => bsum n (fun j => h i j)) = 0 := by
  induction n with
  | zero => rfl
  | succ n ih =>
    rw [show bsum (n + 1) (fun i => bsum (n + 1) (fun j => h i j)) = bsum n (fun i => bsum n (fun j => h i j) ^^^ h i n) ^^^ (bsum n (fun j => h n j) ^^^ h n n) from rfl, bsum_add, ih (fun i j hi hj => hs i j (by omega) (by omega)) (fun i hi => hd i (by omega)), zero_bx, hd n (by omega), bx_zero, bsum_congr (g := fun j => h n j) (fun j hj => hs j n (by omega) (by omega)), bx_self]
/-- j, or the next number from c on. -/
def sk (c j : Nat) : Nat := if j < c then j else j + 1
theorem bsum_skip (n c : Nat) (hc : c ≤ n) (f : Nat → B) : bsum n (fun d => f (sk c d)) = bsum (n + 1) (fun e => if e = c then 0 else f e) := by
  induction n with
  | zero =>
    obtain rfl : c = 0 := by omega
    exact (bx_self 0).symm
  | succ n ih =>
    rw [show bsum (n + 1) (fun d => f (sk c d)) = bsum n (fun d => f (sk c d)) ^^^ f (sk c n) from rfl]
    by_cases e : c = n + 1
    · subst e
      rw [show bsum (n + 1 + 1) (fun e => if e = n + 1 then (0 : B) else f e) = bsum n (fun e => if e = n + 1 then (0 : B) else f e) ^^^ (if n = n + 1 then (0 : B) else f n) ^^^ (if n + 1 = n + 1 then (0 : B) else f (n + 1)) from rfl, if_neg (by omega), if_pos rfl, bx_zero, show sk (n + 1) n = n from if_pos (by omega)]
      congr 1
      exact bsum_congr fun j hj => by rw [if_neg (by omega), show sk (n + 1) j = j from if_pos (by omega)]
    · rw [ih (by omega), show bsum (n + 1 + 1) (fun e => if e = c then (0 : B) else f e) = bsum (n + 1) (fun e => if e = c then (0 : B) else f e) ^^^ (if n + 1 = c then (0 : B) else f (n + 1)) from rfl, if_neg (fun x => e x.symm), show sk c n = n + 1 from if_neg (by omega)]
/-- A matrix as a function. -/
abbrev Mx := Nat → Nat → B
def minor (A : Mx) (c : Nat) : Mx := fun i j => A (i + 1) (sk c j)
/-- The determinant by expansion. -/
def det : Nat → Mx → B
  | 0, _ => 1
  | n + 1, A => bsum (n + 1) (fun c => gmul (A 0 c) (det n (minor A c)))
def upd (A : Mx) (r : Nat) (v : Nat → B) : Mx := fun i j => if i = r then v j else A i j
theorem sk_lt {c j n : Nat} (h : j < n) : sk c j < n + 1 := by unfold sk; split <;> omega
theorem det_congr {n : Nat} : ∀ {A C : Mx}, (∀ i j, i < n → j < n → A i j = C i j) → det n A = det n C := by
  induction n with
  | zero => intro A C _; rfl
  | succ n ih =>
    intro A C h
    simp only [det]
    refine bsum_congr fun c hc => ?_
    rw [h 0 c (by omega) hc, ih (A := minor A c) (C := minor C c) (fun i j hi hj => h (i + 1) (sk c j) (by omega) (sk_lt hj))]
theorem minor_upd_zero (A : Mx) (v : Nat → B) (c : Nat) : minor (upd A 0 v) c = minor A c := by
  funext i j
  simp [minor, upd]
theorem minor_upd_succ (A : Mx) (r : Nat) (v : Nat → B) (c : Nat) : minor (upd A (r + 1) v) c = upd (minor A c) r (fun j => v (sk c j)) := by
  funext i j
  simp [minor, upd]
theorem upd_self (A : Mx) (r : Nat) : upd A r (A r) = A := by
  funext i j
  unfold upd
  split
  · rename_i h; rw [h]
  · rfl
theorem upd_upd (A : Mx) (r : Nat) (u v : Nat → B) : upd (upd A r u) r v = upd A r v := by
  funext i j
  unfold upd
  split <;> rfl
theorem upd_comm (A : Mx) {r s : Nat} (h : r ≠ s) (u v : Nat → B) : upd (upd A r u) s v = upd (upd A s v) r u := by
  funext i j
  unfold upd
  by_cases h1 : i = s
  · rw [if_pos h1, if_neg (by omega), if_pos h1]
  · rw [if_neg h1]
    by_cases h2 : i = r
    · rw [if_pos h2, if_pos h2]
    · rw [if_neg h2, if_neg h2, if_neg h1]
theorem upd_at (A : Mx) (r : Nat) (v : Nat → B) : upd A r v r = v := by
  funext j
  simp [upd]
theorem upd_ne (A : Mx) {r i : Nat} (v : Nat → B) (h : i ≠ r) : upd A r v i = A i := by
  funext j
  simp [upd, h]
/-- The determinant is linear in each row. -/
theorem det_lin {n : Nat} : ∀ (A : Mx) (r : Nat) (s t : B) (u v : Nat → B), r < n → det n (upd A r (fun j => gmul s (u j) ^^^ gmul t (v j))) = gmul s (det n (upd A r u)) ^^^ gmul t (det n (upd A r v)) := by
  induction n with
  | zero => intro A r s t u v h; omega
  | succ n ih =>
    intro A r s t u v hr
    simp only [det]
    rw [← bsum_mul, ← bsum_mul, ← bsum_add]
    refine bsum_congr fun c hc => ?_
    cases r with
    | zero =>
      rw [minor_upd_zero, minor_upd_zero, minor_upd_zero, upd_at, upd_at, upd_at, gmul_add_left, gmul_assoc, gmul_assoc]
    | succ r =>
      rw [minor_upd_succ, minor_upd_succ, minor_upd_succ, upd_ne _ _ (by omega), upd_ne _ _ (by omega), upd_ne _ _ (by omega), ih _ _ _ _ _ _ (by omega), gmul_add_right, gmul_left_comm, gmul_left_comm (A 0 c) t]
theorem det_add {n : Nat} (A : Mx) (r : Nat) (u v : Nat → B) (h : r < n) : det n (upd A r (fun j => u j ^^^ v j)) = det n (upd A r u) ^^^ det n (upd A r v) := by
  have := det_lin A r 1 1 u v h
  simp only [one_gmul] at this
  exact this
theorem det_scale {n : Nat} (A : Mx) (r : Nat) (s : B) (u : Nat → B) (h : r < n) : det n (upd A r (fun j => gmul s (u j))) = gmul s (det n (upd A r u)) := by
  have := det_lin A r s 0 u u h
  simp only [zero_gmul, bx_zero] at this
  exact this
/-- Two columns left out. -/
def sk2 (lo hi j : Nat) : Nat := if j < lo then j else if j + 1 < hi then j + 1 else j + 2
theorem sk_sk (c d j : Nat) : sk c (sk d j) = sk2 (min c (sk c d)) (max c (sk c d)) j := by
  unfold sk sk2
  by_cases h : d < c
  · rw [if_pos h, show min c d = d by omega, show max c d = c by omega]
    by_cases h1 : j < d
    · rw [if_pos h1, if_pos h1, if_pos (by omega)]
    · rw [if_neg h1, if_neg h1]
  · rw [if_neg h, show min c (d + 1) = c by omega, show max c (d + 1) = d + 1 by omega]
    by_cases h1 : j < d
    · rw [if_pos h1]
      by_cases h2 : j < c
      · rw [if_pos h2, if_pos h2]
      · rw [if_neg h2, if_neg h2, if_pos (by omega)]
    · rw [if_neg h1, if_neg (by omega), if_neg (by omega), if_neg (by omega)]
theorem det_eq01 {n : Nat} (A : Mx) (h : ∀ j, j < n + 2 → A 0 j = A 1 j) : det (n + 2) A = 0 := by
  have e : det (n + 2) A = bsum (n + 2) (fun c => bsum (n + 2) (fun e => if e = c then 0 else gmul (A 0 c) (gmul (A 0 e) (det n (fun i j => A (i + 2) (sk2 (min c e) (max c e) j)))))) := by
    rw [show det (n + 2) A = bsum (n + 2) (fun c => gmul (A 0 c) (det (n + 1) (minor A c))) from rfl]
    refine bsum_congr fun c hc => ?_
    rw [← bsum_skip (n + 1) c (by omega) (fun e => gmul (A 0 c) (gmul (A 0 e) (det n (fun i j => A (i + 2) (sk2 (min c e) (max c e) j))))), bsum_mul (n + 1) (A 0 c)]
    congr 1
    rw [show det (n + 1) (minor A c) = bsum (n + 1) (fun d => gmul (minor A c 0 d) (det n (minor (minor A c) d))) from rfl]
    refine bsum_congr fun d hd => ?_
    congr 1
    · show A (0 + 1) (sk c d) = A 0 (sk c d)
      exact (h _ (sk_lt hd)).symm
    · refine det_congr fun i j hi hj => ?_
      show A (i + 1 + 1) (sk c (sk d j)) = A (i + 2) _
      rw [sk_sk]
  rw [e]
  refine bsum_sym (n + 2) (fun c e => if e = c then 0 else gmul (A 0 c) (gmul (A 0 e) (det n (fun i j => A (i + 2) (sk2 (min c e) (max c e) j))))) (fun i j hi hj => ?_) (fun i hi => if_pos rfl)
  by_cases hij : i = j
  · subst hij; rfl
  · show (if j = i then _ else _) = (if i = j then _ else _)
    rw [if_neg (fun x => hij x.symm), if_neg hij, gmul_left_comm, Nat.min_comm, Nat.max_comm]
theorem det_eq_adj {n : Nat} : ∀ (r : Nat) (A : Mx), r + 1 < n → (∀ j, j < n → A r j = A (r + 1) j) → det n A = 0 := by
  induction n with
  | zero => intro r A h; omega
  | succ n ih =>
    intro r A hr h
    cases r with
    | zero =>
      obtain ⟨n, rfl⟩ : ∃ m, n = m + 1 := ⟨n - 1, by omega⟩
      exact det_eq01 A h
    | succ r =>
      simp only [det]
      refine bsum_zero fun c hc => ?_
      rw [ih r (minor A c) (by omega) (fun j hj => h (sk c j) (sk_lt hj)), gmul_zero]
def swp (A : Mx) (a b : Nat) : Mx := upd (upd A a (A b)) b (A a)
theorem swp_row (A : Mx) (a b i : Nat) : swp A a b i = A (if i = b then a else if i = a then b else i) := by
  funext j
  unfold swp upd
  by_cases h : i = b
  · rw [if_pos h, if_pos h]
  · rw [if_neg h, if_neg h]
    by_cases h2 : i = a
    · rw [if_pos h2, if_pos h2]
    · rw [if_neg h2, if_neg h2]
theorem det_swap_adj {n : Nat} (A : Mx) (r : Nat) (h : r + 1 < n) : det n (swp A r (r + 1)) = det n A := by
  have key : ∀ u v : Nat → B, det n (upd (upd A r u) (r + 1) v) = det n (upd (upd A r v) (r + 1) u) := by
    intro u v
    have z : ∀ w : Nat → B, det n (upd (upd A r w) (r + 1) w) = 0 := fun w => det_eq_adj r _ h (fun j hj => by rw [upd_ne _ _ (by omega), upd_at, upd_at])
    have h0 := z (fun j => u j ^^^ v j)
    rw [det_add _ _ _ _ h, upd_comm A (by omega), det_add _ _ _ _ (by omega), upd_comm A (by omega) (fun j => u j ^^^ v j) v, det_add _ _ _ _ (by omega), ← upd_comm A (by omega) u u, ← upd_comm A (by omega) v u, ← upd_comm A (by omega) u v, ← upd_comm A (by omega) v v, z u, z v, zero_bx, bx_zero] at h0
    have e1 : upd (upd A r u) (r + 1) v = upd (upd A (r + 1) v) r u := upd_comm A (by omega) u v
    have e2 : upd (upd A r v) (r + 1) u = upd (upd A (r + 1) u) r v := upd_comm A (by omega) v u
    rw [e1, e2]
    exact (bx_eq_zero.1 h0).symm
  unfold swp
  rw [key (A (r + 1)) (A r), upd_self]
  congr 1
  funext i j
  unfold upd
  split
  · rename_i h; rw [h]
  · rfl
theorem det_swap {n : Nat} (m : Nat) : ∀ (A : Mx) (a : Nat), a + m + 1 < n → det n (swp A a (a + m + 1)) = det n A := by
  induction m with
  | zero => intro A a h; exact det_swap_adj A a h
  | succ m ih =>
    intro A a h
    have e : swp A a (a + (m + 1) + 1) = swp (swp (swp A (a + m + 1) (a + m + 2)) a (a + m + 1)) (a + m + 1) (a + m + 2) := by
      funext i
      rw [swp_row, swp_row, swp_row, swp_row]
      congr 1
      repeat' split
      all_goals omega
    rw [e, det_swap_adj _ _ (by omega), ih _ _ (by omega), det_swap_adj _ _ (by omega)]
theorem swp_comm (A : Mx) (a b : Nat) : swp A a b = swp A b a := by
  unfold swp
  by_cases h : a = b
  · subst h; rfl
  · rw [upd_comm A h]
theorem swp_same (A : Mx) (a : Nat) : swp A a a = A := by
  unfold swp
  rw [upd_upd, upd_self]
theorem det_swp {n : Nat} (A : Mx) (a b : Nat) (ha : a < n) (hb : b < n) : det n (swp A a b) = det n A := by
  by_cases h : a = b
  · subst h; rw [swp_same]
  · by_cases h1 : a < b
    · have := det_swap (b - a - 1) A a (n := n) (by omega)
      rwa [show a + (b - a - 1) + 1 = b by omega] at this
    · have := det_swap (a - b - 1) A b (n := n) (by omega)
      rw [show b + (a - b - 1) + 1 = a by omega] at this
      rw [swp_comm]
      exact this
theorem det_eq_rows {n : Nat} (A : Mx) (a b : Nat) (hab : a ≠ b) (ha : a < n) (hb : b < n) (h : ∀ j, j < n → A a j = A b j) : det n A = 0 := by
  have main : ∀ a b, a < b → b < n → (∀ j, j < n → A a j = A b j) → det n A = 0 := by
    intro a b hlt hb h
    rw [← det_swp A (a + 1) b (by omega) hb]
    refine det_eq_adj a _ (by omega) (fun j hj => ?_)
    simp only [swp, upd]
    rw [if_neg (by omega), if_neg (by omega)]
    by_cases e : a + 1 = b
    · rw [if_pos e, h j hj, e]
    · rw [if_neg e, if_pos trivial, h j hj]
  by_cases h1 : a < b
  · exact main a b h1 hb h
  · exact main b a (by omega) ha (fun j hj => (h j hj).symm)
theorem det_addrow {n : Nat} (A : Mx) (i k : Nat) (c : B) (hi : i < n) (hk : k < n) (hik : i ≠ k) : det n (upd A i (fun j => A i j ^^^ gmul c (A k j))) = det n A := by
  have := det_lin A i 1 c (A i) (A k) hi
  simp only [one_gmul] at this
  rw [this, upd_self, det_eq_rows (upd A i (A k)) i k hik hi hk (fun j _ => by rw [upd_at, upd_ne _ _ (fun e => hik e.symm)]), gmul_zero, bx_zero]
end Kin
/- Row operations over the field of 256 elements, matrices as functions. No program in sight. -/
namespace Kin
set_option linter.unusedVariables false

/-- The product of two matrices, n elements in the middle. -/
def mulF (n : Nat) (A C : Mx) : Mx := fun i j => bsum n (fun t => gmul (A i t) (C t j))
/-- Rows k and q exchanged, row k times s, then for every other row i: plus g i times row k. -/
def rowop (k q : Nat) (s : B) (g : Nat → B) (A : Mx) : Mx := fun i j =>
  if i = k then gmul (swp A k q k j) s else swp A k q i j ^^^ gmul (gmul (swp A k q k j) s) (g i)
theorem rowop_eq (k q : Nat) (s : B) (g : Nat → B) (A : Mx) (j : Nat) : rowop k q s g A k j = gmul (swp A k q k j) s := if_pos rfl
theorem rowop_ne {k q : Nat} (s : B) (g : Nat → B) (A : Mx) {i : Nat} (h : i ≠ k) (j : Nat) : rowop k q s g A i j = swp A k q i j ^^^ gmul (gmul (swp A k q k j) s) (g i) := if_neg h
theorem swp_le {a b i len : Nat} (ha : a < len) (hb : b < len) (hi : i < len) : (if i = b then a else if i = a then b else i) < len := by
  split
  · exact ha
  · split
    · exact hb
    · exact hi
theorem swp_mul (n : Nat) (A C : Mx) (a b : Nat) : swp (mulF n A C) a b = mulF n (swp A a b) C := by
  funext i j
  rw [swp_row]
  unfold mulF
  rw [swp_row]
theorem rowop_mul (n k q : Nat) (s : B) (g : Nat → B) (A C : Mx) : rowop k q s g (mulF n A C) = mulF n (rowop k q s g A) C := by
  funext i j
  by_cases h : i = k
  · subst h
    rw [rowop_eq, swp_mul]
    unfold mulF
    rw [← bsum_mul_right]
    refine bsum_congr fun t _ => ?_
    rw [rowop_eq, gmul_assoc, gmul_assoc, gmul_comm s]
  · rw [rowop_ne _ _ _ h, swp_mul]
    unfold mulF
    rw [← bsum_mul_right, ← bsum_mul_right, ← bsum_add]
    refine bsum_congr fun t _ => ?_
    rw [rowop_ne _ _ _ h, gmul_add_left]
    congr 1
    simp only [gmul_assoc, gmul_comm, gmul_left_comm]
theorem rowop_add (k q : Nat) (s : B) (g : Nat → B) (A C : Mx) : rowop k q s g (fun i j => A i j ^^^ C i j) = fun i j => rowop k q s g A i j ^^^ rowop k q s g C i j := by
  funext i j
  unfold rowop
  by_cases h : i = k
  · rw [if_pos h, if_pos h, if_pos h]
    simp only [swp_row]
    rw [gmul_add_left]
  · rw [if_neg h, if_neg h, if_neg h]
    simp only [swp_row]
    rw [gmul_add_left, gmul_add_left, bx_swap4]
theorem rowop_col {len k q : Nat} (hk : k < len) (hq : q < len) (s : B) (g : Nat → B) {A C : Mx} {j j' : Nat} (h : ∀ i, i < len → A i j = C i j') : ∀ i, i < len → rowop k q s g A i j = rowop k q s g C i j' := by
  have hs : ∀ i, i < len → swp A k q i j = swp C k q i j' := by
    intro i hi
    rw [swp_row, swp_row]
    exact h _ (swp_le hk hq hi)
  intro i hi
  by_cases e : i = k
  · subst e
    rw [rowop_eq, rowop_eq, hs i hi]
  · rw [rowop_ne _ _ _ e, rowop_ne _ _ _ e, hs i hi, hs k hk]
theorem rowop_zero {len k q : Nat} (hk : k < len) (hq : q < len) {s : B} (hs : s ≠ 0) (g : Nat → B) (A : Mx) (j : Nat) (h : ∀ i, i < len → rowop k q s g A i j = 0) : ∀ i, i < len → A i j = 0 := by
  have h0 : swp A k q k j = 0 := by
    have := h k hk
    unfold rowop at this
    rw [if_pos rfl] at this
    rcases gmul_eq_zero.1 this with e | e
    · exact e
    · exact absurd e hs
  have h1 : ∀ i, i < len → swp A k q i j = 0 := by
    intro i hi
    by_cases e : i = k
    · rw [e]; exact h0
    · have := h i hi
      unfold rowop at this
      rw [if_neg e, h0, zero_gmul, zero_gmul, bx_zero] at this
      exact this
  intro i hi
  have := h1 (if i = q then k else if i = k then q else i) (swp_le hk hq hi)
  rw [swp_row] at this
  have e : (if (if i = q then k else if i = k then q else i) = q then k else if (if i = q then k else if i = k then q else i) = k then q else (if i = q then k else if i = k then q else i)) = i := by
    by_cases a : i = q
    · subst a
      rw [if_pos rfl]
      by_cases b : k = i
      · rw [if_pos b, b]
      · rw [if_neg b, if_pos rfl]
    · rw [if_neg a]
      by_cases b : i = k
      · subst b
        rw [if_pos rfl, if_pos rfl]
      · rw [if_neg b, if_neg a, if_neg b]
  rwa [e] at this
/-- The other rows cleared up to row m. -/
def clr (k : Nat) (g : Nat → B) (m : Nat) (A : Mx) : Mx := fun i j => if i ≠ k ∧ i < m then A i j ^^^ gmul (A k j) (g i) else A i j
theorem det_clr {n k : Nat} (hk : k < n) (g : Nat → B) (A : Mx) (m : Nat) (hm : m ≤ n) : det n (clr k g m A) = det n A := by
  induction m with
  | zero =>
    congr 1
    funext i j
    unfold clr
    rw [if_neg (by omega)]
  | succ m ih =>
    rw [← ih (by omega)]
    by_cases e : m = k
    · congr 1
      funext i j
      unfold clr
      by_cases h : i ≠ k ∧ i < m
      · rw [if_pos h, if_pos ⟨h.1, by omega⟩]
      · rw [if_neg h, if_neg (by omega)]
    · rw [← det_addrow (clr k g m A) m k (g m) (by omega) hk e]
      congr 1
      funext i j
      by_cases h : i = m
      · subst h
        rw [upd_at]
        unfold clr
        rw [if_pos ⟨e, by omega⟩, if_neg (by omega), if_neg (by omega), gmul_comm]
      · rw [upd_ne _ _ h]
        unfold clr
        by_cases h2 : i ≠ k ∧ i < m
        · rw [if_pos h2, if_pos ⟨h2.1, by omega⟩]
        · rw [if_neg h2, if_neg (by omega)]
theorem det_rowop {n k q : Nat} (hk : k < n) (hq : q < n) (s : B) (g : Nat → B) (A : Mx) : det n (rowop k q s g A) = gmul s (det n A) := by
  rw [← det_swp A k q hk hq]
  have h2 := det_scale (swp A k q) k s (swp A k q k) hk
  rw [upd_self] at h2
  rw [← h2, ← det_clr hk g _ n (Nat.le_refl _)]
  refine det_congr fun i j hi hj => ?_
  unfold clr
  by_cases h : i = k
  · subst h
    rw [rowop_eq, if_neg (by omega), upd_at, gmul_comm]
  · rw [rowop_ne _ _ _ h, if_pos ⟨h, hi⟩, rowop_eq, upd_ne _ _ h, bx_cancel_right]
/-- F is a series of row operations on the first len rows; d is what they took out of the determinant. -/
structure Ops (len : Nat) (d : B) (F : Mx → Mx) : Prop where
  mul : ∀ n A C, F (mulF n A C) = mulF n (F A) C
  add : ∀ A C, F (fun i j => A i j ^^^ C i j) = fun i j => F A i j ^^^ F C i j
  col : ∀ {A C : Mx} {j j' : Nat}, (∀ i, i < len → A i j = C i j') → ∀ i, i < len → F A i j = F C i j'
  zero : ∀ A j, (∀ i, i < len → F A i j = 0) → ∀ i, i < len → A i j = 0
  det : ∀ A, gmul d (det len (F A)) = det len A
  ne : d ≠ 0
theorem Ops.none (len : Nat) : Ops len 1 (fun A => A) :=
  ⟨fun _ _ _ => rfl, fun _ _ => rfl, fun h => h, fun _ _ h => h, fun _ => one_gmul _, by decide⟩
theorem Ops.one {len k q : Nat} (hk : k < len) (hq : q < len) {p : B} (hp : p ≠ 0) (g : Nat → B) : Ops len p (rowop k q (ginv p) g) :=
  ⟨fun n A C => rowop_mul n k q _ g A C, fun A C => rowop_add k q _ g A C, fun h => rowop_col hk hq _ g h, fun A j h => rowop_zero hk hq (ginv_ne_zero hp) g A j h, fun A => by rw [det_rowop hk hq, ← gmul_assoc, gmul_ginv p hp, one_gmul], hp⟩
theorem Ops.comp {len : Nat} {d e : B} {F G : Mx → Mx} (h : Ops len d F) (h' : Ops len e G) : Ops len (gmul d e) (fun A => G (F A)) :=
  ⟨fun n A C => by rw [h.mul, h'.mul], fun A C => by rw [h.add, h'.add], fun x => h'.col (h.col x), fun A j x => h.zero A j (h'.zero (F A) j x), fun A => by rw [gmul_assoc, h'.det, h.det], gmul_ne_zero h.ne h'.ne⟩
end Kin
/- The elimination, plain: its row operations, and the form that it gives. -/
namespace Go.Proofs.Ytpkghpljgjlmjaa.K
open Kin
set_option linter.unusedVariables false
/-- The elements of a list of rows, 0 outside. -/
def fn (R : List (List B)) : Mx := fun i j => (R.getD i []).getD j 0
theorem fn_set (R : List (List B)) (a : Nat) (r : List B) (ha : a < R.length) : fn (R.set a r) = upd (fn R) a (fun j => r.getD j 0) := by
  funext i j
  by_cases h : i = a
  · subst h
    rw [upd_at]
    have e : (R.set i r).getD i [] = r := by rw [List.getD_eq_getElem?_getD, List.getElem?_set_self ha]; rfl
    unfold fn
    rw [e]
  · rw [upd_ne _ _ h]
    have e : (R.set a r).getD i [] = R.getD i [] := by rw [List.getD_eq_getElem?_getD, List.getElem?_set_ne (fun e => h e.symm), ← List.getD_eq_getElem?_getD]
    unfold fn
    rw [e]
end Go.Proofs.Ytpkghpljgjlmjaa.K
/- Products of the program and of the reference, plain: both are the sums of products. -/
namespace Go.Proofs.Ytpkghpljgjlmjaa.K
open Go.RowKit Go.Proofs.YtpkghpljgjlmjaaW.PrintWords Go.Proofs.YtpkghpljgjlmjaaW.PrintLast Go.Proofs.YtpkghpljgjlmjaaW.PrintMore Kin
set_option linter.unusedVariables false
/-- With rounds enough, F tells r. -/
def Evt {α : Type} (F : Nat → Option α) (r : α) : Prop := ∃ K, ∀ k, K ≤ k → F k = some r
theorem Evt.of {α : Type} {F : Nat → Option α} {r : α} (K : Nat) (h : ∀ k, K ≤ k → F k = some r) : Evt F r := ⟨K, h⟩
theorem Evt.succ {α : Type} {F G : Nat → Option α} {r : α} (h : Evt G r) (e : ∀ k, 300 ≤ k → F (k + 1) = G k) : Evt F r := by
  obtain ⟨K, h⟩ := h
  refine ⟨K + 301, fun k hk => ?_⟩
  obtain ⟨k, rfl⟩ : ∃ j, k = j + 1 := ⟨k - 1, by omega⟩
  rw [e k (by omega), h k (by omega)]
/-- The elements el i k in rows of cols. -/
def tabM (rows cols : Nat) (el : Nat → Nat → B) : List (List B) := (List.range rows).map fun i => (List.range cols).map fun k => el i k
theorem tabM_length (rows cols : Nat) (el : Nat → Nat → B) : (tabM rows cols el).length = rows := by simp [tabM]
theorem tabM_rows (rows cols : Nat) (el : Nat → Nat → B) : ∀ r ∈ tabM rows cols el, r.length = cols := by
  intro r hr
  obtain ⟨i, _, rfl⟩ := List.mem_map.1 hr
  simp
theorem tabM_fn {rows cols : Nat} (el : Nat → Nat → B) {i k : Nat} (hi : i < rows) (hk : k < cols) : fn (tabM rows cols el) i k = el i k := by
  have e : (tabM rows cols el).getD i [] = (List.range cols).map fun k => el i k := by
    unfold tabM
    rw [List.getD_eq_getElem?_getD, List.getElem?_map, List.getElem?_range hi]
    rfl
  unfold fn
  rw [e, List.getD_eq_getElem?_getD, List.getElem?_map, List.getElem?_range hk]
  rfl
theorem row_at {A : List (List B)} {i : Nat} (h : i < A.length) : A.getD i [] = A[i] := by
  rw [List.getD_eq_getElem?_getD, List.getElem?_eq_getElem h]; rfl
theorem mat_ext {A C : List (List B)} {r c : Nat} (h1 : A.length = r) (h2 : C.length = r) (hA : ∀ x ∈ A, x.length = c) (hC : ∀ x ∈ C, x.length = c) (h : ∀ i j, i < r → j < c → fn A i j = fn C i j) : A = C := by
  refine List.ext_getElem (by omega) (fun i g1 g2 => ?_)
  have a := hA _ (List.getElem_mem g1)
  have b := hC _ (List.getElem_mem g2)
  refine List.ext_getElem (by omega) (fun j g3 g4 => ?_)
  have := h i j (by omega) (by omega)
  unfold fn at this
  rw [row_at g1, row_at g2, List.getD_eq_getElem?_getD, List.getD_eq_getElem?_getD, List.getElem?_eq_getElem g3, List.getElem?_eq_getElem g4] at this
  exact this
section
variable {A C : List (List B)} {cols : Nat}
end
end Go.Proofs.Ytpkghpljgjlmjaa.K
/- Transposed matrices and picked rows, plain. -/
namespace Go.Proofs.Ytpkghpljgjlmjaa.K
open Go.RowKit Go.Proofs.YtpkghpljgjlmjaaW.PrintWords Go.Proofs.YtpkghpljgjlmjaaW.PrintLast Go.Proofs.YtpkghpljgjlmjaaW.PrintMore Kin
set_option linter.unusedVariables false
theorem setd_eq (r : List B) (k : Nat) (x : B) (j : Nat) : (r.set k x).getD j 0 = if j = k ∧ k < r.length then x else r.getD j 0 := by
  rw [List.getD_eq_getElem?_getD, List.getElem?_set]
  by_cases h : k = j
  · subst h
    rw [if_pos rfl]
    by_cases h2 : k < r.length
    · rw [if_pos h2, if_pos ⟨rfl, h2⟩]; rfl
    · rw [if_neg h2, if_neg (by omega), List.getD_eq_getElem?_getD, List.getElem?_eq_none (by omega)]
  · rw [if_neg h, if_neg (by omega), List.getD_eq_getElem?_getD]
theorem tabM_row {rows cols : Nat} (el : Nat → Nat → B) {i : Nat} (hi : i < rows) : ((tabM rows cols el).getD i []).length = cols :=
  tabM_rows rows cols el _ (getD_mem' (by rw [tabM_length]; exact hi))
theorem tabM_congr {rows cols : Nat} {f g : Nat → Nat → B} (h : ∀ i j, i < rows → j < cols → f i j = g i j) : tabM rows cols f = tabM rows cols g :=
  mat_ext (tabM_length _ _ _) (tabM_length _ _ _) (tabM_rows _ _ _) (tabM_rows _ _ _) fun i j hi hj => by rw [tabM_fn _ hi hj, tabM_fn _ hi hj, h i j hi hj]
theorem tabM_set {rows cols : Nat} (f : Nat → Nat → B) {a b : Nat} (ha : a < rows) (hb : b < cols) (x : B) : (tabM rows cols f).set a (((tabM rows cols f).getD a []).set b x) = tabM rows cols fun i j => if i = a ∧ j = b then x else f i j := by
  have hr := tabM_row (cols := cols) f ha
  refine mat_ext (r := rows) (c := cols) (by rw [List.length_set, tabM_length]) (tabM_length _ _ _) (fun r hr' => ?_) (tabM_rows _ _ _) (fun i j hi hj => ?_)
  · rcases List.mem_or_eq_of_mem_set hr' with h | rfl
    · exact tabM_rows _ _ _ r h
    · rw [List.length_set, hr]
  · rw [fn_set _ _ _ (by rw [tabM_length]; exact ha), tabM_fn _ hi hj]
    by_cases h : i = a
    · subst h
      rw [upd_at, setd_eq, hr]
      by_cases h2 : j = b
      · rw [if_pos ⟨h2, hb⟩, if_pos ⟨rfl, h2⟩]
      · rw [if_neg (by omega), if_neg (by omega)]
        exact tabM_fn f hi hj
    · rw [upd_ne _ _ h, if_neg (by omega), tabM_fn f hi hj]
/-- The transposed matrix, filled up to row i, element k. -/
def trU (M : List (List B)) (n i k : Nat) : List (List B) := tabM n M.length fun a b => if b < i ∨ (b = i ∧ a < k) then fn M b a else 0
def trM (M : List (List B)) (n : Nat) : List (List B) := tabM n M.length fun a b => fn M b a
theorem trU_zero (M : List (List B)) (n : Nat) : trU M n 0 0 = List.replicate n (List.replicate M.length 0) := by
  refine mat_ext (r := n) (c := M.length) (tabM_length _ _ _) (by simp) (tabM_rows _ _ _) (fun r hr => by rw [List.eq_of_mem_replicate hr]; simp) (fun i j hi hj => ?_)
  rw [trU, tabM_fn _ hi hj, if_neg (by omega)]
  unfold fn
  have e : (List.replicate n (List.replicate M.length (0 : B))).getD i [] = List.replicate M.length 0 := by
    rw [List.getD_eq_getElem?_getD, List.getElem?_replicate, if_pos hi]; rfl
  rw [e, List.getD_eq_getElem?_getD, List.getElem?_replicate, if_pos hj]; rfl
theorem trU_next (M : List (List B)) (n i : Nat) : trU M n i n = trU M n (i + 1) 0 :=
  tabM_congr fun a b ha hb => by
    by_cases h : b < i ∨ (b = i ∧ a < n)
    · rw [if_pos h, if_pos (by omega)]
    · rw [if_neg h, if_neg (by omega)]
theorem trU_all (M : List (List B)) (n : Nat) : trU M n M.length 0 = trM M n :=
  tabM_congr fun a b ha hb => by rw [if_pos (by omega)]
theorem trU_step (M : List (List B)) {n i k : Nat} (hi : i < M.length) (hk : k < n) : (trU M n i k).set k (((trU M n i k).getD k []).set i (fn M i k)) = trU M n i (k + 1) := by
  unfold trU
  rw [tabM_set _ hk hi]
  refine tabM_congr fun a b ha hb => ?_
  by_cases h : a = k ∧ b = i
  · rw [if_pos h, if_pos (by omega), h.1, h.2]
  · rw [if_neg h]
    by_cases h2 : b < i ∨ (b = i ∧ a < k)
    · rw [if_pos h2, if_pos (by omega)]
    · rw [if_neg h2, if_neg (by omega)]
section
variable {M : List (List B)} {n : Nat}
theorem transp_l1 (hM : ∀ r ∈ M, r.length = n) (hn : n ≤ 64) (hl : M.length ≤ 64) {R : List (List Int) × Int} {i : Nat} (hi : i < M.length)
    (next : Evt (fun K => matrix_Transpose.l0 K (up2 (trU M n (i + 1) 0)) (up2 M) (M.length : Int) ((i + 1 : Nat) : Int)) R) (m : Nat) :
    ∀ k, k + m = n → Evt (fun K => matrix_Transpose.l1 K (up2 (trU M n i k)) (i : Int) (up2 M) (M.length : Int) (i : Int) (up (M.getD i [])) (n : Int) (k : Int)) R := by
  have hr : (M.getD i []).length = n := hM _ (getD_mem' hi)
  induction m with
  | zero =>
    intro k hk
    obtain rfl : k = n := by omega
    refine next.succ fun K _ => ?_
    simp only [matrix_Transpose.l1]
    rw [if_neg (by omega), wrap_nx' _ (by omega), trU_next]
  | succ m ih =>
    intro k hk
    refine (ih (k + 1) (by omega)).succ fun K _ => ?_
    have hrow : ((trU M n i k).getD k []).length = M.length := tabM_row _ (by omega)
    simp only [matrix_Transpose.l1]
    rw [if_pos (by omega), if_pos (by omega), if_pos (by rw [up_length]; omega), if_pos (by rw [up2_length, trU, tabM_length]; omega), if_pos (by omega), rd_L1_up2, if_pos (by rw [up_length]; omega), getD_up, Int.toNat_natCast, Int.toNat_natCast, set_up, set_up2, show (M.getD i []).getD k 0 = fn M i k from rfl, trU_step M hi (by omega), wrap_nx' _ (by omega)]
theorem transp_l0 (hM : ∀ r ∈ M, r.length = n) (hn : n ≤ 64) (hl : M.length ≤ 64) (m : Nat) :
    ∀ i, i + m = M.length → Evt (fun K => matrix_Transpose.l0 K (up2 (trU M n i 0)) (up2 M) (M.length : Int) (i : Int)) (up2 (trM M n), 0) := by
  induction m with
  | zero =>
    intro i hi
    obtain rfl : i = M.length := by omega
    refine Evt.of 1 fun K hK => ?_
    obtain ⟨K, rfl⟩ : ∃ j, K = j + 1 := ⟨K - 1, by omega⟩
    simp only [matrix_Transpose.l0]
    rw [if_neg (by omega), trU_all]
  | succ m ih =>
    intro i hi
    have hr : (M.getD i []).length = n := hM _ (getD_mem' (by omega))
    refine (transp_l1 hM hn hl (i := i) (by omega) (ih (i + 1) (by omega)) n 0 (by omega)).succ fun K _ => ?_
    simp only [matrix_Transpose.l0]
    rw [if_pos (by omega), if_pos (by omega), if_pos (by rw [up2_length]; omega), rd_L1_up2, up_length, hr]
    rfl
theorem transpose_b (hv : validB M = true) : Evt (fun K => matrix_Transpose.f K (up2 M)) (up2 (trM M (colsN M)), 0) := by
  obtain ⟨h1, h2, h3⟩ := validB_lim hv
  obtain ⟨K, h⟩ := transp_l0 h3 h2 h1 M.length 0 (by omega)
  refine ⟨K + 100, fun k hk => ?_⟩
  unfold matrix_Transpose.f
  rw [matrix_Valid.f, validB_up2, hv, columns_eq, colsN_up2, up2_length]
  simp only [Option.bind_some, if_true]
  rw [zero_eq (colsN M) M.length (by omega) (by omega) (by omega), zeros_up2, ← trU_zero]
  simp only [Option.bind_some]
  exact h k (by omega)
theorem reftransp_l1 (hM : ∀ r ∈ M, r.length = n) (hn : n ≤ 64) (hl : M.length ≤ 64) {R : List (List Int)} {i : Nat} (hi : i < M.length)
    (next : Evt (fun K => kinkeepref04_Transpose.l0 K (up2 M) (up2 (trU M n (i + 1) 0)) ((i + 1 : Nat) : Int)) R) (m : Nat) :
    ∀ k, k + m = n → Evt (fun K => kinkeepref04_Transpose.l1 K (up2 M) (up2 (trU M n i k)) (i : Int) (k : Int)) R := by
  have hr : (M.getD i []).length = n := hM _ (getD_mem' hi)
  induction m with
  | zero =>
    intro k hk
    obtain rfl : k = n := by omega
    refine next.succ fun K _ => ?_
    simp only [kinkeepref04_Transpose.l1]
    rw [if_pos (by omega), if_pos (by rw [up2_length]; omega), rd_L1_up2, if_neg (by rw [up_length]; omega), wrap_nx' _ (by omega), trU_next]
  | succ m ih =>
    intro k hk
    refine (ih (k + 1) (by omega)).succ fun K _ => ?_
    have hrow : ((trU M n i k).getD k []).length = M.length := tabM_row _ (by omega)
    simp only [kinkeepref04_Transpose.l1]
    rw [if_pos (by omega), if_pos (by rw [up2_length]; omega), rd_L1_up2, if_pos (by rw [up_length]; omega), if_pos (by omega), if_pos (by rw [up2_length, trU, tabM_length]; omega), rd_L1_up2, if_pos (by rw [up_length]; omega), getD_up, Int.toNat_natCast, Int.toNat_natCast, set_up, set_up2, show (M.getD i []).getD k 0 = fn M i k from rfl, trU_step M hi (by omega), wrap_nx' _ (by omega)]
theorem reftransp_l0 (hM : ∀ r ∈ M, r.length = n) (hn : n ≤ 64) (hl : M.length ≤ 64) (m : Nat) :
    ∀ i, i + m = M.length → Evt (fun K => kinkeepref04_Transpose.l0 K (up2 M) (up2 (trU M n i 0)) (i : Int)) (up2 (trM M n)) := by
  induction m with
  | zero =>
    intro i hi
    obtain rfl : i = M.length := by omega
    refine Evt.of 1 fun K hK => ?_
    obtain ⟨K, rfl⟩ : ∃ j, K = j + 1 := ⟨K - 1, by omega⟩
    simp only [kinkeepref04_Transpose.l0]
    rw [if_neg (by rw [up2_length]; omega), trU_all]
  | succ m ih =>
    intro i hi
    refine (reftransp_l1 hM hn hl (i := i) (by omega) (ih (i + 1) (by omega)) n 0 (by omega)).succ fun K _ => ?_
    simp only [kinkeepref04_Transpose.l0]
    rw [if_pos (by rw [up2_length]; omega)]
    rfl
theorem reftranspose_b (hv : validB M = true) : Evt (fun K => kinkeepref04_Transpose.f K (up2 M)) (up2 (trM M (colsN M))) := by
  obtain ⟨h1, h2, h3⟩ := validB_lim hv
  obtain ⟨K, h⟩ := reftransp_l0 h3 h2 h1 M.length 0 (by omega)
  refine ⟨K + 100, fun k hk => ?_⟩
  unfold kinkeepref04_Transpose.f
  rw [refcols_b, colsN_up2, up2_length]
  simp only [Option.bind_some]
  rw [refzero_b (colsN M) M.length (by omega) (by omega) (by omega), ← trU_zero]
  simp only [Option.bind_some]
  exact h k (by omega)
end
/-- An index of a row. -/
def okIx (n : Nat) (x : Int) : Prop := 0 ≤ x ∧ x < (n : Int)
instance (n : Nat) (x : Int) : Decidable (okIx n x) := inferInstanceAs (Decidable (_ ∧ _))
theorem first_bad (n : Nat) (l : List Int) : (∀ j, j < l.length → okIx n (l.getD j 0)) ∨ ∃ p, p < l.length ∧ ¬ okIx n (l.getD p 0) ∧ ∀ j, j < p → okIx n (l.getD j 0) := by
  have : ∀ m, m ≤ l.length → (∀ j, j < m → okIx n (l.getD j 0)) ∨ ∃ p, p < m ∧ ¬ okIx n (l.getD p 0) ∧ ∀ j, j < p → okIx n (l.getD j 0) := by
    intro m
    induction m with
    | zero => intro _; exact .inl fun j hj => absurd hj (Nat.not_lt_zero _)
    | succ m ih =>
      intro hm
      rcases ih (by omega) with h | ⟨p, h1, h2, h3⟩
      · by_cases hb : okIx n (l.getD m 0)
        · refine .inl fun j hj => ?_
          by_cases e : j = m
          · rw [e]; exact hb
          · exact h j (by omega)
        · exact .inr ⟨m, by omega, hb, h⟩
      · exact .inr ⟨p, by omega, h2, h3⟩
  exact this l.length (Nat.le_refl _)
def pick (M : List (List B)) (l : List Int) : List (List B) := l.map fun x => M.getD x.toNat []
theorem rd_get (l : List Int) (i : Nat) : rd l (i : Int) = l.getD i 0 := rfl
theorem rd_L1_int (M : List (List B)) (x : Int) (h : 0 ≤ x) : rd_L1 (up2 M) x = up (M.getD x.toNat []) := by
  obtain ⟨m, rfl⟩ := Int.eq_ofNat_of_zero_le h
  rw [rd_L1_up2, Int.toNat_natCast]
theorem pick_take (M : List (List B)) (l : List Int) {i : Nat} (hi : i < l.length) : pick M (l.take (i + 1)) = pick M (l.take i) ++ [M.getD (l.getD i 0).toNat []] := by
  unfold pick
  rw [List.take_succ_eq_append_getElem hi, List.map_append, List.getD_eq_getElem?_getD (l := l), List.getElem?_eq_getElem hi]
  rfl
section
variable {M : List (List B)} {l : List Int} {n : Nat}
theorem rows_good (hM : ∀ r ∈ M, r.length ≤ 64) (hl : M.length ≤ 64) (hll : l.length ≤ 64) (hg : ∀ j, j < l.length → okIx M.length (l.getD j 0)) (m : Nat) :
    ∀ i, i + m = l.length → Evt (fun K => matrix_Rows.l0 K (up2 M) (up2 (pick M (l.take i))) l (l.length : Int) (i : Int)) (up2 (pick M l), 0) := by
  induction m with
  | zero =>
    intro i hi
    obtain rfl : i = l.length := by omega
    refine Evt.of 1 fun K hK => ?_
    obtain ⟨K, rfl⟩ : ∃ j, K = j + 1 := ⟨K - 1, by omega⟩
    simp only [matrix_Rows.l0]
    rw [if_neg (by omega), List.take_length]
  | succ m ih =>
    intro i hi
    refine (ih (i + 1) (by omega)).succ fun K _ => ?_
    obtain ⟨g1, g2⟩ := hg i (by omega)
    have hrow : (M.getD (l.getD i 0).toNat []).length ≤ 64 := hM _ (getD_mem' (by omega))
    simp only [matrix_Rows.l0]
    rw [if_pos (by omega), if_pos (by omega), if_pos (by omega), rd_get, if_neg (by omega), if_neg (by rw [up2_length]; omega), if_pos g1, if_pos (by rw [up2_length]; omega), rd_L1_int M _ g1, slices_Clone_byte_byte.f, if_pos (by rw [up_length]; omega)]
    simp only [Option.bind_some]
    rw [if_pos (by rw [up2_length, pick, List.length_map, List.length_take]; omega), wrap_nx' _ (by omega), pick_take M l (by omega), up2_append]
    rfl
theorem rows_bad (hM : ∀ r ∈ M, r.length ≤ 64) (hl : M.length ≤ 64) (hll : l.length ≤ 64) {p : Nat} (hp : p < l.length) (hb : ¬ okIx M.length (l.getD p 0)) (hg : ∀ j, j < p → okIx M.length (l.getD j 0)) (m : Nat) :
    ∀ i, i + m = p → Evt (fun K => matrix_Rows.l0 K (up2 M) (up2 (pick M (l.take i))) l (l.length : Int) (i : Int)) ([], 1) := by
  induction m with
  | zero =>
    intro i hi
    obtain rfl : i = p := by omega
    refine Evt.of 1 fun K hK => ?_
    obtain ⟨K, rfl⟩ : ∃ j, K = j + 1 := ⟨K - 1, by omega⟩
    simp only [matrix_Rows.l0]
    rw [if_pos (by omega), if_pos (by omega), if_pos (by omega), rd_get]
    by_cases h : l.getD i 0 < 0
    · rw [if_pos h]
    · rw [if_neg h, if_pos]
      rw [up2_length]
      unfold okIx at hb
      omega
  | succ m ih =>
    intro i hi
    refine (ih (i + 1) (by omega)).succ fun K _ => ?_
    obtain ⟨g1, g2⟩ := hg i (by omega)
    have hrow : (M.getD (l.getD i 0).toNat []).length ≤ 64 := hM _ (getD_mem' (by omega))
    simp only [matrix_Rows.l0]
    rw [if_pos (by omega), if_pos (by omega), if_pos (by omega), rd_get, if_neg (by omega), if_neg (by rw [up2_length]; omega), if_pos g1, if_pos (by rw [up2_length]; omega), rd_L1_int M _ g1, slices_Clone_byte_byte.f, if_pos (by rw [up_length]; omega)]
    simp only [Option.bind_some]
    rw [if_pos (by rw [up2_length, pick, List.length_map, List.length_take]; omega), wrap_nx' _ (by omega), pick_take M l (by omega), up2_append]
    rfl
end
end Go.Proofs.Ytpkghpljgjlmjaa.K
/- The plain law of MatrixPicks: what the printed function computes is true. -/
namespace Go.Proofs.Ytpkghpljgjlmjaa.Pure
open Go.RowKit Go.Proofs.Ytpkghpljgjlmjaa.K Kin
set_option linter.unusedVariables false
section
variable {M : List (List B)} {l : List Int}
theorem picks_good (hM : ∀ r ∈ M, r.length ≤ 64) (hl : M.length ≤ 64) (hll : l.length ≤ 64) (hg : ∀ j, j < l.length → okIx M.length (l.getD j 0)) (m : Nat) :
    ∀ i, i + m = l.length → Evt (fun K => kinkeeplaw04_MatrixPicks.l0 K (up2 M) l (up2 (pick M l)) 0 (up2 (pick M (l.take i))) (i : Int)) true := by
  induction m with
  | zero =>
    intro i hi
    obtain rfl : i = l.length := by omega
    refine Evt.of 100 fun K hK => ?_
    obtain ⟨K, rfl⟩ : ∃ j, K = j + 1 := ⟨K - 1, by omega⟩
    simp only [kinkeeplaw04_MatrixPicks.l0]
    rw [if_neg (by omega), kinkeeplaw04_awake.f, List.take_length, same_self _ (by rw [up2_length, pick, List.length_map]; omega) (by rw [up2_length, pick, List.length_map]; omega)]
    simp
  | succ m ih =>
    intro i hi
    refine (ih (i + 1) (by omega)).succ fun K _ => ?_
    obtain ⟨g1, g2⟩ := hg i (by omega)
    simp only [kinkeeplaw04_MatrixPicks.l0]
    rw [if_pos (by omega), if_pos (by omega), rd_get, if_neg (by omega), if_neg (by rw [up2_length]; omega), if_pos g1, if_pos (by rw [up2_length]; omega), if_pos (by rw [up2_length, pick, List.length_map, List.length_take]; omega), rd_L1_int M _ g1, wrap_nx' _ (by omega), pick_take M l (by omega), up2_append]
    rfl
theorem picks_bad (hM : ∀ r ∈ M, r.length ≤ 64) (hl : M.length ≤ 64) (hll : l.length ≤ 64) {p : Nat} (hp : p < l.length) (hb : ¬ okIx M.length (l.getD p 0)) (hg : ∀ j, j < p → okIx M.length (l.getD j 0)) (m : Nat) :
    ∀ i, i + m = p → Evt (fun K => kinkeeplaw04_MatrixPicks.l0 K (up2 M) l [] 1 (up2 (pick M (l.take i))) (i : Int)) true := by
  induction m with
  | zero =>
    intro i hi
    obtain rfl : i = p := by omega
    refine Evt.of 1 fun K hK => ?_
    obtain ⟨K, rfl⟩ : ∃ j, K = j + 1 := ⟨K - 1, by omega⟩
    simp only [kinkeeplaw04_MatrixPicks.l0]
    rw [if_pos (by omega), if_pos (by omega), rd_get, kinkeeplaw04_awake.f]
    by_cases h : l.getD i 0 < 0
    · rw [if_pos h]
      simp
    · rw [if_neg h, if_pos]
      · simp
      · rw [up2_length]
        unfold okIx at hb
        omega
  | succ m ih =>
    intro i hi
    refine (ih (i + 1) (by omega)).succ fun K _ => ?_
    obtain ⟨g1, g2⟩ := hg i (by omega)
    simp only [kinkeeplaw04_MatrixPicks.l0]
    rw [if_pos (by omega), if_pos (by omega), rd_get, if_neg (by omega), if_neg (by rw [up2_length]; omega), if_pos g1, if_pos (by rw [up2_length]; omega), if_pos (by rw [up2_length, pick, List.length_map, List.length_take]; omega), rd_L1_int M _ g1, wrap_nx' _ (by omega), pick_take M l (by omega), up2_append]
    rfl
end
theorem rows_f {M : List (List B)} {l : List Int} (hv : validB M = true) (hl : l.length ≤ 64) (k : Nat) : matrix_Rows.f (k + 1) (up2 M) l = matrix_Rows.l0 k (up2 M) (up2 (pick M (l.take 0))) l (l.length : Int) ((0 : Nat) : Int) := by
  unfold matrix_Rows.f
  rw [matrix_Valid.f, validB_up2, hv]
  simp only [Option.bind_some, if_true]
  rw [show decide ((l.length : Int) > 64) = false by rw [decide_eq_false_iff_not]; omega]
  simp only [matrix_Rows.j0, Bool.false_eq_true, if_false]
  rw [if_pos hl]
  rfl
theorem MatrixPicks (M : List (List B)) (hM : (up2 M).length ≤ 9223372036854775807) (l : List Int) (hl : l.length ≤ 9223372036854775807) (hw : ∀ x ∈ l, (Lit.int .i64 x).wf = true) : ∃ k, kinkeeplaw04_MatrixPicks.f k (up2 M) l = some true := by
  have F : ∀ k, (up2 M).length < k → kinkeeplaw04_MatrixPicks.f k (up2 M) l = kinkeeplaw04_MatrixPicks.j0 k (up2 M) l (!(fewB (up2 M) 8 && decide (l.length ≤ 10))) := by
    intro k hk
    unfold kinkeeplaw04_MatrixPicks.f
    rw [show (8 : Int) = ((8 : Nat) : Int) from rfl, few_b (up2 M) 8 hM (by omega)]
    simp only [Option.bind_some]
    cases fewB (up2 M) 8 with
    | false => rfl
    | true =>
      rw [if_pos rfl, Bool.true_and]
      congr 1
      rw [← decide_not, decide_eq_decide]
      omega
  by_cases hf : (fewB (up2 M) 8 && decide (l.length ≤ 10)) = true
  · rw [Bool.and_eq_true, decide_eq_true_eq] at hf
    obtain ⟨f1, f2⟩ := fewB_true hf.1
    rw [up2_length] at f1
    by_cases hv : validB M = true
    · obtain ⟨v1, v2, v3⟩ := validB_lim hv
      obtain ⟨K1, h1⟩ := transpose_b hv
      obtain ⟨K2, h2⟩ := reftranspose_b hv
      have hrows : ∀ r ∈ M, r.length ≤ 64 := fun r hr => by rw [v3 r hr]; exact v2
      have step : ∀ (t7 : List (List Int)) (t8 : Int), Evt (fun K => matrix_Rows.l0 K (up2 M) (up2 (pick M (l.take 0))) l (l.length : Int) ((0 : Nat) : Int)) (t7, t8) → Evt (fun K => kinkeeplaw04_MatrixPicks.l0 K (up2 M) l t7 t8 (up2 (pick M (l.take 0))) ((0 : Nat) : Int)) true → ∃ k, kinkeeplaw04_MatrixPicks.f k (up2 M) l = some true := by
        intro t7 t8 ⟨K3, h3⟩ ⟨K4, h4⟩
        simp only at h1 h2 h3 h4
        obtain ⟨k, hk⟩ : ∃ k, K1 + K2 + K3 + K4 + M.length + 300 ≤ k := ⟨_, Nat.le_refl _⟩
        refine ⟨k + 2, ?_⟩
        rw [F _ (by rw [up2_length]; omega), hf.1, decide_eq_true hf.2]
        simp only [kinkeeplaw04_MatrixPicks.j0, Bool.and_self, Bool.not_true, Bool.false_eq_true, if_false]
        rw [h1 _ (by omega), rows_f hv (by omega), h3 _ (by omega), refvalid_b _ (by omega), validB_up2, hv]
        simp only [Option.bind_some, if_true]
        rw [h2 _ (by omega)]
        simp only [Option.bind_some]
        rw [same_self _ (by rw [up2_length, trM, tabM_length]; omega) (by rw [up2_length, trM, tabM_length]; omega)]
        simp only [Option.bind_some, Bool.not_true, kinkeeplaw04_MatrixPicks.j1, Bool.false_eq_true, if_false]
        exact h4 k (by omega)
      rcases first_bad M.length l with hg | ⟨p, hp, hb, hg⟩
      · exact step _ _ (rows_good hrows v1 (by omega) hg l.length 0 (by omega)) (picks_good hrows v1 (by omega) hg l.length 0 (by omega))
      · exact step _ _ (rows_bad hrows v1 (by omega) hp hb hg p 0 (by omega)) (picks_bad hrows v1 (by omega) hp hb hg p 0 (by omega))
    · have hv' : validB (up2 M) = false := by rw [validB_up2]; simpa using hv
      obtain ⟨k, hk⟩ : ∃ k, (up2 M).length + 300 ≤ k := ⟨_, Nat.le_refl _⟩
      refine ⟨k + 2, ?_⟩
      have ht : matrix_Transpose.f (k + 1) (up2 M) = some ([], 1) := by
        unfold matrix_Transpose.f
        rw [matrix_Valid.f, hv']
        rfl
      have hr : matrix_Rows.f (k + 1) (up2 M) l = some ([], 1) := by
        unfold matrix_Rows.f
        rw [matrix_Valid.f, hv']
        rfl
      rw [F _ (by omega), hf.1, decide_eq_true hf.2]
      simp only [kinkeeplaw04_MatrixPicks.j0, Bool.and_self, Bool.not_true, Bool.false_eq_true, if_false]
      rw [ht, hr, refvalid_b _ (by omega), hv', kinkeeplaw04_awake.f]
      simp
  · obtain ⟨k, hk⟩ : ∃ k, (up2 M).length + 200 ≤ k := ⟨_, Nat.le_refl _⟩
    refine ⟨k + 1, ?_⟩
    rw [F _ (by omega), show (fewB (up2 M) 8 && decide (l.length ≤ 10)) = false by simpa using hf]
    simp only [kinkeeplaw04_MatrixPicks.j0, Bool.not_false, if_true, kinkeeplaw04_awake.f]
    rfl
end Go.Proofs.Ytpkghpljgjlmjaa.Pure
/- An argument that is a list of bytes or of ints, opened. -/
namespace Go.Proofs.Ytpkghpljgjlmjaa.K
open Go.RowKit Go.WideShapes Go.ChangeShapes Go.ChangeAt Go.Proofs.YtpkghpljgjlmjaaW.PrintWords Go.Proofs.YtpkghpljgjlmjaaW.PrintLast Go.Proofs.YtpkghpljgjlmjaaW.PrintMore
set_option linter.unusedVariables false
theorem C_of_cells {k : IntKind} {W : World} {x : Addr} {len cap : Nat} {zs : List Int} (hl : len ≤ cap) (hm : cap ≤ maxLen) (hz : zs.length = cap) (hcell : ∀ i, i < zs.length → W.cell? (x.add i) = some (.int k (zs.getD i 0))) :
    len = (zs.take len).length ∧ (zs.take len).length ≤ cap ∧ Kd.C (Kd.int k) W (some x) (zs.take len).length (zs.take len) := by
  have hlen : (zs.take len).length = len := by rw [List.length_take]; omega
  refine ⟨hlen.symm, by omega, rfl, by rw [hlen]; have : cap ≤ 9223372036854775807 := hm; omega, fun hp => ⟨x, rfl, fun i y hi => ?_⟩⟩
  have hil : i < len := by
    have := (List.getElem?_eq_some_iff.1 hi).1
    rwa [hlen] at this
  have hy : y = zs.getD i 0 := by
    rw [List.getElem?_take_of_lt hil] at hi
    rw [List.getD_eq_getElem?_getD, hi]; rfl
  subst hy
  refine ⟨[.int k (zs.getD i 0)], rfl, rfl, fun j u hj => ?_⟩
  cases j with
  | zero =>
    simp only [List.getElem?_cons_zero, Option.some.injEq] at hj
    subst hj
    rw [show i * (Kd.int k).sz + 0 = i from by show i * 1 + 0 = i; omega]
    exact hcell i (by omega)
  | succ j => simp at hj
theorem nums_of_trod {H : Type} {enc : TypeId × Value → H} {W : World} {a : Option Addr} {len cap : Nat} {d : DataW H} {p : List MemPlace} (h : DataW.Trod enc Try.prog W 0 (fun _ => true) true 29 (.slice a len cap) d p) :
    ∃ zs : List Int, len = zs.length ∧ zs.length ≤ cap ∧ Kd.C (Kd.int .i64) W a zs.length zs ∧ ∀ x ∈ zs, (Lit.int .i64 x).wf = true := by
  obtain ⟨fuel, hf⟩ := h
  rcases open_ints Try.underlying29 Try.underlying3 (by kernel_rfl) hf with ⟨hcs, _⟩ | ⟨x, l, c, zs, hcs, _, hl, hm, hz, _, hcell, hwz⟩
  · simp [Value.cells] at hcs
    obtain ⟨rfl, rfl, rfl⟩ := hcs
    exact ⟨[], rfl, Nat.zero_le _, ⟨rfl, by decide, fun hp => absurd hp (by decide)⟩, fun x hx => by simp at hx⟩
  · simp [Value.cells] at hcs
    obtain ⟨rfl, rfl, rfl⟩ := hcs
    obtain ⟨h1, h2, h3⟩ := C_of_cells hl hm (by simpa using hz) hcell
    exact ⟨zs.take len, h1, h2, h3, fun y hy => hwz y (List.mem_of_mem_take hy)⟩
theorem V_of_C {w : World} {A : Option Addr} {c : Nat} {xs : List (List Int)} (h : Kd.C (Kd.slice 5 (Kd.int .u8)) w A xs.length xs) (hl : xs.length ≤ c) (base : Nat) : Kd.V (Kd.slice 5 (Kd.int .u8)) 34 w base (fun _ => True) (.slice A xs.length c) xs :=
  Kd.V_mk hl (fun W' hW => Kd.Heap.C (Kd.heap_slice 5 (Kd.heap_int .u8)) (fun k hk => hW k trivial hk) h)
end Go.Proofs.Ytpkghpljgjlmjaa.K
