/- Walks and plain facts behind the laws of package matrix. No conditions. -/
import Derived.Test.YtpkghpljgjlmjaaB4
import Derived.Deep.RegionHeld3
import Derived.Deep.RegionWith
import Derived.StillTactics
-- Lines of this claim, written by the session's own program kprint.py (it runs print.py).
namespace Go.Proofs.Ytpkghpljgjlmjaa.K
open Go.RowKit Go.Proofs.YtpkghpljgjlmjaaW.PrintWords Go.Proofs.YtpkghpljgjlmjaaW.PrintLast Go.Proofs.YtpkghpljgjlmjaaW.PrintMore
attribute [local go_sem] max2_int min2_int max_two min_two max_three min_three max_four min_four   -- for this text's walks alone
set_option linter.unusedVariables false
set_option linter.unusedSimpArgs false
set_option maxHeartbeats 8000000 in
set_option maxRecDepth 100000 in
theorem kinkeeplaw04_few.calls (k : Nat) (A0 : Option Addr) (c0 : Nat) (l0 : List (List Int)) (a1 : Int) (r : Bool) (w : World) (hr0 : Kd.C (Kd.slice 5 (Kd.int .u8)) w A0 l0.length l0) (hc0 : l0.length ≤ c0) (h : kinkeeplaw04_few.f k l0 a1 = some r) :
    Calls Try.prog 15 #[.slice A0 l0.length c0, .int .i64 a1] w fun e w' => e = .returned (.bool r) ∧ Drawn0 w w' := by
  have HR0 := Aside0.mk hr0
  have HC0 := Aside0.mk hc0
  clear hr0 hc0
  have H : (kinkeeplaw04_few.l0 k l0 a1 0) = some r := h
  clear h
  have H' := Aside0.mk H
  clear H
  go_enter Try.func15, Try.ntmps15
  go_wp2
  go_loopg [5] k (fun kq v5 w' => ∃ (x5_1 : Int), v5 = .int .i64 x5_1 ∧ Aside0 (kinkeeplaw04_few.l0 kq l0 a1 x5_1 = some r) ∧ Aside0 (kq ≤ k) ∧ Drawn0 w w')
  case atStart => exact ⟨(0), (by first | rfl | (simp; done) | (simp [*]; done)), H', ⟨Nat.le_refl _⟩, by repeat (first | exact Drawn0.refl _ | apply Drawn0.step)⟩
  case round =>
    clear H'
    try clear c1
    try clear p2
    obtain ⟨x5_1, rfl, HA, HK1, ⟨m1, rfl⟩⟩ := hrel
    cases gk with
    | zero => exact absurd HA.out (by simp [kinkeeplaw04_few.l0])
    | succ k1 =>
      have H := HA.out
      clear HA
      simp only [kinkeeplaw04_few.l0] at H
      by_cases c3 : x5_1 < (l0.length : Int)
      · rw [if_pos c3] at H
        have c3b0 : decide (x5_1 < (l0.length : Int)) = true := decide_eq_true c3
        clear c3
        by_cases c4 : 0 ≤ x5_1
        · rw [if_pos c4] at H
          have c4b0 : decide (0 ≤ x5_1) = true := decide_eq_true c4
          clear c4
          by_cases c5 : ((rd_L1 l0 x5_1).length : Int) > a1
          · rw [if_pos c5] at H
            have c5b0 : decide (a1 < ((rd_L1 l0 x5_1).length : Int)) = true := decide_eq_true c5
            clear c5
            obtain rfl := Option.some.inj H
            have p212 : 0 ≤ (x5_1 : Int) := of_decide_eq_true (by first | (with_reducible assumption) | assumption)
            have q212 : x5_1 < (l0.length : Int) := of_decide_eq_true (by first | (with_reducible assumption) | assumption)
            obtain ⟨ad212, A212_0, c212_0, e212, hx212_0, hl212_0, hi212_0⟩ := at_L1 HR0.out x5_1 p212 q212
            cases e212
            have HR212_0 := Aside0.mk hi212_0
            have HC212_0 := Aside0.mk hl212_0
            clear hi212_0 hl212_0
            replace p212 := eq_true p212
            replace q212 := eq_true q212
            go_wp2
            go_ret
            exact ⟨by first | rfl | (simp; done) | (simp [*]; done), by repeat (first | exact Drawn0.refl _ | apply Drawn0.step)⟩
          · rw [if_neg c5] at H
            have c5b0 : decide (a1 < ((rd_L1 l0 x5_1).length : Int)) = false := decide_eq_false c5
            clear c5
            have H' := Aside0.mk H
            clear H
            have p212 : 0 ≤ (x5_1 : Int) := of_decide_eq_true (by first | (with_reducible assumption) | assumption)
            have q212 : x5_1 < (l0.length : Int) := of_decide_eq_true (by first | (with_reducible assumption) | assumption)
            obtain ⟨ad212, A212_0, c212_0, e212, hx212_0, hl212_0, hi212_0⟩ := at_L1 HR0.out x5_1 p212 q212
            cases e212
            have HR212_0 := Aside0.mk hi212_0
            have HC212_0 := Aside0.mk hl212_0
            clear hi212_0 hl212_0
            replace p212 := eq_true p212
            replace q212 := eq_true q212
            go_wp2
            go_roundg k1
            case measure => have := HK1.out; omega
            case rel => exact ⟨(wrap64 (x5_1 + 1)), (by first | rfl | (simp; done) | (simp [*]; done)), H', ⟨by have := HK1.out; omega⟩, by repeat (first | exact Drawn0.refl _ | apply Drawn0.step)⟩
        · rw [if_neg c4] at H
          exact absurd H (by simp)
      · rw [if_neg c3] at H
        have c3b0 : decide (x5_1 < (l0.length : Int)) = false := decide_eq_false c3
        clear c3
        obtain rfl := Option.some.inj H
        go_wp2
        go_ret
        exact ⟨by first | rfl | (simp; done) | (simp [*]; done), by repeat (first | exact Drawn0.refl _ | apply Drawn0.step)⟩
end Go.Proofs.Ytpkghpljgjlmjaa.K
/- The field of 256 elements on bytes: the product bit by bit, its laws, inverses. No program in sight. -/
namespace Kin
theorem bx_zero (a : B) : a ^^^ 0 = a := UInt8.xor_zero
theorem bx_cancel_right (a b : B) : a ^^^ b ^^^ b = a := by rw [bx_assoc, bx_self, bx_zero]
theorem bx_eq_zero {a b : B} : a ^^^ b = 0 ↔ a = b := by
  constructor
  · intro h
    have : a ^^^ b ^^^ b = 0 ^^^ b := by rw [h]
    rwa [bx_cancel_right, zero_bx] at this
  · rintro rfl
    exact bx_self a
theorem gmul_left_comm (a b c : B) : gmul a (gmul b c) = gmul b (gmul a c) := by rw [← gmul_assoc, gmul_comm a b, gmul_assoc]
theorem gmul_eq_zero {a b : B} : gmul a b = 0 ↔ a = 0 ∨ b = 0 := by
  constructor
  · intro h
    by_cases ha : a = 0
    · exact .inl ha
    · right
      have : gmul (ginv a) (gmul a b) = gmul (ginv a) 0 := by rw [h]
      rwa [← gmul_assoc, ginv_gmul a ha, one_gmul, gmul_zero] at this
  · rintro (rfl | rfl)
    · exact zero_gmul b
    · exact gmul_zero a
theorem gmul_ne_zero {a b : B} (ha : a ≠ 0) (hb : b ≠ 0) : gmul a b ≠ 0 := fun h => (gmul_eq_zero.1 h).elim ha hb
end Kin
/- matrix.Apply: the walk. -/
namespace Go.Proofs.Ytpkghpljgjlmjaa.K
open Go.RowKit Go.Proofs.YtpkghpljgjlmjaaW.PrintWords Go.Proofs.YtpkghpljgjlmjaaW.PrintLast Go.Proofs.YtpkghpljgjlmjaaW.PrintMore Kin
set_option linter.unusedVariables false
theorem apply_up (M Bs : List (List B)) (hv : validB M = true) (hl : Bs.length = colsN M) (hb : ∀ b ∈ Bs, b.length = colsN Bs) (hlim : colsN Bs ≤ 140737488351232) :
    matrix_Apply.f (up2 M) (up2 Bs) = some (up2 (applyM (colsN Bs) M Bs), 0) := by
  have h1 : (up2 Bs).any (fun x => !decide (x.length = colsN (up2 Bs))) = false := by
    rw [List.any_eq_false]
    intro x hx
    obtain ⟨y, hy, rfl⟩ := List.mem_map.1 hx
    simp [up_length, colsN_up2, hb y hy]
  have h2 : ∀ m : List (List B), (up2 m).all (fun x => x.all isB) = true := by
    intro m
    rw [List.all_eq_true]
    intro x hx
    obtain ⟨y, hy, rfl⟩ := List.mem_map.1 hx
    simp [up, isB_b2i]
  unfold matrix_Apply.f
  rw [if_pos (by rw [validB_up2, hv, up2_length, colsN_up2, hl]; simp), h1, if_neg (by simp), if_pos (by rw [h2, h2, colsN_up2]; simp [hlim]), toB2_up2, toB2_up2]
end Go.Proofs.Ytpkghpljgjlmjaa.K
/- Reduce and Rank of package matrix: walks. -/
namespace Go.Proofs.Ytpkghpljgjlmjaa.K
open Go.RowKit Go.Proofs.YtpkghpljgjlmjaaW.PrintWords Go.Proofs.YtpkghpljgjlmjaaW.PrintLast Go.Proofs.YtpkghpljgjlmjaaW.PrintMore Kin
set_option linter.unusedVariables false
set_option linter.unusedSimpArgs false
theorem bytes2_up2 (M : List (List B)) : bytes2 (up2 M) = true := by
  simp only [bytes2, up2, List.all_map, List.all_eq_true]
  intro x _
  show (up x).all isB = true
  rw [List.all_eq_true]
  intro y hy
  obtain ⟨z, _, rfl⟩ := List.mem_map.1 hy
  exact isB_b2i z
end Go.Proofs.Ytpkghpljgjlmjaa.K
-- Lines of this claim, written by the session's own program kprint.py (it runs print.py).
namespace Go.Proofs.Ytpkghpljgjlmjaa.K
open Go.RowKit Go.Proofs.YtpkghpljgjlmjaaW.PrintWords Go.Proofs.YtpkghpljgjlmjaaW.PrintLast Go.Proofs.YtpkghpljgjlmjaaW.PrintMore
attribute [local go_sem] max2_int min2_int max_two min_two max_three min_three max_four min_four   -- for this text's walks alone
set_option linter.unusedVariables false
set_option linter.unusedSimpArgs false
set_option maxHeartbeats 8000000 in
set_option maxRecDepth 100000 in
theorem kinkeepref04_Mul.calls (k : Nat) (a0 : Int) (a1 : Int) (r : Int) (w : World) (h : kinkeepref04_Mul.f k a0 a1 = some r) :
    Calls Try.prog 35 #[.int .u8 a0, .int .u8 a1] w fun e w' => e = .returned (.int .u8 r) ∧ Drawn0 w w' := by
  have H : (kinkeepref04_Mul.l0 k a1 (wrap64 (a0)) 0 0) = some r := h
  clear h
  have H' := Aside0.mk H
  clear H
  go_enter Try.func35, Try.ntmps35
  go_wp2
  go_loopg [5, 6, 7] k (fun kq v5 v6 v7 w' => ∃ (x5_1 : Int) (x6_1 : Int) (x7_1 : Int), v5 = .int .i64 x5_1 ∧ v6 = .int .i64 x6_1 ∧ v7 = .int .i64 x7_1 ∧ Aside0 (kinkeepref04_Mul.l0 kq a1 x5_1 x6_1 x7_1 = some r) ∧ Aside0 (kq ≤ k) ∧ Drawn0 w w')
  case atStart => exact ⟨(wrap64 (a0)), (0), (0), (by first | rfl | (simp; done) | (simp [*]; done)), (by first | rfl | (simp; done) | (simp [*]; done)), (by first | rfl | (simp; done) | (simp [*]; done)), H', ⟨Nat.le_refl _⟩, by repeat (first | exact Drawn0.refl _ | apply Drawn0.step)⟩
  case round =>
    clear H'
    try clear p2
    obtain ⟨x5_1, x6_1, x7_1, rfl, rfl, rfl, HA, HK1, ⟨m1, rfl⟩⟩ := hrel
    cases gk with
    | zero => exact absurd HA.out (by simp [kinkeepref04_Mul.l0])
    | succ k1 =>
      have H := HA.out
      clear HA
      simp only [kinkeepref04_Mul.l0] at H
      by_cases c3 : x7_1 < 8
      · rw [if_pos c3] at H
        have c3b0 : decide (x7_1 < 8) = true := decide_eq_true c3
        clear c3
        by_cases c4 : 0 ≤ x7_1
        · rw [if_pos c4] at H
          have c4b0 := eq_true c4
          have c4b1 : decide (0 ≤ x7_1) = true := decide_eq_true c4
          clear c4
          obtain ⟨ji5, hji5⟩ : ∃ j_ : Int, (shr .u8 a1 x7_1) = j_ := ⟨_, rfl⟩
          replace H : (if (Go.bits .and .u8 (ji5) 1) = 1 then (if (wrap64 (x5_1 * 2)) > 255 then (kinkeepref04_Mul.l0 k1 a1 (Go.bits .xor .i64 (wrap64 (x5_1 * 2)) 285) (Go.bits .xor .i64 x6_1 x5_1) (wrap64 (x7_1 + 1))) else (kinkeepref04_Mul.l0 k1 a1 (wrap64 (x5_1 * 2)) (Go.bits .xor .i64 x6_1 x5_1) (wrap64 (x7_1 + 1)))) else (if (wrap64 (x5_1 * 2)) > 255 then (kinkeepref04_Mul.l0 k1 a1 (Go.bits .xor .i64 (wrap64 (x5_1 * 2)) 285) x6_1 (wrap64 (x7_1 + 1))) else (kinkeepref04_Mul.l0 k1 a1 (wrap64 (x5_1 * 2)) x6_1 (wrap64 (x7_1 + 1))))) = some r := by first | (rw [hji5] at H; exact H) | (simp only [hji5] at H ⊢; exact H)
          have hji5_ : (a1 / 2 ^ min x7_1.toNat 8) = ji5 := hji5
          have hji5z : x7_1 ≤ 8 → (a1 / 2 ^ x7_1.toNat) = ji5 := shr_small hji5
          by_cases c6 : (Go.bits .and .u8 (ji5) 1) = 1
          · rw [if_pos c6] at H
            have c6b0 : ((Go.bits .and .u8 (ji5) 1) == 1) = true := beq_iff_eq.mpr c6
            have c6b1 : ((Go.bits .and .u8 (ji5) 1) != 1) = false := bne_eq_false_iff_eq.mpr c6
            clear c6
            by_cases c7 : (wrap64 (x5_1 * 2)) > 255
            · rw [if_pos c7] at H
              have c7b0 : decide (255 < (wrap64 (x5_1 * 2))) = true := decide_eq_true c7
              clear c7
              have H' := Aside0.mk H
              clear H
              go_wp2
              go_roundg k1
              case measure => have := HK1.out; omega
              case rel => exact ⟨(Go.bits .xor .i64 (wrap64 (x5_1 * 2)) 285), (Go.bits .xor .i64 x6_1 x5_1), (wrap64 (x7_1 + 1)), (by first | rfl | (simp; done) | (simp [*]; done)), (by first | rfl | (simp; done) | (simp [*]; done)), (by first | rfl | (simp; done) | (simp [*]; done)), H', ⟨by have := HK1.out; omega⟩, by repeat (first | exact Drawn0.refl _ | apply Drawn0.step)⟩
            · rw [if_neg c7] at H
              have c7b0 : decide (255 < (wrap64 (x5_1 * 2))) = false := decide_eq_false c7
              clear c7
              have H' := Aside0.mk H
              clear H
              go_wp2
              go_roundg k1
              case measure => have := HK1.out; omega
              case rel => exact ⟨(wrap64 (x5_1 * 2)), (Go.bits .xor .i64 x6_1 x5_1), (wrap64 (x7_1 + 1)), (by first | rfl | (simp; done) | (simp [*]; done)), (by first | rfl | (simp; done) | (simp [*]; done)), (by first | rfl | (simp; done) | (simp [*]; done)), H', ⟨by have := HK1.out; omega⟩, by repeat (first | exact Drawn0.refl _ | apply Drawn0.step)⟩
          · rw [if_neg c6] at H
            have c6b0 : ((Go.bits .and .u8 (ji5) 1) == 1) = false := beq_eq_false_iff_ne.mpr c6
            have c6b1 : ((Go.bits .and .u8 (ji5) 1) != 1) = true := bne_iff_ne.mpr c6
            by_cases c8 : (wrap64 (x5_1 * 2)) > 255
            · rw [if_pos c8] at H
              have c8b0 : decide (255 < (wrap64 (x5_1 * 2))) = true := decide_eq_true c8
              clear c8
              have H' := Aside0.mk H
              clear H
              go_wp2
              go_roundg k1
              case measure => have := HK1.out; omega
              case rel => exact ⟨(Go.bits .xor .i64 (wrap64 (x5_1 * 2)) 285), (x6_1), (wrap64 (x7_1 + 1)), (by first | rfl | (simp; done) | (simp [*]; done)), (by first | rfl | (simp; done) | (simp [*]; done)), (by first | rfl | (simp; done) | (simp [*]; done)), H', ⟨by have := HK1.out; omega⟩, by repeat (first | exact Drawn0.refl _ | apply Drawn0.step)⟩
            · rw [if_neg c8] at H
              have c8b0 : decide (255 < (wrap64 (x5_1 * 2))) = false := decide_eq_false c8
              clear c8
              have H' := Aside0.mk H
              clear H
              go_wp2
              go_roundg k1
              case measure => have := HK1.out; omega
              case rel => exact ⟨(wrap64 (x5_1 * 2)), (x6_1), (wrap64 (x7_1 + 1)), (by first | rfl | (simp; done) | (simp [*]; done)), (by first | rfl | (simp; done) | (simp [*]; done)), (by first | rfl | (simp; done) | (simp [*]; done)), H', ⟨by have := HK1.out; omega⟩, by repeat (first | exact Drawn0.refl _ | apply Drawn0.step)⟩
        · rw [if_neg c4] at H
          exact absurd H (by simp)
      · rw [if_neg c3] at H
        have c3b0 : decide (x7_1 < 8) = false := decide_eq_false c3
        clear c3
        obtain rfl := Option.some.inj H
        go_wp2
        go_ret
        exact ⟨by first | rfl | (simp; done) | (simp [*]; done), by repeat (first | exact Drawn0.refl _ | apply Drawn0.step)⟩
set_option maxHeartbeats 8000000 in
set_option maxRecDepth 100000 in
theorem kinkeepref04_Cols.calls (A0 : Option Addr) (c0 : Nat) (l0 : List (List Int)) (r : Int) (w : World) (hr0 : Kd.C (Kd.slice 5 (Kd.int .u8)) w A0 l0.length l0) (hc0 : l0.length ≤ c0) (h : kinkeepref04_Cols.f l0 = some r) :
    Calls Try.prog 21 #[.slice A0 l0.length c0] w fun e w' => e = .returned (.int .i64 r) ∧ Drawn0 w w' := by
  have HR0 := Aside0.mk hr0
  have HC0 := Aside0.mk hc0
  clear hr0 hc0
  have H : (if (l0.length : Int) = 0 then (some 0) else (if 0 < (l0.length : Int) then (some ((rd_L1 l0 0).length : Int)) else (none))) = some r := h
  clear h
  by_cases c2 : (l0.length : Int) = 0
  · rw [if_pos c2] at H
    have c2b0 : ((l0.length : Int) == 0) = true := beq_iff_eq.mpr c2
    have c2b1 : ((l0.length : Int) != 0) = false := bne_eq_false_iff_eq.mpr c2
    clear c2
    obtain rfl := Option.some.inj H
    go_enter Try.func21, Try.ntmps21
    go_wp2
    go_ret
    exact ⟨by first | rfl | (simp; done) | (simp [*]; done), by repeat (first | exact Drawn0.refl _ | apply Drawn0.step)⟩
  · rw [if_neg c2] at H
    have c2b0 : ((l0.length : Int) == 0) = false := beq_eq_false_iff_ne.mpr c2
    have c2b1 : ((l0.length : Int) != 0) = true := bne_iff_ne.mpr c2
    have c2b2 : ¬ (l0 = []) := fun h_ => c2 (by rw [h_]; rfl)
    by_cases c3 : 0 < (l0.length : Int)
    · rw [if_pos c3] at H
      have c3b0 : decide (0 < (l0.length : Int)) = true := decide_eq_true c3
      have c3b1 : decide (0 < l0.length) = true := decide_eq_true (by omega)
      clear c3
      obtain rfl := Option.some.inj H
      have p131 : 0 ≤ (0 : Int) := (by omega)
      have q131 : 0 < (l0.length : Int) := of_decide_eq_true (by first | (with_reducible assumption) | assumption)
      obtain ⟨ad131, A131_0, c131_0, e131, hx131_0, hl131_0, hi131_0⟩ := at_L1 HR0.out 0 p131 q131
      cases e131
      have qi131 : (0 < l0.length) = True := eq_true (by omega)
      (try rw [show ((0 : Int)).toNat = 0 from rfl] at hx131_0)
      (try rw [Addr.add_zero'] at hx131_0)
      have HR131_0 := Aside0.mk hi131_0
      have HC131_0 := Aside0.mk hl131_0
      clear hi131_0 hl131_0
      replace p131 := eq_true p131
      replace q131 := eq_true q131
      go_enter Try.func21, Try.ntmps21
      go_wp2
      go_ret
      exact ⟨by first | rfl | (simp; done) | (simp [*]; done), by repeat (first | exact Drawn0.refl _ | apply Drawn0.step)⟩
    · rw [if_neg c3] at H
      exact absurd H (by simp)
end Go.Proofs.Ytpkghpljgjlmjaa.K
-- Lines of this claim, written by the session's own program kprint.py (it runs print.py).
namespace Go.Proofs.Ytpkghpljgjlmjaa.K
open Go.RowKit Go.Proofs.YtpkghpljgjlmjaaW.PrintWords Go.Proofs.YtpkghpljgjlmjaaW.PrintLast Go.Proofs.YtpkghpljgjlmjaaW.PrintMore
attribute [local go_sem] max2_int min2_int max_two min_two max_three min_three max_four min_four   -- for this text's walks alone
set_option linter.unusedVariables false
set_option linter.unusedSimpArgs false

/-! ### matrix_square: function 67 -/
def matrix_square.f (l0 : List (List Int)) : Option (Bool) := (matrix_Valid.f l0).bind fun t101 => (if t101 = true then ((matrix_columns.f l0).bind fun t102 => (some (t102 == (l0.length : Int)))) else (some false))
set_option maxHeartbeats 8000000 in
set_option maxRecDepth 100000 in
theorem matrix_square.calls (A0 : Option Addr) (c0 : Nat) (l0 : List (List Int)) (r : Bool) (w : World) (hr0 : Kd.C (Kd.slice 5 (Kd.int .u8)) w A0 l0.length l0) (hc0 : l0.length ≤ c0) (h : matrix_square.f l0 = some r) :
    Calls Try.prog 67 #[.slice A0 l0.length c0] w fun e w' => e = .returned (.bool r) ∧ Below w.heap.size w w' := by
  have HR0 := Aside0.mk hr0
  have HC0 := Aside0.mk hc0
  clear hr0 hc0
  have HB := Aside0.mk (Below.refl w.heap.size w)
  have H : ((matrix_Valid.f l0).bind fun t101 => (if t101 = true then ((matrix_columns.f l0).bind fun t102 => (some (t102 == (l0.length : Int)))) else (some false))) = some r := h
  clear h
  replace H := Option.bind_eq_some_iff.mp H
  obtain ⟨t101, A20, H⟩ := H
  replace H : (if t101 = true then ((matrix_columns.f l0).bind fun t102 => (some (t102 == (l0.length : Int)))) else (some false)) = some r := H
  have A2 := Aside0.mk A20
  clear A20
  by_cases c3 : t101 = true
  · subst c3
    have H1 : ((matrix_columns.f l0).bind fun t102 => (some (t102 == (l0.length : Int)))) = some r := by rw [if_pos rfl] at H; exact H
    clear H
    have H := H1
    clear H1
    replace H := Option.bind_eq_some_iff.mp H
    obtain ⟨t102, A40, H⟩ := H
    replace H : (some (t102 == (l0.length : Int))) = some r := H
    have A4 := Aside0.mk A40
    clear A40
    obtain rfl := Option.some.inj H
    go_enter Try.func67, Try.ntmps67
    go_wp2_with (first | ((with_reducible refine gate_callee (f := 17) rfl ?_); refine goesL_ (some 4) rfl rfl Try.func17 (by kernel_rfl) rfl #[.slice A0 l0.length c0] rfl (by (try simp only [List.map_toArray, List.map_cons, List.map_nil]); first | done | rfl | (simp only [List.length_drop, List.length_take]; rfl)) ?_; (with_reducible refine (matrix_Valid.calls _ _ l0 true _ ?side1 ?side2 A2.out).mono ?_); (case side1 => repeat (first | exact HR0.out | (with_reducible refine Kd.C_alloc ?_ _) | (with_reducible refine Kd.C_drewN ?_ _) | (with_reducible refine Kd.C_drew ?_))); (case side2 => exact HC0.out); rintro e w5 ⟨rfl, hb⟩; refine ⟨_, rfl, ?_⟩; have n0_ := Aside0.mk (below_step (by repeat (first | (with_reducible first | exact HB.out | apply below_alloc | apply pw_below_drewN | apply below_drew1) | exact HB.out)) hb); clear HB; have HB := n0_; clear n0_; (try clear hb); (try clear hb2); (try clear hk); (try clear hi)) | (go_at_call 56; (with_reducible refine (matrix_columns.calls _ _ l0 t102 _ ?side1 ?side2 A4.out).mono ?_); (case side1 => repeat (first | exact (Kd.C_below HR0.out HB.out) | (with_reducible refine Kd.C_alloc ?_ _) | (with_reducible refine Kd.C_drewN ?_ _) | (with_reducible refine Kd.C_drew ?_))); (case side2 => exact HC0.out); rintro e w' ⟨rfl, ⟨nd, rfl⟩⟩))
    go_ret
    exact ⟨by first | rfl | (simp [errW_none, errW_some] <;> rfl) | (simp [*, errW_none, errW_some] <;> rfl), by repeat (first | (with_reducible first | exact HB.out | apply below_alloc | apply pw_below_drewN | apply below_drew1) | exact HB.out)⟩
  · replace c3 := Bool.eq_false_iff.mpr c3
    subst c3
    have H1 : (some false) = some r := by rw [if_neg (show ¬ (false = true) by decide)] at H; exact H
    clear H
    have H := H1
    clear H1
    obtain rfl := Option.some.inj H
    go_enter Try.func67, Try.ntmps67
    go_wp2_with (first | ((with_reducible refine gate_callee (f := 17) rfl ?_); refine goesL_ (some 4) rfl rfl Try.func17 (by kernel_rfl) rfl #[.slice A0 l0.length c0] rfl (by (try simp only [List.map_toArray, List.map_cons, List.map_nil]); first | done | rfl | (simp only [List.length_drop, List.length_take]; rfl)) ?_; (with_reducible refine (matrix_Valid.calls _ _ l0 false _ ?side1 ?side2 A2.out).mono ?_); (case side1 => repeat (first | exact HR0.out | (with_reducible refine Kd.C_alloc ?_ _) | (with_reducible refine Kd.C_drewN ?_ _) | (with_reducible refine Kd.C_drew ?_))); (case side2 => exact HC0.out); rintro e w6 ⟨rfl, hb⟩; refine ⟨_, rfl, ?_⟩; have n0_ := Aside0.mk (below_step (by repeat (first | (with_reducible first | exact HB.out | apply below_alloc | apply pw_below_drewN | apply below_drew1) | exact HB.out)) hb); clear HB; have HB := n0_; clear n0_; (try clear hb); (try clear hb2); (try clear hk); (try clear hi)))
    go_ret
    exact ⟨by first | rfl | (simp [errW_none, errW_some] <;> rfl) | (simp [*, errW_none, errW_some] <;> rfl), by repeat (first | (with_reducible first | exact HB.out | apply below_alloc | apply pw_below_drewN | apply below_drew1) | exact HB.out)⟩
/-! ### matrix_Mul: function 31 -/
def matrix_Mul.j0 : Nat → List (List Int) → List (List Int) → Bool → Option ((List (List Int)) × Int)
  | 0, _, _, _ => none
  | k + 1, x0, x1, x20 => if x20 = true then (some (([] : List (List Int)), 1)) else (if (x1.length : Int) = 0 then ((matrix_zero.f k (x0.length : Int) 0).bind fun t106 => (some (t106, 0))) else ((matrix_Apply.f x0 x1).bind fun bt109 => (some (bt109.1, bt109.2))))
def matrix_Mul.f (k : Nat) (l0 : List (List Int)) (l1 : List (List Int)) : Option ((List (List Int)) × Int) := (matrix_Valid.f l0).bind fun t103 => (if t103 = true then ((matrix_Valid.f l1).bind fun t104 => (if t104 = true then ((matrix_columns.f l0).bind fun t105 => (matrix_Mul.j0 k l0 l1 (t105 != (l1.length : Int)))) else (matrix_Mul.j0 k l0 l1 true))) else (matrix_Mul.j0 k l0 l1 true))
set_option maxHeartbeats 8000000 in
set_option maxRecDepth 100000 in
theorem matrix_Mul.calls (k : Nat) (A0 : Option Addr) (c0 : Nat) (l0 : List (List Int)) (A1 : Option Addr) (c1 : Nat) (l1 : List (List Int)) (r1 : List (List Int)) (r2 : Int) (w : World) (hr0 : Kd.C (Kd.slice 5 (Kd.int .u8)) w A0 l0.length l0) (hc0 : l0.length ≤ c0) (hr1 : Kd.C (Kd.slice 5 (Kd.int .u8)) w A1 l1.length l1) (hc1 : l1.length ≤ c1) (h : matrix_Mul.f k l0 l1 = some (r1, r2)) :
    Calls Try.prog 31 #[.slice A0 l0.length c0, .slice A1 l1.length c1] w fun e w' => ∃ v0_ : Value, e = .returned (.tuple #[v0_, .int .i64 r2]) ∧ Kd.S (Kd.slice 5 (Kd.int .u8)) 34 w' w.heap.size (fun _ => True) v0_ r1 ∧ Below w.heap.size w w' := by
  have HR0 := Aside0.mk hr0
  have HC0 := Aside0.mk hc0
  clear hr0 hc0
  have HR1 := Aside0.mk hr1
  have HC1 := Aside0.mk hc1
  clear hr1 hc1
  have HB := Aside0.mk (Below.refl w.heap.size w)
  have H : ((matrix_Valid.f l0).bind fun t103 => (if t103 = true then ((matrix_Valid.f l1).bind fun t104 => (if t104 = true then ((matrix_columns.f l0).bind fun t105 => (matrix_Mul.j0 k l0 l1 (t105 != (l1.length : Int)))) else (matrix_Mul.j0 k l0 l1 true))) else (matrix_Mul.j0 k l0 l1 true))) = some (r1, r2) := h
  clear h
  have HC3 := Aside0.mk H
  clear H
  go_enter Try.func31, Try.ntmps31
  go_upto_region 1 with (fail)
  go_cut [20] (fun v20 wc => ∃ (kq : Nat) (x20_2 : Bool), v20 = .bool x20_2 ∧ Aside0 (matrix_Mul.j0 kq l0 l1 x20_2 = some (r1, r2)) ∧ Aside0 (kq ≤ k) ∧ Aside0 (Below w.heap.size w wc))
  case first =>
    have H := HC3.out
    clear HC3
    replace H := Option.bind_eq_some_iff.mp H
    obtain ⟨t103, A40, H⟩ := H
    replace H : (if t103 = true then ((matrix_Valid.f l1).bind fun t104 => (if t104 = true then ((matrix_columns.f l0).bind fun t105 => (matrix_Mul.j0 k l0 l1 (t105 != (l1.length : Int)))) else (matrix_Mul.j0 k l0 l1 true))) else (matrix_Mul.j0 k l0 l1 true)) = some (r1, r2) := H
    have A4 := Aside0.mk A40
    clear A40
    by_cases c5 : t103 = true
    · subst c5
      have H1 : ((matrix_Valid.f l1).bind fun t104 => (if t104 = true then ((matrix_columns.f l0).bind fun t105 => (matrix_Mul.j0 k l0 l1 (t105 != (l1.length : Int)))) else (matrix_Mul.j0 k l0 l1 true))) = some (r1, r2) := by rw [if_pos rfl] at H; exact H
      clear H
      have H := H1
      clear H1
      replace H := Option.bind_eq_some_iff.mp H
      obtain ⟨t104, A60, H⟩ := H
      replace H : (if t104 = true then ((matrix_columns.f l0).bind fun t105 => (matrix_Mul.j0 k l0 l1 (t105 != (l1.length : Int)))) else (matrix_Mul.j0 k l0 l1 true)) = some (r1, r2) := H
      have A6 := Aside0.mk A60
      clear A60
      by_cases c7 : t104 = true
      · subst c7
        have H1 : ((matrix_columns.f l0).bind fun t105 => (matrix_Mul.j0 k l0 l1 (t105 != (l1.length : Int)))) = some (r1, r2) := by rw [if_pos rfl] at H; exact H
        clear H
        have H := H1
        clear H1
        replace H := Option.bind_eq_some_iff.mp H
        obtain ⟨t105, A80, H⟩ := H
        replace H : (matrix_Mul.j0 k l0 l1 (t105 != (l1.length : Int))) = some (r1, r2) := H
        have A8 := Aside0.mk A80
        clear A80
        have H' := Aside0.mk H
        clear H
        go_wp2_with (first | ((with_reducible refine gate_callee (f := 17) rfl ?_); refine goesL_ (some 7) rfl rfl Try.func17 (by kernel_rfl) rfl #[.slice A0 l0.length c0] rfl (by (try simp only [List.map_toArray, List.map_cons, List.map_nil]); first | done | rfl | (simp only [List.length_drop, List.length_take]; rfl)) ?_; (with_reducible refine (matrix_Valid.calls _ _ l0 true _ ?side1 ?side2 A4.out).mono ?_); (case side1 => repeat (first | exact (Kd.C_below HR0.out HB.out) | (with_reducible refine Kd.C_alloc ?_ _) | (with_reducible refine Kd.C_drewN ?_ _) | (with_reducible refine Kd.C_drew ?_))); (case side2 => exact HC0.out); rintro e w9 ⟨rfl, hb⟩; refine ⟨_, rfl, ?_⟩; have n0_ := Aside0.mk (below_step (by repeat (first | (with_reducible first | exact HB.out | apply below_alloc | apply pw_below_drewN | apply below_drew1) | exact HB.out)) hb); clear HB; have HB := n0_; clear n0_; (try clear hb); (try clear hb2); (try clear hk); (try clear hi)) | (go_at_call 17; (with_reducible refine (matrix_Valid.calls _ _ l1 true _ ?side1 ?side2 A6.out).mono ?_); (case side1 => repeat (first | exact (Kd.C_below HR1.out HB.out) | (with_reducible refine Kd.C_alloc ?_ _) | (with_reducible refine Kd.C_drewN ?_ _) | (with_reducible refine Kd.C_drew ?_))); (case side2 => exact HC1.out); rintro e w10 ⟨rfl, hb⟩; have n0_ := Aside0.mk (below_step (by repeat (first | (with_reducible first | exact HB.out | apply below_alloc | apply pw_below_drewN | apply below_drew1) | exact HB.out)) hb); clear HB; have HB := n0_; clear n0_; (try clear hb); (try clear hb2); (try clear hk); (try clear hi)) | (go_at_call 56; (with_reducible refine (matrix_columns.calls _ _ l0 t105 _ ?side1 ?side2 A8.out).mono ?_); (case side1 => repeat (first | exact (Kd.C_below HR0.out HB.out) | (with_reducible refine Kd.C_alloc ?_ _) | (with_reducible refine Kd.C_drewN ?_ _) | (with_reducible refine Kd.C_drew ?_))); (case side2 => exact HC0.out); rintro e w' ⟨rfl, ⟨nd, rfl⟩⟩))
        go_meet
        case rel => exact ⟨_, ((t105 != (l1.length : Int))), (by first | rfl | (simp; done) | (simp [*]; done)), H', ⟨by first | omega | exact Nat.le_refl _⟩, ⟨by repeat (first | (with_reducible first | exact HB.out | apply below_alloc | apply pw_below_drewN | apply below_drew1) | exact HB.out)⟩⟩
      · replace c7 := Bool.eq_false_iff.mpr c7
        subst c7
        have H1 : (matrix_Mul.j0 k l0 l1 true) = some (r1, r2) := by rw [if_neg (show ¬ (false = true) by decide)] at H; exact H
        clear H
        have H := H1
        clear H1
        have H' := Aside0.mk H
        clear H
        go_wp2_with (first | ((with_reducible refine gate_callee (f := 17) rfl ?_); refine goesL_ (some 7) rfl rfl Try.func17 (by kernel_rfl) rfl #[.slice A0 l0.length c0] rfl (by (try simp only [List.map_toArray, List.map_cons, List.map_nil]); first | done | rfl | (simp only [List.length_drop, List.length_take]; rfl)) ?_; (with_reducible refine (matrix_Valid.calls _ _ l0 true _ ?side1 ?side2 A4.out).mono ?_); (case side1 => repeat (first | exact (Kd.C_below HR0.out HB.out) | (with_reducible refine Kd.C_alloc ?_ _) | (with_reducible refine Kd.C_drewN ?_ _) | (with_reducible refine Kd.C_drew ?_))); (case side2 => exact HC0.out); rintro e w11 ⟨rfl, hb⟩; refine ⟨_, rfl, ?_⟩; have n0_ := Aside0.mk (below_step (by repeat (first | (with_reducible first | exact HB.out | apply below_alloc | apply pw_below_drewN | apply below_drew1) | exact HB.out)) hb); clear HB; have HB := n0_; clear n0_; (try clear hb); (try clear hb2); (try clear hk); (try clear hi)) | (go_at_call 17; (with_reducible refine (matrix_Valid.calls _ _ l1 false _ ?side1 ?side2 A6.out).mono ?_); (case side1 => repeat (first | exact (Kd.C_below HR1.out HB.out) | (with_reducible refine Kd.C_alloc ?_ _) | (with_reducible refine Kd.C_drewN ?_ _) | (with_reducible refine Kd.C_drew ?_))); (case side2 => exact HC1.out); rintro e w12 ⟨rfl, hb⟩; have n0_ := Aside0.mk (below_step (by repeat (first | (with_reducible first | exact HB.out | apply below_alloc | apply pw_below_drewN | apply below_drew1) | exact HB.out)) hb); clear HB; have HB := n0_; clear n0_; (try clear hb); (try clear hb2); (try clear hk); (try clear hi)))
        go_meet
        case rel => exact ⟨_, (true), (by first | rfl | (simp; done) | (simp [*]; done)), H', ⟨by first | omega | exact Nat.le_refl _⟩, ⟨by repeat (first | (with_reducible first | exact HB.out | apply below_alloc | apply pw_below_drewN | apply below_drew1) | exact HB.out)⟩⟩
    · replace c5 := Bool.eq_false_iff.mpr c5
      subst c5
      have H1 : (matrix_Mul.j0 k l0 l1 true) = some (r1, r2) := by rw [if_neg (show ¬ (false = true) by decide)] at H; exact H
      clear H
      have H := H1
      clear H1
      have H' := Aside0.mk H
      clear H
      go_wp2_with (first | ((with_reducible refine gate_callee (f := 17) rfl ?_); refine goesL_ (some 7) rfl rfl Try.func17 (by kernel_rfl) rfl #[.slice A0 l0.length c0] rfl (by (try simp only [List.map_toArray, List.map_cons, List.map_nil]); first | done | rfl | (simp only [List.length_drop, List.length_take]; rfl)) ?_; (with_reducible refine (matrix_Valid.calls _ _ l0 false _ ?side1 ?side2 A4.out).mono ?_); (case side1 => repeat (first | exact (Kd.C_below HR0.out HB.out) | (with_reducible refine Kd.C_alloc ?_ _) | (with_reducible refine Kd.C_drewN ?_ _) | (with_reducible refine Kd.C_drew ?_))); (case side2 => exact HC0.out); rintro e w13 ⟨rfl, hb⟩; refine ⟨_, rfl, ?_⟩; have n0_ := Aside0.mk (below_step (by repeat (first | (with_reducible first | exact HB.out | apply below_alloc | apply pw_below_drewN | apply below_drew1) | exact HB.out)) hb); clear HB; have HB := n0_; clear n0_; (try clear hb); (try clear hb2); (try clear hk); (try clear hi)))
      go_meet
      case rel => exact ⟨_, (true), (by first | rfl | (simp; done) | (simp [*]; done)), H', ⟨by first | omega | exact Nat.le_refl _⟩, ⟨by repeat (first | (with_reducible first | exact HB.out | apply below_alloc | apply pw_below_drewN | apply below_drew1) | exact HB.out)⟩⟩
  case rest =>
    clear HC3
    try clear c1
    try clear p2
    try clear c3
    try clear c5
    try clear c7
    obtain ⟨kq, x20_2, rfl, HA, HJ2, HB⟩ := hcut
    cases kq with
    | zero => exact absurd HA.out (by simp [matrix_Mul.j0])
    | succ kj2 =>
      have H := HA.out
      clear HA
      simp only [matrix_Mul.j0] at H
      by_cases c14 : x20_2 = true
      · subst c14
        have H1 : (some (([] : List (List Int)), 1)) = some (r1, r2) := by rw [if_pos rfl] at H; exact H
        clear H
        have H := H1
        clear H1
        simp only [Option.some.injEq, Prod.mk.injEq] at H
        obtain ⟨rfl, rfl⟩ := H
        go_wp2
        go_ret2
        exact ⟨_, by first | rfl | (simp [errW_none, errW_some] <;> rfl) | (simp [*, errW_none, errW_some] <;> rfl), by first | exact Kd.S_nil _ _ _ _ _ | exact Kd.N_nil _ _ _ _ _ | exact Kd.V_nil _ _ _ _ _ | exact Kd.Q_nil _ _ _ _ _ | exact Kd.R_nil _ _ _ _ _, by repeat (first | (with_reducible first | exact HB.out | apply below_alloc | apply pw_below_drewN | apply below_drew1) | exact HB.out)⟩
      · replace c14 := Bool.eq_false_iff.mpr c14
        subst c14
        have H1 : (if (l1.length : Int) = 0 then ((matrix_zero.f kj2 (l0.length : Int) 0).bind fun t106 => (some (t106, 0))) else ((matrix_Apply.f l0 l1).bind fun bt109 => (some (bt109.1, bt109.2)))) = some (r1, r2) := by rw [if_neg (show ¬ (false = true) by decide)] at H; exact H
        clear H
        have H := H1
        clear H1
        by_cases c15 : (l1.length : Int) = 0
        · rw [if_pos c15] at H
          have c15b0 : ((l1.length : Int) == 0) = true := beq_iff_eq.mpr c15
          have c15b1 : ((l1.length : Int) != 0) = false := bne_eq_false_iff_eq.mpr c15
          clear c15
          replace H := Option.bind_eq_some_iff.mp H
          obtain ⟨t106, A160, H⟩ := H
          replace H : (some (t106, 0)) = some (r1, r2) := H
          have A16 := Aside0.mk A160
          clear A160
          simp only [Option.some.injEq, Prod.mk.injEq] at H
          obtain ⟨rfl, rfl⟩ := H
          go_wp2_with (first | ((with_reducible refine gate_callee (f := 64) rfl ?_); refine goesL_ (some 26) rfl rfl Try.func64 (by kernel_rfl) rfl #[.int .i64 (l0.length : Int), .int .i64 0] rfl (by (try simp only [List.map_toArray, List.map_cons, List.map_nil]); first | done | rfl | (simp only [List.length_drop, List.length_take]; rfl)) ?_; (with_reducible refine (matrix_zero.calls kj2 (l0.length : Int) 0 t106 _ A16.out).mono ?_); rintro e w17 ⟨v107, rfl, ho0, hb⟩; refine ⟨_, rfl, ?_⟩; have n0_ := Aside0.mk (Kd.S_lower ho0 (below_size (by repeat (first | (with_reducible first | exact HB.out | apply below_alloc | apply pw_below_drewN | apply below_drew1) | exact HB.out)))); have n1_ := Aside0.mk (below_step (by repeat (first | (with_reducible first | exact HB.out | apply below_alloc | apply pw_below_drewN | apply below_drew1) | exact HB.out)) hb); clear HB; have HO108 := n0_; have HB := n1_; clear n0_ n1_; (try clear hb); (try clear hb2); (try clear hk); (try clear hi); (try clear ho0)))
          go_ret2
          exact ⟨_, by first | rfl | (simp [errW_none, errW_some] <;> rfl) | (simp [*, errW_none, errW_some] <;> rfl), by (with_reducible repeat (first | apply Kd.S_alloc | apply Kd.S_drewN | apply Kd.S_drew)); exact HO108.out, by repeat (first | (with_reducible first | exact HB.out | apply below_alloc | apply pw_below_drewN | apply below_drew1) | exact HB.out)⟩
        · rw [if_neg c15] at H
          have c15b0 : ((l1.length : Int) == 0) = false := beq_eq_false_iff_ne.mpr c15
          have c15b1 : ((l1.length : Int) != 0) = true := bne_iff_ne.mpr c15
          have c15b2 : ¬ (l1 = []) := fun h_ => c15 (by rw [h_]; rfl)
          replace H := Option.bind_eq_some_iff.mp H
          obtain ⟨⟨t109, t110⟩, A180, H⟩ := H
          replace H : (some (t109, t110)) = some (r1, r2) := H
          have A18 := Aside0.mk A180
          clear A180
          simp only [Option.some.injEq, Prod.mk.injEq] at H
          obtain ⟨rfl, rfl⟩ := H
          go_wp2_with (first | ((with_reducible refine gate_callee (f := 32) rfl ?_); refine goesL_ (some 29) rfl rfl Try.func32 (by kernel_rfl) rfl #[.slice A0 l0.length c0, .slice A1 l1.length c1] rfl (by (try simp only [List.map_toArray, List.map_cons, List.map_nil]); first | done | rfl | (simp only [List.length_drop, List.length_take]; rfl)) ?_; (with_reducible refine (matrix_Apply.calls _ _ l0 _ _ l1 t109 t110 _ ?side1 ?side2 ?side3 ?side4 A18.out).mono ?_); (case side1 => repeat (first | exact (Kd.C_below HR0.out HB.out) | (with_reducible refine Kd.C_alloc ?_ _) | (with_reducible refine Kd.C_drewN ?_ _) | (with_reducible refine Kd.C_drew ?_))); (case side2 => exact HC0.out); (case side3 => repeat (first | exact (Kd.C_below HR1.out HB.out) | (with_reducible refine Kd.C_alloc ?_ _) | (with_reducible refine Kd.C_drewN ?_ _) | (with_reducible refine Kd.C_drew ?_))); (case side4 => exact HC1.out); rintro e w19 ⟨v111, rfl, ho0, hb⟩; refine ⟨_, rfl, ?_⟩; have n0_ := Aside0.mk (Kd.S_lower ho0 (below_size (by repeat (first | (with_reducible first | exact HB.out | apply below_alloc | apply pw_below_drewN | apply below_drew1) | exact HB.out)))); have n1_ := Aside0.mk (below_step (by repeat (first | (with_reducible first | exact HB.out | apply below_alloc | apply pw_below_drewN | apply below_drew1) | exact HB.out)) hb); clear HB; have HO112 := n0_; have HB := n1_; clear n0_ n1_; (try clear hb); (try clear hb2); (try clear hk); (try clear hi); (try clear ho0)))
          go_ret2
          exact ⟨_, by first | rfl | (simp [errW_none, errW_some] <;> rfl) | (simp [*, errW_none, errW_some] <;> rfl), by (with_reducible repeat (first | apply Kd.S_alloc | apply Kd.S_drewN | apply Kd.S_drew)); exact HO112.out, by repeat (first | (with_reducible first | exact HB.out | apply below_alloc | apply pw_below_drewN | apply below_drew1) | exact HB.out)⟩
end Go.Proofs.Ytpkghpljgjlmjaa.K
/- Determinant of package matrix: the walk. -/
namespace Go.Proofs.Ytpkghpljgjlmjaa.K
open Go.RowKit Go.Proofs.YtpkghpljgjlmjaaW.PrintWords Go.Proofs.YtpkghpljgjlmjaaW.PrintLast Go.Proofs.YtpkghpljgjlmjaaW.PrintMore Kin
set_option linter.unusedVariables false
set_option linter.unusedSimpArgs false
def squareB {α : Type} (l : List (List α)) : Bool := validB l && decide (colsN l = l.length)
theorem square_eq (l : List (List Int)) : matrix_square.f l = some (squareB l) := by
  unfold matrix_square.f squareB
  rw [matrix_Valid.f, columns_eq]
  cases validB l <;> simp
  rw [Bool.eq_iff_iff]
  simp; omega
theorem squareB_up2 (M : List (List B)) : squareB (up2 M) = squareB M := by unfold squareB; rw [validB_up2, colsN_up2, up2_length]
theorem squareB_lim {α : Type} {M : List (List α)} (h : squareB M = true) : M.length ≤ 64 ∧ ∀ r ∈ M, r.length = M.length := by
  simp only [squareB, Bool.and_eq_true, decide_eq_true_eq] at h
  obtain ⟨h1, h2, h3⟩ := validB_lim h.1
  rw [h.2] at h3
  exact ⟨h1, h3⟩
/-- The determinant by elimination. -/
def detE (M : List (List B)) : B := if (elimRun M M.length).2.1.length < M.length then 0 else (elimRun M M.length).2.2
def matrix_Determinant.f (l0 : List (List Int)) : Option (Int × Int) :=
  if squareB l0 = true then (if bytes2 l0 = true then some (b2i (detE (toB2 l0)), 0) else none) else some (0, 1)
theorem determinant_up (M : List (List B)) (hv : squareB M = true) : matrix_Determinant.f (up2 M) = some (b2i (detE M), 0) := by
  unfold matrix_Determinant.f
  rw [if_pos (by rw [squareB_up2]; exact hv), if_pos (bytes2_up2 M), toB2_up2]
set_option maxRecDepth 100000 in
set_option maxHeartbeats 2000000 in
theorem determinant_good (A0 : Option Addr) (c0 : Nat) (M : List (List B)) (w : World) (hr0 : Kd.C (Kd.slice 5 (Kd.int .u8)) w A0 (up2 M).length (up2 M)) (hc0 : (up2 M).length ≤ c0) (hv : squareB M = true) :
    Calls Try.prog 34 #[.slice A0 (up2 M).length c0] w fun e w' => e = .returned (.tuple #[.int .u8 (b2i (detE M)), .int .i64 0]) ∧ Below w.heap.size w w' := by
  have HR0 := Aside0.mk hr0
  have HC0 := Aside0.mk hc0
  have HV := Aside0.mk (show matrix_square.f (up2 M) = some true by rw [square_eq, squareB_up2, hv])
  obtain ⟨l1, l3⟩ := squareB_lim hv
  have HM := Aside0.mk l3
  have HL1 := Aside0.mk (show M.length ≤ 1000 by omega)
  have HL2 := Aside0.mk l1
  have HL3 := Aside0.mk (fun h : M = [] => (show M.length = 0 by rw [h]; rfl))
  have HU := Aside0.mk (up2_length M)
  clear hr0 hc0 hv l1 l3
  have HD0 : Aside0 (detE M = if (elimRun M (up2 M).length).2.1.length < (up2 M).length then 0 else (elimRun M (up2 M).length).2.2) := ⟨by rw [HU.out]; rfl⟩
  by_cases hlt : (elimRun M (up2 M).length).2.1.length < (up2 M).length
  · have HD := Aside0.mk (show detE M = 0 by rw [HD0.out, if_pos hlt])
    go_enter Try.func34, Try.ntmps34
    go_wp2_with (first | (go_at_call 67; (with_reducible refine (matrix_square.calls _ _ (up2 M) _ _ HR0.out HC0.out HV.out).mono ?_); rintro e w1 ⟨rfl, hb⟩; have HB := Aside0.mk hb; clear hb) | (go_at_call 62; (with_reducible refine (eliminate_calls _ _ M (up2 M).length M.length _ (Kd.C_below HR0.out HB.out) HC0.out HM.out (Nat.le_of_eq HU.out) HL1.out HL2.out (fun h => HU.out.trans (HL3.out h))).mono ?_); rintro e w3 ⟨gx, rfl, hE, hB3⟩; obtain ⟨vr, vp, hg, hS, hP⟩ := hE.out; obtain ⟨A4, c4, rfl⟩ := Kd.S_slice hS; obtain ⟨A5, c5, rfl⟩ := Kd.R_slice hP; rw [show (natInts (elimRun M (up2 M).length).2.1).length = (elimRun M (up2 M).length).2.1.length from List.length_map _] at hg hP; have hx1 : w3.cell? ⟨gx, 1, none⟩ = some (.slice A5 (elimRun M (up2 M).length).2.1.length c5) := (by rw [blk_cell hg]; rfl); have hx2 : w3.cell? ⟨gx, 2, none⟩ = some (.int .u8 (b2i (elimRun M (up2 M).length).2.2)) := (by rw [blk_cell hg]; rfl); have HB3 := Aside0.mk hB3; clear hE hg hS hP hB3))
    go_ret2
    exact ⟨by rw [HD.out]; rfl, HB.out.trans (HB3.out.mono HB.out.size)⟩
  · have HD := Aside0.mk (show detE M = (elimRun M (up2 M).length).2.2 by rw [HD0.out, if_neg hlt])
    go_enter Try.func34, Try.ntmps34
    go_wp2_with (first | (go_at_call 67; (with_reducible refine (matrix_square.calls _ _ (up2 M) _ _ HR0.out HC0.out HV.out).mono ?_); rintro e w1 ⟨rfl, hb⟩; have HB := Aside0.mk hb; clear hb) | (go_at_call 62; (with_reducible refine (eliminate_calls _ _ M (up2 M).length M.length _ (Kd.C_below HR0.out HB.out) HC0.out HM.out (Nat.le_of_eq HU.out) HL1.out HL2.out (fun h => HU.out.trans (HL3.out h))).mono ?_); rintro e w3 ⟨gx, rfl, hE, hB3⟩; obtain ⟨vr, vp, hg, hS, hP⟩ := hE.out; obtain ⟨A4, c4, rfl⟩ := Kd.S_slice hS; obtain ⟨A5, c5, rfl⟩ := Kd.R_slice hP; rw [show (natInts (elimRun M (up2 M).length).2.1).length = (elimRun M (up2 M).length).2.1.length from List.length_map _] at hg hP; have hx1 : w3.cell? ⟨gx, 1, none⟩ = some (.slice A5 (elimRun M (up2 M).length).2.1.length c5) := (by rw [blk_cell hg]; rfl); have hx2 : w3.cell? ⟨gx, 2, none⟩ = some (.int .u8 (b2i (elimRun M (up2 M).length).2.2)) := (by rw [blk_cell hg]; rfl); have HB3 := Aside0.mk hB3; clear hE hg hS hP hB3))
    go_ret2
    exact ⟨by rw [HD.out]; rfl, HB.out.trans (HB3.out.mono HB.out.size)⟩
set_option maxRecDepth 100000 in
set_option maxHeartbeats 2000000 in
theorem determinant_bad (A0 : Option Addr) (c0 : Nat) (M : List (List Int)) (w : World) (hr0 : Kd.C (Kd.slice 5 (Kd.int .u8)) w A0 M.length M) (hc0 : M.length ≤ c0) (hv : squareB M = false) :
    Calls Try.prog 34 #[.slice A0 M.length c0] w fun e w' => e = .returned (.tuple #[.int .u8 0, .int .i64 1]) ∧ Below w.heap.size w w' := by
  have HR0 := Aside0.mk hr0
  have HC0 := Aside0.mk hc0
  have HV := Aside0.mk (show matrix_square.f M = some false by rw [square_eq, hv])
  clear hr0 hc0 hv
  go_enter Try.func34, Try.ntmps34
  go_wp2_with (first | (go_at_call 67; (with_reducible refine (matrix_square.calls _ _ M _ _ HR0.out HC0.out HV.out).mono ?_); rintro e w1 ⟨rfl, hb⟩; have HB := Aside0.mk hb; clear hb))
  go_ret2
  exact ⟨rfl, HB.out⟩
theorem matrix_Determinant.calls (A0 : Option Addr) (c0 : Nat) (l0 : List (List Int)) (r1 : Int) (r2 : Int) (w : World) (hr0 : Kd.C (Kd.slice 5 (Kd.int .u8)) w A0 l0.length l0) (hc0 : l0.length ≤ c0) (h : matrix_Determinant.f l0 = some (r1, r2)) :
    Calls Try.prog 34 #[.slice A0 l0.length c0] w fun e w' => e = .returned (.tuple #[.int .u8 r1, .int .i64 r2]) ∧ Below w.heap.size w w' := by
  cases hv : squareB l0 with
  | true =>
    unfold matrix_Determinant.f at h
    rw [if_pos hv] at h
    split at h
    · rename_i hb
      obtain ⟨M, rfl⟩ := exists_bytes2 hb
      rw [toB2_up2] at h
      simp only [Option.some.injEq, Prod.mk.injEq] at h
      obtain ⟨rfl, rfl⟩ := h
      exact determinant_good A0 c0 M w hr0 hc0 (by rw [← squareB_up2]; exact hv)
    · cases h
  | false =>
    unfold matrix_Determinant.f at h
    rw [if_neg (by rw [hv]; simp)] at h
    simp only [Option.some.injEq, Prod.mk.injEq] at h
    obtain ⟨rfl, rfl⟩ := h
    exact determinant_bad A0 c0 l0 w hr0 hc0 hv
end Go.Proofs.Ytpkghpljgjlmjaa.K
-- Lines of this claim, written by the session's own program kprint.py (it runs print.py).
namespace Go.Proofs.Ytpkghpljgjlmjaa.K
open Go.RowKit Go.Proofs.YtpkghpljgjlmjaaW.PrintWords Go.Proofs.YtpkghpljgjlmjaaW.PrintLast Go.Proofs.YtpkghpljgjlmjaaW.PrintMore
attribute [local go_sem] max2_int min2_int max_two min_two max_three min_three max_four min_four   -- for this text's walks alone
set_option linter.unusedVariables false
set_option linter.unusedSimpArgs false

/-! ### kinkeeplaw04_MatrixAssociates: function 8 -/
mutual
def kinkeeplaw04_MatrixAssociates.j0 : Nat → List (List Int) → List (List Int) → List (List Int) → Bool → Option (Bool)
  | 0, _, _, _, _ => none
  | k + 1, x0, x1, x2, x33 => if x33 = true then ((kinkeeplaw04_awake.f).bind fun t104 => (some t104)) else ((matrix_Mul.f k x0 x1).bind fun bt105 => ((matrix_Mul.f k x1 x2).bind fun bt109 => (if bt105.2 = 0 then (if bt109.2 = 0 then (if (x1.length : Int) = 0 then (kinkeeplaw04_MatrixAssociates.j1 k x0 x1 x2 bt105.1 bt109.1 true) else ((kinkeepref04_Cols.f x1).bind fun t113 => (kinkeeplaw04_MatrixAssociates.j1 k x0 x1 x2 bt105.1 bt109.1 (t113 == 0)))) else (kinkeeplaw04_MatrixAssociates.j1 k x0 x1 x2 bt105.1 bt109.1 true)) else (kinkeeplaw04_MatrixAssociates.j1 k x0 x1 x2 bt105.1 bt109.1 true))))
def kinkeeplaw04_MatrixAssociates.j1 : Nat → List (List Int) → List (List Int) → List (List Int) → List (List Int) → List (List Int) → Bool → Option (Bool)
  | 0, _, _, _, _, _, _ => none
  | k + 1, x0, x1, x2, x7, x9, x62 => if x62 = true then ((kinkeeplaw04_awake.f).bind fun t114 => (some t114)) else ((matrix_Mul.f k x7 x2).bind fun bt115 => ((matrix_Mul.f k x0 x9).bind fun bt119 => (if bt115.2 = bt119.2 then ((kinkeepref04_Same.f k bt115.1 bt119.1).bind fun t123 => (kinkeeplaw04_MatrixAssociates.j2 k x0 x1 x7 (!t123))) else (kinkeeplaw04_MatrixAssociates.j2 k x0 x1 x7 true))))
def kinkeeplaw04_MatrixAssociates.j2 : Nat → List (List Int) → List (List Int) → List (List Int) → Bool → Option (Bool)
  | 0, _, _, _, _ => none
  | k + 1, x0, x1, x7, x84 => if x84 = true then (some false) else ((matrix_Determinant.f x0).bind fun bt124 => ((matrix_Determinant.f x1).bind fun bt126 => ((matrix_Determinant.f x7).bind fun bt128 => ((kinkeeplaw04_awake.f).bind fun t130 => (if t130 = true then (if bt124.2 = 0 then (if bt126.2 = 0 then (if bt128.2 = 0 then ((kinkeepref04_Mul.f k bt124.1 bt126.1).bind fun t131 => (some (bt128.1 == t131))) else (some false)) else (some true)) else (some true)) else (some false))))))
end
def kinkeeplaw04_MatrixAssociates.f (k : Nat) (l0 : List (List Int)) (l1 : List (List Int)) (l2 : List (List Int)) : Option (Bool) := (kinkeeplaw04_few.f k l0 5).bind fun t101 => (if t101 = true then ((kinkeeplaw04_few.f k l1 5).bind fun t102 => (if t102 = true then ((kinkeeplaw04_few.f k l2 5).bind fun t103 => (kinkeeplaw04_MatrixAssociates.j0 k l0 l1 l2 (!t103))) else (kinkeeplaw04_MatrixAssociates.j0 k l0 l1 l2 true))) else (kinkeeplaw04_MatrixAssociates.j0 k l0 l1 l2 true))
set_option maxHeartbeats 8000000 in
set_option maxRecDepth 100000 in
theorem kinkeeplaw04_MatrixAssociates.calls (k : Nat) (A0 : Option Addr) (c0 : Nat) (l0 : List (List Int)) (A1 : Option Addr) (c1 : Nat) (l1 : List (List Int)) (A2 : Option Addr) (c2 : Nat) (l2 : List (List Int)) (r : Bool) (w : World) (hr0 : Kd.C (Kd.slice 5 (Kd.int .u8)) w A0 l0.length l0) (hc0 : l0.length ≤ c0) (hr1 : Kd.C (Kd.slice 5 (Kd.int .u8)) w A1 l1.length l1) (hc1 : l1.length ≤ c1) (hr2 : Kd.C (Kd.slice 5 (Kd.int .u8)) w A2 l2.length l2) (hc2 : l2.length ≤ c2) (h : kinkeeplaw04_MatrixAssociates.f k l0 l1 l2 = some r) :
    Calls Try.prog 8 #[.slice A0 l0.length c0, .slice A1 l1.length c1, .slice A2 l2.length c2] w fun e w' => e = .returned (.bool r) ∧ Below w.heap.size w w' := by
  have HR0 := Aside0.mk hr0
  have HC0 := Aside0.mk hc0
  clear hr0 hc0
  have HR1 := Aside0.mk hr1
  have HC1 := Aside0.mk hc1
  clear hr1 hc1
  have HR2 := Aside0.mk hr2
  have HC2 := Aside0.mk hc2
  clear hr2 hc2
  have HB := Aside0.mk (Below.refl w.heap.size w)
  have H : ((kinkeeplaw04_few.f k l0 5).bind fun t101 => (if t101 = true then ((kinkeeplaw04_few.f k l1 5).bind fun t102 => (if t102 = true then ((kinkeeplaw04_few.f k l2 5).bind fun t103 => (kinkeeplaw04_MatrixAssociates.j0 k l0 l1 l2 (!t103))) else (kinkeeplaw04_MatrixAssociates.j0 k l0 l1 l2 true))) else (kinkeeplaw04_MatrixAssociates.j0 k l0 l1 l2 true))) = some r := h
  clear h
  have HC4 := Aside0.mk H
  clear H
  go_enter Try.func8, Try.ntmps8
  go_upto_region 1 with (fail)
  go_cut [33] (fun v33 wc => ∃ (kq : Nat) (x33_3 : Bool), v33 = .bool x33_3 ∧ Aside0 (kinkeeplaw04_MatrixAssociates.j0 kq l0 l1 l2 x33_3 = some r) ∧ Aside0 (kq ≤ k) ∧ Aside0 (Below w.heap.size w wc))
  case first =>
    have H := HC4.out
    clear HC4
    replace H := Option.bind_eq_some_iff.mp H
    obtain ⟨t101, A50, H⟩ := H
    replace H : (if t101 = true then ((kinkeeplaw04_few.f k l1 5).bind fun t102 => (if t102 = true then ((kinkeeplaw04_few.f k l2 5).bind fun t103 => (kinkeeplaw04_MatrixAssociates.j0 k l0 l1 l2 (!t103))) else (kinkeeplaw04_MatrixAssociates.j0 k l0 l1 l2 true))) else (kinkeeplaw04_MatrixAssociates.j0 k l0 l1 l2 true)) = some r := H
    have A5 := Aside0.mk A50
    clear A50
    by_cases c6 : t101 = true
    · subst c6
      have H1 : ((kinkeeplaw04_few.f k l1 5).bind fun t102 => (if t102 = true then ((kinkeeplaw04_few.f k l2 5).bind fun t103 => (kinkeeplaw04_MatrixAssociates.j0 k l0 l1 l2 (!t103))) else (kinkeeplaw04_MatrixAssociates.j0 k l0 l1 l2 true))) = some r := by rw [if_pos rfl] at H; exact H
      clear H
      have H := H1
      clear H1
      replace H := Option.bind_eq_some_iff.mp H
      obtain ⟨t102, A70, H⟩ := H
      replace H : (if t102 = true then ((kinkeeplaw04_few.f k l2 5).bind fun t103 => (kinkeeplaw04_MatrixAssociates.j0 k l0 l1 l2 (!t103))) else (kinkeeplaw04_MatrixAssociates.j0 k l0 l1 l2 true)) = some r := H
      have A7 := Aside0.mk A70
      clear A70
      by_cases c8 : t102 = true
      · subst c8
        have H1 : ((kinkeeplaw04_few.f k l2 5).bind fun t103 => (kinkeeplaw04_MatrixAssociates.j0 k l0 l1 l2 (!t103))) = some r := by rw [if_pos rfl] at H; exact H
        clear H
        have H := H1
        clear H1
        replace H := Option.bind_eq_some_iff.mp H
        obtain ⟨t103, A90, H⟩ := H
        replace H : (kinkeeplaw04_MatrixAssociates.j0 k l0 l1 l2 (!t103)) = some r := H
        have A9 := Aside0.mk A90
        clear A90
        have H' := Aside0.mk H
        clear H
        go_wp2_with (first | ((with_reducible refine gate_callee (f := 15) rfl ?_); refine goesL_ (some 22) rfl rfl Try.func15 (by kernel_rfl) rfl #[.slice A0 l0.length c0, .int .i64 5] rfl (by (try simp only [List.map_toArray, List.map_cons, List.map_nil]); first | done | rfl | (simp only [List.length_drop, List.length_take]; rfl)) ?_; (with_reducible refine (kinkeeplaw04_few.calls k _ _ l0 5 true _ ?side1 ?side2 A5.out).mono ?_); (case side1 => repeat (first | exact (Kd.C_below HR0.out HB.out) | (with_reducible refine Kd.C_alloc ?_ _) | (with_reducible refine Kd.C_drewN ?_ _) | (with_reducible refine Kd.C_drew ?_))); (case side2 => exact HC0.out); rintro e w' ⟨rfl, ⟨nd, rfl⟩⟩; refine ⟨_, rfl, ?_⟩) | (go_at_call 15; (with_reducible refine (kinkeeplaw04_few.calls k _ _ l1 5 true _ ?side1 ?side2 A7.out).mono ?_); (case side1 => repeat (first | exact (Kd.C_below HR1.out (by repeat (first | (with_reducible first | exact HB.out | apply below_alloc | apply pw_below_drewN | apply below_drew1) | exact HB.out))) | (with_reducible refine Kd.C_alloc ?_ _) | (with_reducible refine Kd.C_drewN ?_ _) | (with_reducible refine Kd.C_drew ?_))); (case side2 => exact HC1.out); rintro e w' ⟨rfl, ⟨nd, rfl⟩⟩) | (go_at_call 15; (with_reducible refine (kinkeeplaw04_few.calls k _ _ l2 5 t103 _ ?side1 ?side2 A9.out).mono ?_); (case side1 => repeat (first | exact (Kd.C_below HR2.out (by repeat (first | (with_reducible first | exact HB.out | apply below_alloc | apply pw_below_drewN | apply below_drew1) | exact HB.out))) | (with_reducible refine Kd.C_alloc ?_ _) | (with_reducible refine Kd.C_drewN ?_ _) | (with_reducible refine Kd.C_drew ?_))); (case side2 => exact HC2.out); rintro e w' ⟨rfl, ⟨nd, rfl⟩⟩))
        go_meet
        case rel => exact ⟨_, (!t103), (by first | rfl | (simp; done) | (simp [*]; done)), H', ⟨by first | omega | exact Nat.le_refl _⟩, ⟨by repeat (first | (with_reducible first | exact HB.out | apply below_alloc | apply pw_below_drewN | apply below_drew1) | exact HB.out)⟩⟩
      · replace c8 := Bool.eq_false_iff.mpr c8
        subst c8
        have H1 : (kinkeeplaw04_MatrixAssociates.j0 k l0 l1 l2 true) = some r := by rw [if_neg (show ¬ (false = true) by decide)] at H; exact H
        clear H
        have H := H1
        clear H1
        have H' := Aside0.mk H
        clear H
        go_wp2_with (first | ((with_reducible refine gate_callee (f := 15) rfl ?_); refine goesL_ (some 22) rfl rfl Try.func15 (by kernel_rfl) rfl #[.slice A0 l0.length c0, .int .i64 5] rfl (by (try simp only [List.map_toArray, List.map_cons, List.map_nil]); first | done | rfl | (simp only [List.length_drop, List.length_take]; rfl)) ?_; (with_reducible refine (kinkeeplaw04_few.calls k _ _ l0 5 true _ ?side1 ?side2 A5.out).mono ?_); (case side1 => repeat (first | exact (Kd.C_below HR0.out HB.out) | (with_reducible refine Kd.C_alloc ?_ _) | (with_reducible refine Kd.C_drewN ?_ _) | (with_reducible refine Kd.C_drew ?_))); (case side2 => exact HC0.out); rintro e w' ⟨rfl, ⟨nd, rfl⟩⟩; refine ⟨_, rfl, ?_⟩) | (go_at_call 15; (with_reducible refine (kinkeeplaw04_few.calls k _ _ l1 5 false _ ?side1 ?side2 A7.out).mono ?_); (case side1 => repeat (first | exact (Kd.C_below HR1.out (by repeat (first | (with_reducible first | exact HB.out | apply below_alloc | apply pw_below_drewN | apply below_drew1) | exact HB.out))) | (with_reducible refine Kd.C_alloc ?_ _) | (with_reducible refine Kd.C_drewN ?_ _) | (with_reducible refine Kd.C_drew ?_))); (case side2 => exact HC1.out); rintro e w' ⟨rfl, ⟨nd, rfl⟩⟩))
        go_meet
        case rel => exact ⟨_, (true), (by first | rfl | (simp; done) | (simp [*]; done)), H', ⟨by first | omega | exact Nat.le_refl _⟩, ⟨by repeat (first | (with_reducible first | exact HB.out | apply below_alloc | apply pw_below_drewN | apply below_drew1) | exact HB.out)⟩⟩
    · replace c6 := Bool.eq_false_iff.mpr c6
      subst c6
      have H1 : (kinkeeplaw04_MatrixAssociates.j0 k l0 l1 l2 true) = some r := by rw [if_neg (show ¬ (false = true) by decide)] at H; exact H
      clear H
      have H := H1
      clear H1
      have H' := Aside0.mk H
      clear H
      go_wp2_with (first | ((with_reducible refine gate_callee (f := 15) rfl ?_); refine goesL_ (some 22) rfl rfl Try.func15 (by kernel_rfl) rfl #[.slice A0 l0.length c0, .int .i64 5] rfl (by (try simp only [List.map_toArray, List.map_cons, List.map_nil]); first | done | rfl | (simp only [List.length_drop, List.length_take]; rfl)) ?_; (with_reducible refine (kinkeeplaw04_few.calls k _ _ l0 5 false _ ?side1 ?side2 A5.out).mono ?_); (case side1 => repeat (first | exact (Kd.C_below HR0.out HB.out) | (with_reducible refine Kd.C_alloc ?_ _) | (with_reducible refine Kd.C_drewN ?_ _) | (with_reducible refine Kd.C_drew ?_))); (case side2 => exact HC0.out); rintro e w' ⟨rfl, ⟨nd, rfl⟩⟩; refine ⟨_, rfl, ?_⟩))
      go_meet
      case rel => exact ⟨_, (true), (by first | rfl | (simp; done) | (simp [*]; done)), H', ⟨by first | omega | exact Nat.le_refl _⟩, ⟨by repeat (first | (with_reducible first | exact HB.out | apply below_alloc | apply pw_below_drewN | apply below_drew1) | exact HB.out)⟩⟩
  case rest =>
    clear HC4
    try clear c1
    try clear c2
    try clear p2
    try clear c6
    try clear c8
    obtain ⟨kq, x33_3, rfl, HA, HJ3, HB⟩ := hcut
    cases kq with
    | zero => exact absurd HA.out (by simp [kinkeeplaw04_MatrixAssociates.j0])
    | succ kj3 =>
      have H := HA.out
      clear HA
      simp only [kinkeeplaw04_MatrixAssociates.j0] at H
      by_cases c10 : x33_3 = true
      · subst c10
        have H1 : ((kinkeeplaw04_awake.f).bind fun t104 => (some t104)) = some r := by rw [if_pos rfl] at H; exact H
        clear H
        have H := H1
        clear H1
        replace H := Option.bind_eq_some_iff.mp H
        obtain ⟨t104, A110, H⟩ := H
        replace H : (some t104) = some r := H
        have A11 := Aside0.mk A110
        clear A110
        obtain rfl := Option.some.inj H
        go_wp2_with (first | ((with_reducible refine gate_callee (f := 16) rfl ?_); refine goesL_ (some 34) rfl rfl Try.func16 (by kernel_rfl) rfl #[] rfl (by (try simp only [List.map_toArray, List.map_cons, List.map_nil]); first | done | rfl | (simp only [List.length_drop, List.length_take]; rfl)) ?_; (with_reducible refine (kinkeeplaw04_awake.calls  t104 _ A11.out).mono ?_); rintro e w12 ⟨rfl, hb⟩; refine ⟨_, rfl, ?_⟩; have n0_ := Aside0.mk (below_step (by repeat (first | (with_reducible first | exact HB.out | apply below_alloc | apply pw_below_drewN | apply below_drew1) | exact HB.out)) hb); clear HB; have HB := n0_; clear n0_; (try clear hb); (try clear hb2); (try clear hk); (try clear hi)))
        go_ret
        exact ⟨by first | rfl | (simp [errW_none, errW_some] <;> rfl) | (simp [*, errW_none, errW_some] <;> rfl), by repeat (first | (with_reducible first | exact HB.out | apply below_alloc | apply pw_below_drewN | apply below_drew1) | exact HB.out)⟩
      · replace c10 := Bool.eq_false_iff.mpr c10
        subst c10
        have H1 : ((matrix_Mul.f kj3 l0 l1).bind fun bt105 => ((matrix_Mul.f kj3 l1 l2).bind fun bt109 => (if bt105.2 = 0 then (if bt109.2 = 0 then (if (l1.length : Int) = 0 then (kinkeeplaw04_MatrixAssociates.j1 kj3 l0 l1 l2 bt105.1 bt109.1 true) else ((kinkeepref04_Cols.f l1).bind fun t113 => (kinkeeplaw04_MatrixAssociates.j1 kj3 l0 l1 l2 bt105.1 bt109.1 (t113 == 0)))) else (kinkeeplaw04_MatrixAssociates.j1 kj3 l0 l1 l2 bt105.1 bt109.1 true)) else (kinkeeplaw04_MatrixAssociates.j1 kj3 l0 l1 l2 bt105.1 bt109.1 true)))) = some r := by rw [if_neg (show ¬ (false = true) by decide)] at H; exact H
        clear H
        have H := H1
        clear H1
        replace H := Option.bind_eq_some_iff.mp H
        obtain ⟨⟨t105, t106⟩, A130, H⟩ := H
        replace H : ((matrix_Mul.f kj3 l1 l2).bind fun bt109 => (if t106 = 0 then (if bt109.2 = 0 then (if (l1.length : Int) = 0 then (kinkeeplaw04_MatrixAssociates.j1 kj3 l0 l1 l2 t105 bt109.1 true) else ((kinkeepref04_Cols.f l1).bind fun t113 => (kinkeeplaw04_MatrixAssociates.j1 kj3 l0 l1 l2 t105 bt109.1 (t113 == 0)))) else (kinkeeplaw04_MatrixAssociates.j1 kj3 l0 l1 l2 t105 bt109.1 true)) else (kinkeeplaw04_MatrixAssociates.j1 kj3 l0 l1 l2 t105 bt109.1 true))) = some r := H
        have A13 := Aside0.mk A130
        clear A130
        replace H := Option.bind_eq_some_iff.mp H
        obtain ⟨⟨t109, t110⟩, A140, H⟩ := H
        replace H : (if t106 = 0 then (if t110 = 0 then (if (l1.length : Int) = 0 then (kinkeeplaw04_MatrixAssociates.j1 kj3 l0 l1 l2 t105 t109 true) else ((kinkeepref04_Cols.f l1).bind fun t113 => (kinkeeplaw04_MatrixAssociates.j1 kj3 l0 l1 l2 t105 t109 (t113 == 0)))) else (kinkeeplaw04_MatrixAssociates.j1 kj3 l0 l1 l2 t105 t109 true)) else (kinkeeplaw04_MatrixAssociates.j1 kj3 l0 l1 l2 t105 t109 true)) = some r := H
        have A14 := Aside0.mk A140
        clear A140
        have HC15 := Aside0.mk H
        clear H
        go_upto_region 5 with (first | ((with_reducible refine gate_callee (f := 31) rfl ?_); refine goesL_ (some 38) rfl rfl Try.func31 (by kernel_rfl) rfl #[.slice A0 l0.length c0, .slice A1 l1.length c1] rfl (by (try simp only [List.map_toArray, List.map_cons, List.map_nil]); first | done | rfl | (simp only [List.length_drop, List.length_take]; rfl)) ?_; (with_reducible refine (matrix_Mul.calls kj3 _ _ l0 _ _ l1 t105 t106 _ ?side1 ?side2 ?side3 ?side4 A13.out).mono ?_); (case side1 => repeat (first | exact (Kd.C_below HR0.out HB.out) | (with_reducible refine Kd.C_alloc ?_ _) | (with_reducible refine Kd.C_drewN ?_ _) | (with_reducible refine Kd.C_drew ?_))); (case side2 => exact HC0.out); (case side3 => repeat (first | exact (Kd.C_below HR1.out HB.out) | (with_reducible refine Kd.C_alloc ?_ _) | (with_reducible refine Kd.C_drewN ?_ _) | (with_reducible refine Kd.C_drew ?_))); (case side4 => exact HC1.out); rintro e w16 ⟨v107, rfl, ho0, hb⟩; refine ⟨_, rfl, ?_⟩; have n0_ := Aside0.mk (Kd.S_lower ho0 (below_size (by repeat (first | (with_reducible first | exact HB.out | apply below_alloc | apply pw_below_drewN | apply below_drew1) | exact HB.out)))); have n1_ := Aside0.mk (below_step (by repeat (first | (with_reducible first | exact HB.out | apply below_alloc | apply pw_below_drewN | apply below_drew1) | exact HB.out)) hb); clear HB; have HO108 := n0_; have HB := n1_; clear n0_ n1_; (try clear hb); (try clear hb2); (try clear hk); (try clear hi); (try clear ho0)) | ((with_reducible refine gate_callee (f := 31) rfl ?_); refine goesL_ (some 44) rfl rfl Try.func31 (by kernel_rfl) rfl #[.slice A1 l1.length c1, .slice A2 l2.length c2] rfl (by (try simp only [List.map_toArray, List.map_cons, List.map_nil]); first | done | rfl | (simp only [List.length_drop, List.length_take]; rfl)) ?_; (with_reducible refine (matrix_Mul.calls kj3 _ _ l1 _ _ l2 t109 t110 _ ?side1 ?side2 ?side3 ?side4 A14.out).mono ?_); (case side1 => repeat (first | exact (Kd.C_below HR1.out HB.out) | (with_reducible refine Kd.C_alloc ?_ _) | (with_reducible refine Kd.C_drewN ?_ _) | (with_reducible refine Kd.C_drew ?_))); (case side2 => exact HC1.out); (case side3 => repeat (first | exact (Kd.C_below HR2.out HB.out) | (with_reducible refine Kd.C_alloc ?_ _) | (with_reducible refine Kd.C_drewN ?_ _) | (with_reducible refine Kd.C_drew ?_))); (case side4 => exact HC2.out); rintro e w17 ⟨v111, rfl, ho0, hb⟩; refine ⟨_, rfl, ?_⟩; have n0_ := Aside0.mk (Kd.S_elder' (by (with_reducible repeat (first | apply Kd.S_alloc | apply Kd.S_drewN | apply Kd.S_drew)); exact HO108.out) (Kd.S_base ho0) hb); have n1_ := Aside0.mk (Kd.S_lower (Kd.S_new' ho0 (Kd.S_lt (by (with_reducible repeat (first | apply Kd.S_alloc | apply Kd.S_drewN | apply Kd.S_drew)); exact HO108.out))) (below_size (by repeat (first | (with_reducible first | exact HB.out | apply below_alloc | apply pw_below_drewN | apply below_drew1) | exact HB.out)))); have n2_ := Aside0.mk (below_step (by repeat (first | (with_reducible first | exact HB.out | apply below_alloc | apply pw_below_drewN | apply below_drew1) | exact HB.out)) hb); clear HO108; clear HB; have HO108 := n0_; have HO112 := n1_; have HB := n2_; clear n0_ n1_ n2_; (try clear hb); (try clear hb2); (try clear hk); (try clear hi); (try clear ho0)))
        (try simp only [Act.put, List.setIfInBounds_toArray, List.set_cons_zero, List.set_cons_succ])
        go_cut [62] (fun v62 wc => ∃ (kq : Nat) (x62_14 : Bool), v62 = .bool x62_14 ∧ Aside0 (kinkeeplaw04_MatrixAssociates.j1 kq l0 l1 l2 t105 t109 x62_14 = some r) ∧ Aside0 (kq ≤ kj3) ∧ Aside0 (Kd.S (Kd.slice 5 (Kd.int .u8)) 34 wc w.heap.size (fun k_ => some k_ ≠ (v111 : Value).ownBlock) v107 t105) ∧ Aside0 (Kd.S (Kd.slice 5 (Kd.int .u8)) 34 wc w.heap.size (fun k_ => some k_ ≠ (v107 : Value).ownBlock) v111 t109) ∧ Aside0 (Below w.heap.size w wc))
        case first =>
          have H := HC15.out
          clear HC15
          by_cases c18 : t106 = 0
          · rw [if_pos c18] at H
            have c18b0 : (t106 == 0) = true := beq_iff_eq.mpr c18
            have c18b1 : (t106 != 0) = false := bne_eq_false_iff_eq.mpr c18
            clear c18
            (first | rw [c18b0] | rw [c18b1] | rw [c18b2] | (simp only [i64_w, i32_w]; rw [c18b0]) | skip)
            by_cases c19 : t110 = 0
            · rw [if_pos c19] at H
              have c19b0 : (t110 == 0) = true := beq_iff_eq.mpr c19
              have c19b1 : (t110 != 0) = false := bne_eq_false_iff_eq.mpr c19
              clear c19
              by_cases c20 : (l1.length : Int) = 0
              · rw [if_pos c20] at H
                have c20b0 : ((l1.length : Int) == 0) = true := beq_iff_eq.mpr c20
                have c20b1 : ((l1.length : Int) != 0) = false := bne_eq_false_iff_eq.mpr c20
                clear c20
                have H' := Aside0.mk H
                clear H
                go_wp2
                go_meet
                case rel => exact ⟨_, (true), (by first | rfl | (simp; done) | (simp [*]; done)), H', ⟨by have := HJ3.out; first | omega | exact Nat.le_refl _⟩, ⟨by (with_reducible repeat (first | apply Kd.S_alloc | apply Kd.S_drewN | apply Kd.S_drew)); exact Kd.S_mono HO108.out (fun _ hk => hk.2)⟩, ⟨by (with_reducible repeat (first | apply Kd.S_alloc | apply Kd.S_drewN | apply Kd.S_drew)); exact Kd.S_mono HO112.out (fun _ hk => hk.2)⟩, ⟨by repeat (first | (with_reducible first | exact HB.out | apply below_alloc | apply pw_below_drewN | apply below_drew1) | exact HB.out)⟩⟩
              · rw [if_neg c20] at H
                have c20b0 : ((l1.length : Int) == 0) = false := beq_eq_false_iff_ne.mpr c20
                have c20b1 : ((l1.length : Int) != 0) = true := bne_iff_ne.mpr c20
                have c20b2 : ¬ (l1 = []) := fun h_ => c20 (by rw [h_]; rfl)
                replace H := Option.bind_eq_some_iff.mp H
                obtain ⟨t113, A210, H⟩ := H
                replace H : (kinkeeplaw04_MatrixAssociates.j1 kj3 l0 l1 l2 t105 t109 (t113 == 0)) = some r := H
                have A21 := Aside0.mk A210
                clear A210
                have H' := Aside0.mk H
                clear H
                go_wp2_with (first | (go_at_call 21; (with_reducible refine (kinkeepref04_Cols.calls _ _ l1 t113 _ ?side1 ?side2 A21.out).mono ?_); (case side1 => repeat (first | exact (Kd.C_below HR1.out HB.out) | (with_reducible refine Kd.C_alloc ?_ _) | (with_reducible refine Kd.C_drewN ?_ _) | (with_reducible refine Kd.C_drew ?_))); (case side2 => exact HC1.out); rintro e w' ⟨rfl, ⟨nd, rfl⟩⟩))
                go_meet
                case rel => exact ⟨_, ((t113 == 0)), (by first | rfl | (simp; done) | (simp [*]; done)), H', ⟨by have := HJ3.out; first | omega | exact Nat.le_refl _⟩, ⟨by (with_reducible repeat (first | apply Kd.S_alloc | apply Kd.S_drewN | apply Kd.S_drew)); exact Kd.S_mono HO108.out (fun _ hk => hk.2)⟩, ⟨by (with_reducible repeat (first | apply Kd.S_alloc | apply Kd.S_drewN | apply Kd.S_drew)); exact Kd.S_mono HO112.out (fun _ hk => hk.2)⟩, ⟨by repeat (first | (with_reducible first | exact HB.out | apply below_alloc | apply pw_below_drewN | apply below_drew1) | exact HB.out)⟩⟩
            · rw [if_neg c19] at H
              have c19b0 : (t110 == 0) = false := beq_eq_false_iff_ne.mpr c19
              have c19b1 : (t110 != 0) = true := bne_iff_ne.mpr c19
              have H' := Aside0.mk H
              clear H
              go_wp2
              go_meet
              case rel => exact ⟨_, (true), (by first | rfl | (simp; done) | (simp [*]; done)), H', ⟨by have := HJ3.out; first | omega | exact Nat.le_refl _⟩, ⟨by (with_reducible repeat (first | apply Kd.S_alloc | apply Kd.S_drewN | apply Kd.S_drew)); exact Kd.S_mono HO108.out (fun _ hk => hk.2)⟩, ⟨by (with_reducible repeat (first | apply Kd.S_alloc | apply Kd.S_drewN | apply Kd.S_drew)); exact Kd.S_mono HO112.out (fun _ hk => hk.2)⟩, ⟨by repeat (first | (with_reducible first | exact HB.out | apply below_alloc | apply pw_below_drewN | apply below_drew1) | exact HB.out)⟩⟩
          · rw [if_neg c18] at H
            have c18b0 : (t106 == 0) = false := beq_eq_false_iff_ne.mpr c18
            have c18b1 : (t106 != 0) = true := bne_iff_ne.mpr c18
            (first | rw [c18b0] | rw [c18b1] | rw [c18b2] | (simp only [i64_w, i32_w]; rw [c18b0]) | skip)
            have H' := Aside0.mk H
            clear H
            go_wp2
            go_meet
            case rel => exact ⟨_, (true), (by first | rfl | (simp; done) | (simp [*]; done)), H', ⟨by have := HJ3.out; first | omega | exact Nat.le_refl _⟩, ⟨by (with_reducible repeat (first | apply Kd.S_alloc | apply Kd.S_drewN | apply Kd.S_drew)); exact Kd.S_mono HO108.out (fun _ hk => hk.2)⟩, ⟨by (with_reducible repeat (first | apply Kd.S_alloc | apply Kd.S_drewN | apply Kd.S_drew)); exact Kd.S_mono HO112.out (fun _ hk => hk.2)⟩, ⟨by repeat (first | (with_reducible first | exact HB.out | apply below_alloc | apply pw_below_drewN | apply below_drew1) | exact HB.out)⟩⟩
        case rest =>
          clear HC15
          try clear c1
          try clear c2
          try clear p2
          try clear c3
          try clear c6
          try clear c8
          try clear c10
          try clear c15
          try clear c16
          try clear c18
          try clear c18b0
          try clear c18b1
          try clear c19
          try clear c19b0
          try clear c19b1
          try clear c20
          try clear c20b0
          try clear c20b1
          try clear c20b2
          try clear p2
          obtain ⟨kq, x62_14, rfl, HA, HJ14, HO_7, HO_9, HB⟩ := hcut
          cases kq with
          | zero => exact absurd HA.out (by simp [kinkeeplaw04_MatrixAssociates.j1])
          | succ kj14 =>
            have H := HA.out
            clear HA
            simp only [kinkeeplaw04_MatrixAssociates.j1] at H
            by_cases c22 : x62_14 = true
            · subst c22
              have H1 : ((kinkeeplaw04_awake.f).bind fun t114 => (some t114)) = some r := by rw [if_pos rfl] at H; exact H
              clear H
              have H := H1
              clear H1
              replace H := Option.bind_eq_some_iff.mp H
              obtain ⟨t114, A230, H⟩ := H
              replace H : (some t114) = some r := H
              have A23 := Aside0.mk A230
              clear A230
              obtain rfl := Option.some.inj H
              go_wp2_with (first | ((with_reducible refine gate_callee (f := 16) rfl ?_); refine goesL_ (some 63) rfl rfl Try.func16 (by kernel_rfl) rfl #[] rfl (by (try simp only [List.map_toArray, List.map_cons, List.map_nil]); first | done | rfl | (simp only [List.length_drop, List.length_take]; rfl)) ?_; (with_reducible refine (kinkeeplaw04_awake.calls  t114 _ A23.out).mono ?_); rintro e w24 ⟨rfl, hb⟩; refine ⟨_, rfl, ?_⟩; have n0_ := Aside0.mk (Kd.S_below (by (with_reducible repeat (first | apply Kd.S_alloc | apply Kd.S_drewN | apply Kd.S_drew)); exact HO_7.out) hb); have n1_ := Aside0.mk (Kd.S_below (by (with_reducible repeat (first | apply Kd.S_alloc | apply Kd.S_drewN | apply Kd.S_drew)); exact HO_9.out) hb); have n2_ := Aside0.mk (below_step (by repeat (first | (with_reducible first | exact HB.out | apply below_alloc | apply pw_below_drewN | apply below_drew1) | exact HB.out)) hb); clear HO_7; clear HO_9; clear HB; have HO_7 := n0_; have HO_9 := n1_; have HB := n2_; clear n0_ n1_ n2_; (try clear hb); (try clear hb2); (try clear hk); (try clear hi)))
              go_ret
              exact ⟨by first | rfl | (simp [errW_none, errW_some] <;> rfl) | (simp [*, errW_none, errW_some] <;> rfl), by repeat (first | (with_reducible first | exact HB.out | apply below_alloc | apply pw_below_drewN | apply below_drew1) | exact HB.out)⟩
            · replace c22 := Bool.eq_false_iff.mpr c22
              subst c22
              have H1 : ((matrix_Mul.f kj14 t105 l2).bind fun bt115 => ((matrix_Mul.f kj14 l0 t109).bind fun bt119 => (if bt115.2 = bt119.2 then ((kinkeepref04_Same.f kj14 bt115.1 bt119.1).bind fun t123 => (kinkeeplaw04_MatrixAssociates.j2 kj14 l0 l1 t105 (!t123))) else (kinkeeplaw04_MatrixAssociates.j2 kj14 l0 l1 t105 true)))) = some r := by rw [if_neg (show ¬ (false = true) by decide)] at H; exact H
              clear H
              have H := H1
              clear H1
              replace H := Option.bind_eq_some_iff.mp H
              obtain ⟨⟨t115, t116⟩, A250, H⟩ := H
              replace H : ((matrix_Mul.f kj14 l0 t109).bind fun bt119 => (if t116 = bt119.2 then ((kinkeepref04_Same.f kj14 t115 bt119.1).bind fun t123 => (kinkeeplaw04_MatrixAssociates.j2 kj14 l0 l1 t105 (!t123))) else (kinkeeplaw04_MatrixAssociates.j2 kj14 l0 l1 t105 true))) = some r := H
              have A25 := Aside0.mk A250
              clear A250
              replace H := Option.bind_eq_some_iff.mp H
              obtain ⟨⟨t119, t120⟩, A260, H⟩ := H
              replace H : (if t116 = t120 then ((kinkeepref04_Same.f kj14 t115 t119).bind fun t123 => (kinkeeplaw04_MatrixAssociates.j2 kj14 l0 l1 t105 (!t123))) else (kinkeeplaw04_MatrixAssociates.j2 kj14 l0 l1 t105 true)) = some r := H
              have A26 := Aside0.mk A260
              clear A260
              have HC27 := Aside0.mk H
              clear H
              obtain ⟨Ao28, co28, eo28⟩ := Kd.S_slice HO_7.out
              subst eo28
              go_upto_region 9 with (first | ((with_reducible refine gate_callee (f := 31) rfl ?_); refine goesL_ (some 67) rfl rfl Try.func31 (by kernel_rfl) rfl #[.slice Ao28 t105.length co28, .slice A2 l2.length c2] rfl (by (try simp only [List.map_toArray, List.map_cons, List.map_nil]); first | done | rfl | (simp only [List.length_drop, List.length_take]; rfl)) ?_; (with_reducible refine (matrix_Mul.calls kj14 _ _ t105 _ _ l2 t115 t116 _ ?side1 ?side2 ?side3 ?side4 A25.out).mono ?_); (case side1 => repeat (first | exact (Kd.S_reads' HO_7.out).2.2 | (with_reducible refine Kd.C_alloc ?_ _) | (with_reducible refine Kd.C_drewN ?_ _) | (with_reducible refine Kd.C_drew ?_))); (case side2 => exact (Kd.S_reads' HO_7.out).2.1); (case side3 => repeat (first | exact (Kd.C_below HR2.out HB.out) | (with_reducible refine Kd.C_alloc ?_ _) | (with_reducible refine Kd.C_drewN ?_ _) | (with_reducible refine Kd.C_drew ?_))); (case side4 => exact HC2.out); rintro e w29 ⟨v117, rfl, ho0, hb⟩; refine ⟨_, rfl, ?_⟩; have n0_ := Aside0.mk (Kd.S_elder' (by (with_reducible repeat (first | apply Kd.S_alloc | apply Kd.S_drewN | apply Kd.S_drew)); exact HO_7.out) (Kd.S_base ho0) hb); have n1_ := Aside0.mk (Kd.S_elder' (by (with_reducible repeat (first | apply Kd.S_alloc | apply Kd.S_drewN | apply Kd.S_drew)); exact HO_9.out) (Kd.S_base ho0) hb); have n2_ := Aside0.mk (Kd.S_lower (Kd.S_new' (Kd.S_new' ho0 (Kd.S_lt (by (with_reducible repeat (first | apply Kd.S_alloc | apply Kd.S_drewN | apply Kd.S_drew)); exact HO_7.out))) (Kd.S_lt (by (with_reducible repeat (first | apply Kd.S_alloc | apply Kd.S_drewN | apply Kd.S_drew)); exact HO_9.out))) (below_size (by repeat (first | (with_reducible first | exact HB.out | apply below_alloc | apply pw_below_drewN | apply below_drew1) | exact HB.out)))); have n3_ := Aside0.mk (below_step (by repeat (first | (with_reducible first | exact HB.out | apply below_alloc | apply pw_below_drewN | apply below_drew1) | exact HB.out)) hb); clear HO_7; clear HO_9; clear HB; have HO_7 := n0_; have HO_9 := n1_; have HO118 := n2_; have HB := n3_; clear n0_ n1_ n2_ n3_; (try clear hb); (try clear hb2); (try clear hk); (try clear hi); (try clear ho0); obtain ⟨Ao30, co30, eo30⟩ := Kd.S_slice HO_9.out; subst eo30) | ((with_reducible refine gate_callee (f := 31) rfl ?_); refine goesL_ (some 73) rfl rfl Try.func31 (by kernel_rfl) rfl #[.slice A0 l0.length c0, .slice Ao30 t109.length co30] rfl (by (try simp only [List.map_toArray, List.map_cons, List.map_nil]); first | done | rfl | (simp only [List.length_drop, List.length_take]; rfl)) ?_; (with_reducible refine (matrix_Mul.calls kj14 _ _ l0 _ _ t109 t119 t120 _ ?side1 ?side2 ?side3 ?side4 A26.out).mono ?_); (case side1 => repeat (first | exact (Kd.C_below HR0.out HB.out) | (with_reducible refine Kd.C_alloc ?_ _) | (with_reducible refine Kd.C_drewN ?_ _) | (with_reducible refine Kd.C_drew ?_))); (case side2 => exact HC0.out); (case side3 => repeat (first | exact (Kd.S_reads' HO_9.out).2.2 | (with_reducible refine Kd.C_alloc ?_ _) | (with_reducible refine Kd.C_drewN ?_ _) | (with_reducible refine Kd.C_drew ?_))); (case side4 => exact (Kd.S_reads' HO_9.out).2.1); rintro e w31 ⟨v121, rfl, ho0, hb⟩; refine ⟨_, rfl, ?_⟩; have n0_ := Aside0.mk (Kd.S_elder' (by (with_reducible repeat (first | apply Kd.S_alloc | apply Kd.S_drewN | apply Kd.S_drew)); exact HO_7.out) (Kd.S_base ho0) hb); have n1_ := Aside0.mk (Kd.S_elder' (by (with_reducible repeat (first | apply Kd.S_alloc | apply Kd.S_drewN | apply Kd.S_drew)); exact HO_9.out) (Kd.S_base ho0) hb); have n2_ := Aside0.mk (Kd.S_elder' (by (with_reducible repeat (first | apply Kd.S_alloc | apply Kd.S_drewN | apply Kd.S_drew)); exact HO118.out) (Kd.S_base ho0) hb); have n3_ := Aside0.mk (Kd.S_lower (Kd.S_new' (Kd.S_new' (Kd.S_new' ho0 (Kd.S_lt (by (with_reducible repeat (first | apply Kd.S_alloc | apply Kd.S_drewN | apply Kd.S_drew)); exact HO_7.out))) (Kd.S_lt (by (with_reducible repeat (first | apply Kd.S_alloc | apply Kd.S_drewN | apply Kd.S_drew)); exact HO_9.out))) (Kd.S_lt (by (with_reducible repeat (first | apply Kd.S_alloc | apply Kd.S_drewN | apply Kd.S_drew)); exact HO118.out))) (below_size (by repeat (first | (with_reducible first | exact HB.out | apply below_alloc | apply pw_below_drewN | apply below_drew1) | exact HB.out)))); have n4_ := Aside0.mk (below_step (by repeat (first | (with_reducible first | exact HB.out | apply below_alloc | apply pw_below_drewN | apply below_drew1) | exact HB.out)) hb); clear HO_7; clear HO_9; clear HO118; clear HB; have HO_7 := n0_; have HO_9 := n1_; have HO118 := n2_; have HO122 := n3_; have HB := n4_; clear n0_ n1_ n2_ n3_ n4_; (try clear hb); (try clear hb2); (try clear hk); (try clear hi); (try clear ho0)))
              (try simp only [Act.put, List.setIfInBounds_toArray, List.set_cons_zero, List.set_cons_succ])
              go_cut [84] (fun v84 wc => ∃ (kq : Nat) (x84_26 : Bool), v84 = .bool x84_26 ∧ Aside0 (kinkeeplaw04_MatrixAssociates.j2 kq l0 l1 t105 x84_26 = some r) ∧ Aside0 (kq ≤ kj14) ∧ Aside0 (Kd.S (Kd.slice 5 (Kd.int .u8)) 34 wc w.heap.size (fun _ => True) (.slice Ao28 t105.length co28) t105) ∧ Aside0 (Below w.heap.size w wc))
              case first =>
                have H := HC27.out
                clear HC27
                by_cases c32 : t116 = t120
                · rw [if_pos c32] at H
                  have c32b0 : (t116 == t120) = true := beq_iff_eq.mpr c32
                  have c32b1 : (t116 != t120) = false := bne_eq_false_iff_eq.mpr c32
                  clear c32
                  (first | rw [c32b0] | rw [c32b1] | rw [c32b2] | (simp only [i64_w, i32_w]; rw [c32b0]) | skip)
                  replace H := Option.bind_eq_some_iff.mp H
                  obtain ⟨t123, A330, H⟩ := H
                  replace H : (kinkeeplaw04_MatrixAssociates.j2 kj14 l0 l1 t105 (!t123)) = some r := H
                  have A33 := Aside0.mk A330
                  clear A330
                  have H' := Aside0.mk H
                  clear H
                  obtain ⟨Ao34, co34, eo34⟩ := Kd.S_slice HO118.out
                  subst eo34
                  obtain ⟨Ao35, co35, eo35⟩ := Kd.S_slice HO122.out
                  subst eo35
                  go_wp2_with (first | (go_at_call 23; (with_reducible refine (kinkeepref04_Same.calls kj14 _ _ t115 _ _ t119 t123 _ ?side1 ?side2 ?side3 ?side4 A33.out).mono ?_); (case side1 => repeat (first | exact (Kd.S_reads' HO118.out).2.2 | (with_reducible refine Kd.C_alloc ?_ _) | (with_reducible refine Kd.C_drewN ?_ _) | (with_reducible refine Kd.C_drew ?_))); (case side2 => exact (Kd.S_reads' HO118.out).2.1); (case side3 => repeat (first | exact (Kd.S_reads' HO122.out).2.2 | (with_reducible refine Kd.C_alloc ?_ _) | (with_reducible refine Kd.C_drewN ?_ _) | (with_reducible refine Kd.C_drew ?_))); (case side4 => exact (Kd.S_reads' HO122.out).2.1); rintro e w' ⟨rfl, ⟨nd, rfl⟩⟩))
                  go_meet
                  case rel => exact ⟨_, (!t123), (by first | rfl | (simp; done) | (simp [*]; done)), H', ⟨by have := HJ3.out; have := HJ14.out; first | omega | exact Nat.le_refl _⟩, ⟨by (with_reducible repeat (first | apply Kd.S_alloc | apply Kd.S_drewN | apply Kd.S_drew)); exact Kd.S_mono HO_7.out (fun _ hk => trivial)⟩, ⟨by repeat (first | (with_reducible first | exact HB.out | apply below_alloc | apply pw_below_drewN | apply below_drew1) | exact HB.out)⟩⟩
                · rw [if_neg c32] at H
                  have c32b0 : (t116 == t120) = false := beq_eq_false_iff_ne.mpr c32
                  have c32b1 : (t116 != t120) = true := bne_iff_ne.mpr c32
                  (first | rw [c32b0] | rw [c32b1] | rw [c32b2] | (simp only [i64_w, i32_w]; rw [c32b0]) | skip)
                  have H' := Aside0.mk H
                  clear H
                  go_wp2
                  go_meet
                  case rel => exact ⟨_, (true), (by first | rfl | (simp; done) | (simp [*]; done)), H', ⟨by have := HJ3.out; have := HJ14.out; first | omega | exact Nat.le_refl _⟩, ⟨by (with_reducible repeat (first | apply Kd.S_alloc | apply Kd.S_drewN | apply Kd.S_drew)); exact Kd.S_mono HO_7.out (fun _ hk => trivial)⟩, ⟨by repeat (first | (with_reducible first | exact HB.out | apply below_alloc | apply pw_below_drewN | apply below_drew1) | exact HB.out)⟩⟩
              case rest =>
                clear HC27
                try clear c1
                try clear c2
                try clear p2
                try clear c3
                try clear c6
                try clear c8
                try clear c10
                try clear c15
                try clear c16
                try clear c18
                try clear c18b0
                try clear c18b1
                try clear c19
                try clear c19b0
                try clear c19b1
                try clear c20
                try clear c20b0
                try clear c20b1
                try clear c20b2
                try clear c22
                try clear c31
                try clear c32
                try clear c32b0
                try clear c32b1
                try clear p2
                obtain ⟨kq, x84_26, rfl, HA, HJ26, HO_7, HB⟩ := hcut
                cases kq with
                | zero => exact absurd HA.out (by simp [kinkeeplaw04_MatrixAssociates.j2])
                | succ kj26 =>
                  have H := HA.out
                  clear HA
                  simp only [kinkeeplaw04_MatrixAssociates.j2] at H
                  by_cases c36 : x84_26 = true
                  · subst c36
                    have H1 : (some false) = some r := by rw [if_pos rfl] at H; exact H
                    clear H
                    have H := H1
                    clear H1
                    obtain rfl := Option.some.inj H
                    go_wp2
                    go_ret
                    exact ⟨by first | rfl | (simp [errW_none, errW_some] <;> rfl) | (simp [*, errW_none, errW_some] <;> rfl), by repeat (first | (with_reducible first | exact HB.out | apply below_alloc | apply pw_below_drewN | apply below_drew1) | exact HB.out)⟩
                  · replace c36 := Bool.eq_false_iff.mpr c36
                    subst c36
                    have H1 : ((matrix_Determinant.f l0).bind fun bt124 => ((matrix_Determinant.f l1).bind fun bt126 => ((matrix_Determinant.f t105).bind fun bt128 => ((kinkeeplaw04_awake.f).bind fun t130 => (if t130 = true then (if bt124.2 = 0 then (if bt126.2 = 0 then (if bt128.2 = 0 then ((kinkeepref04_Mul.f kj26 bt124.1 bt126.1).bind fun t131 => (some (bt128.1 == t131))) else (some false)) else (some true)) else (some true)) else (some false)))))) = some r := by rw [if_neg (show ¬ (false = true) by decide)] at H; exact H
                    clear H
                    have H := H1
                    clear H1
                    replace H := Option.bind_eq_some_iff.mp H
                    obtain ⟨⟨t124, t125⟩, A370, H⟩ := H
                    replace H : ((matrix_Determinant.f l1).bind fun bt126 => ((matrix_Determinant.f t105).bind fun bt128 => ((kinkeeplaw04_awake.f).bind fun t130 => (if t130 = true then (if t125 = 0 then (if bt126.2 = 0 then (if bt128.2 = 0 then ((kinkeepref04_Mul.f kj26 t124 bt126.1).bind fun t131 => (some (bt128.1 == t131))) else (some false)) else (some true)) else (some true)) else (some false))))) = some r := H
                    have A37 := Aside0.mk A370
                    clear A370
                    replace H := Option.bind_eq_some_iff.mp H
                    obtain ⟨⟨t126, t127⟩, A380, H⟩ := H
                    replace H : ((matrix_Determinant.f t105).bind fun bt128 => ((kinkeeplaw04_awake.f).bind fun t130 => (if t130 = true then (if t125 = 0 then (if t127 = 0 then (if bt128.2 = 0 then ((kinkeepref04_Mul.f kj26 t124 t126).bind fun t131 => (some (bt128.1 == t131))) else (some false)) else (some true)) else (some true)) else (some false)))) = some r := H
                    have A38 := Aside0.mk A380
                    clear A380
                    replace H := Option.bind_eq_some_iff.mp H
                    obtain ⟨⟨t128, t129⟩, A390, H⟩ := H
                    replace H : ((kinkeeplaw04_awake.f).bind fun t130 => (if t130 = true then (if t125 = 0 then (if t127 = 0 then (if t129 = 0 then ((kinkeepref04_Mul.f kj26 t124 t126).bind fun t131 => (some (t128 == t131))) else (some false)) else (some true)) else (some true)) else (some false))) = some r := H
                    have A39 := Aside0.mk A390
                    clear A390
                    replace H := Option.bind_eq_some_iff.mp H
                    obtain ⟨t130, A400, H⟩ := H
                    replace H : (if t130 = true then (if t125 = 0 then (if t127 = 0 then (if t129 = 0 then ((kinkeepref04_Mul.f kj26 t124 t126).bind fun t131 => (some (t128 == t131))) else (some false)) else (some true)) else (some true)) else (some false)) = some r := H
                    have A40 := Aside0.mk A400
                    clear A400
                    by_cases c41 : t130 = true
                    · subst c41
                      have H1 : (if t125 = 0 then (if t127 = 0 then (if t129 = 0 then ((kinkeepref04_Mul.f kj26 t124 t126).bind fun t131 => (some (t128 == t131))) else (some false)) else (some true)) else (some true)) = some r := by rw [if_pos rfl] at H; exact H
                      clear H
                      have H := H1
                      clear H1
                      by_cases c42 : t125 = 0
                      · rw [if_pos c42] at H
                        have c42b0 : (t125 == 0) = true := beq_iff_eq.mpr c42
                        have c42b1 : (t125 != 0) = false := bne_eq_false_iff_eq.mpr c42
                        clear c42
                        by_cases c43 : t127 = 0
                        · rw [if_pos c43] at H
                          have c43b0 : (t127 == 0) = true := beq_iff_eq.mpr c43
                          have c43b1 : (t127 != 0) = false := bne_eq_false_iff_eq.mpr c43
                          clear c43
                          by_cases c44 : t129 = 0
                          · rw [if_pos c44] at H
                            have c44b0 : (t129 == 0) = true := beq_iff_eq.mpr c44
                            have c44b1 : (t129 != 0) = false := bne_eq_false_iff_eq.mpr c44
                            clear c44
                            replace H := Option.bind_eq_some_iff.mp H
                            obtain ⟨t131, A450, H⟩ := H
                            replace H : (some (t128 == t131)) = some r := H
                            have A45 := Aside0.mk A450
                            clear A450
                            obtain rfl := Option.some.inj H
                            go_wp2_with (first | ((with_reducible refine gate_callee (f := 34) rfl ?_); refine goesL_ (some 87) rfl rfl Try.func34 (by kernel_rfl) rfl #[.slice A0 l0.length c0] rfl (by (try simp only [List.map_toArray, List.map_cons, List.map_nil]); first | done | rfl | (simp only [List.length_drop, List.length_take]; rfl)) ?_; (with_reducible refine (matrix_Determinant.calls _ _ l0 t124 t125 _ ?side1 ?side2 A37.out).mono ?_); (case side1 => repeat (first | exact (Kd.C_below HR0.out HB.out) | (with_reducible refine Kd.C_alloc ?_ _) | (with_reducible refine Kd.C_drewN ?_ _) | (with_reducible refine Kd.C_drew ?_))); (case side2 => exact HC0.out); rintro e w46 ⟨rfl, hb⟩; refine ⟨_, rfl, ?_⟩; have n0_ := Aside0.mk (Kd.S_below (by (with_reducible repeat (first | apply Kd.S_alloc | apply Kd.S_drewN | apply Kd.S_drew)); exact HO_7.out) hb); have n1_ := Aside0.mk (below_step (by repeat (first | (with_reducible first | exact HB.out | apply below_alloc | apply pw_below_drewN | apply below_drew1) | exact HB.out)) hb); clear HO_7; clear HB; have HO_7 := n0_; have HB := n1_; clear n0_ n1_; (try clear hb); (try clear hb2); (try clear hk); (try clear hi)) | ((with_reducible refine gate_callee (f := 34) rfl ?_); refine goesL_ (some 92) rfl rfl Try.func34 (by kernel_rfl) rfl #[.slice A1 l1.length c1] rfl (by (try simp only [List.map_toArray, List.map_cons, List.map_nil]); first | done | rfl | (simp only [List.length_drop, List.length_take]; rfl)) ?_; (with_reducible refine (matrix_Determinant.calls _ _ l1 t126 t127 _ ?side1 ?side2 A38.out).mono ?_); (case side1 => repeat (first | exact (Kd.C_below HR1.out HB.out) | (with_reducible refine Kd.C_alloc ?_ _) | (with_reducible refine Kd.C_drewN ?_ _) | (with_reducible refine Kd.C_drew ?_))); (case side2 => exact HC1.out); rintro e w47 ⟨rfl, hb⟩; refine ⟨_, rfl, ?_⟩; have n0_ := Aside0.mk (Kd.S_below (by (with_reducible repeat (first | apply Kd.S_alloc | apply Kd.S_drewN | apply Kd.S_drew)); exact HO_7.out) hb); have n1_ := Aside0.mk (below_step (by repeat (first | (with_reducible first | exact HB.out | apply below_alloc | apply pw_below_drewN | apply below_drew1) | exact HB.out)) hb); clear HO_7; clear HB; have HO_7 := n0_; have HB := n1_; clear n0_ n1_; (try clear hb); (try clear hb2); (try clear hk); (try clear hi)) | ((with_reducible refine gate_callee (f := 34) rfl ?_); refine goesL_ (some 97) rfl rfl Try.func34 (by kernel_rfl) rfl #[.slice Ao28 t105.length co28] rfl (by (try simp only [List.map_toArray, List.map_cons, List.map_nil]); first | done | rfl | (simp only [List.length_drop, List.length_take]; rfl)) ?_; (with_reducible refine (matrix_Determinant.calls _ _ t105 t128 t129 _ ?side1 ?side2 A39.out).mono ?_); (case side1 => repeat (first | exact (Kd.S_reads' HO_7.out).2.2 | (with_reducible refine Kd.C_alloc ?_ _) | (with_reducible refine Kd.C_drewN ?_ _) | (with_reducible refine Kd.C_drew ?_))); (case side2 => exact (Kd.S_reads' HO_7.out).2.1); rintro e w48 ⟨rfl, hb⟩; refine ⟨_, rfl, ?_⟩; have n0_ := Aside0.mk (Kd.S_below (by (with_reducible repeat (first | apply Kd.S_alloc | apply Kd.S_drewN | apply Kd.S_drew)); exact HO_7.out) hb); have n1_ := Aside0.mk (below_step (by repeat (first | (with_reducible first | exact HB.out | apply below_alloc | apply pw_below_drewN | apply below_drew1) | exact HB.out)) hb); clear HO_7; clear HB; have HO_7 := n0_; have HB := n1_; clear n0_ n1_; (try clear hb); (try clear hb2); (try clear hk); (try clear hi)) | ((with_reducible refine gate_callee (f := 16) rfl ?_); refine goesL_ (some 100) rfl rfl Try.func16 (by kernel_rfl) rfl #[] rfl (by (try simp only [List.map_toArray, List.map_cons, List.map_nil]); first | done | rfl | (simp only [List.length_drop, List.length_take]; rfl)) ?_; (with_reducible refine (kinkeeplaw04_awake.calls  true _ A40.out).mono ?_); rintro e w49 ⟨rfl, hb⟩; refine ⟨_, rfl, ?_⟩; have n0_ := Aside0.mk (Kd.S_below (by (with_reducible repeat (first | apply Kd.S_alloc | apply Kd.S_drewN | apply Kd.S_drew)); exact HO_7.out) hb); have n1_ := Aside0.mk (below_step (by repeat (first | (with_reducible first | exact HB.out | apply below_alloc | apply pw_below_drewN | apply below_drew1) | exact HB.out)) hb); clear HO_7; clear HB; have HO_7 := n0_; have HB := n1_; clear n0_ n1_; (try clear hb); (try clear hb2); (try clear hk); (try clear hi)) | (go_at_call 35; (with_reducible refine (kinkeepref04_Mul.calls kj26 t124 t126 t131 _ A45.out).mono ?_); rintro e w' ⟨rfl, ⟨nd, rfl⟩⟩))
                            go_ret
                            exact ⟨by first | rfl | (simp [errW_none, errW_some] <;> rfl) | (simp [*, errW_none, errW_some] <;> rfl), by repeat (first | (with_reducible first | exact HB.out | apply below_alloc | apply pw_below_drewN | apply below_drew1) | exact HB.out)⟩
                          · rw [if_neg c44] at H
                            have c44b0 : (t129 == 0) = false := beq_eq_false_iff_ne.mpr c44
                            have c44b1 : (t129 != 0) = true := bne_iff_ne.mpr c44
                            obtain rfl := Option.some.inj H
                            go_wp2_with (first | ((with_reducible refine gate_callee (f := 34) rfl ?_); refine goesL_ (some 87) rfl rfl Try.func34 (by kernel_rfl) rfl #[.slice A0 l0.length c0] rfl (by (try simp only [List.map_toArray, List.map_cons, List.map_nil]); first | done | rfl | (simp only [List.length_drop, List.length_take]; rfl)) ?_; (with_reducible refine (matrix_Determinant.calls _ _ l0 t124 t125 _ ?side1 ?side2 A37.out).mono ?_); (case side1 => repeat (first | exact (Kd.C_below HR0.out HB.out) | (with_reducible refine Kd.C_alloc ?_ _) | (with_reducible refine Kd.C_drewN ?_ _) | (with_reducible refine Kd.C_drew ?_))); (case side2 => exact HC0.out); rintro e w50 ⟨rfl, hb⟩; refine ⟨_, rfl, ?_⟩; have n0_ := Aside0.mk (Kd.S_below (by (with_reducible repeat (first | apply Kd.S_alloc | apply Kd.S_drewN | apply Kd.S_drew)); exact HO_7.out) hb); have n1_ := Aside0.mk (below_step (by repeat (first | (with_reducible first | exact HB.out | apply below_alloc | apply pw_below_drewN | apply below_drew1) | exact HB.out)) hb); clear HO_7; clear HB; have HO_7 := n0_; have HB := n1_; clear n0_ n1_; (try clear hb); (try clear hb2); (try clear hk); (try clear hi)) | ((with_reducible refine gate_callee (f := 34) rfl ?_); refine goesL_ (some 92) rfl rfl Try.func34 (by kernel_rfl) rfl #[.slice A1 l1.length c1] rfl (by (try simp only [List.map_toArray, List.map_cons, List.map_nil]); first | done | rfl | (simp only [List.length_drop, List.length_take]; rfl)) ?_; (with_reducible refine (matrix_Determinant.calls _ _ l1 t126 t127 _ ?side1 ?side2 A38.out).mono ?_); (case side1 => repeat (first | exact (Kd.C_below HR1.out HB.out) | (with_reducible refine Kd.C_alloc ?_ _) | (with_reducible refine Kd.C_drewN ?_ _) | (with_reducible refine Kd.C_drew ?_))); (case side2 => exact HC1.out); rintro e w51 ⟨rfl, hb⟩; refine ⟨_, rfl, ?_⟩; have n0_ := Aside0.mk (Kd.S_below (by (with_reducible repeat (first | apply Kd.S_alloc | apply Kd.S_drewN | apply Kd.S_drew)); exact HO_7.out) hb); have n1_ := Aside0.mk (below_step (by repeat (first | (with_reducible first | exact HB.out | apply below_alloc | apply pw_below_drewN | apply below_drew1) | exact HB.out)) hb); clear HO_7; clear HB; have HO_7 := n0_; have HB := n1_; clear n0_ n1_; (try clear hb); (try clear hb2); (try clear hk); (try clear hi)) | ((with_reducible refine gate_callee (f := 34) rfl ?_); refine goesL_ (some 97) rfl rfl Try.func34 (by kernel_rfl) rfl #[.slice Ao28 t105.length co28] rfl (by (try simp only [List.map_toArray, List.map_cons, List.map_nil]); first | done | rfl | (simp only [List.length_drop, List.length_take]; rfl)) ?_; (with_reducible refine (matrix_Determinant.calls _ _ t105 t128 t129 _ ?side1 ?side2 A39.out).mono ?_); (case side1 => repeat (first | exact (Kd.S_reads' HO_7.out).2.2 | (with_reducible refine Kd.C_alloc ?_ _) | (with_reducible refine Kd.C_drewN ?_ _) | (with_reducible refine Kd.C_drew ?_))); (case side2 => exact (Kd.S_reads' HO_7.out).2.1); rintro e w52 ⟨rfl, hb⟩; refine ⟨_, rfl, ?_⟩; have n0_ := Aside0.mk (Kd.S_below (by (with_reducible repeat (first | apply Kd.S_alloc | apply Kd.S_drewN | apply Kd.S_drew)); exact HO_7.out) hb); have n1_ := Aside0.mk (below_step (by repeat (first | (with_reducible first | exact HB.out | apply below_alloc | apply pw_below_drewN | apply below_drew1) | exact HB.out)) hb); clear HO_7; clear HB; have HO_7 := n0_; have HB := n1_; clear n0_ n1_; (try clear hb); (try clear hb2); (try clear hk); (try clear hi)) | ((with_reducible refine gate_callee (f := 16) rfl ?_); refine goesL_ (some 100) rfl rfl Try.func16 (by kernel_rfl) rfl #[] rfl (by (try simp only [List.map_toArray, List.map_cons, List.map_nil]); first | done | rfl | (simp only [List.length_drop, List.length_take]; rfl)) ?_; (with_reducible refine (kinkeeplaw04_awake.calls  true _ A40.out).mono ?_); rintro e w53 ⟨rfl, hb⟩; refine ⟨_, rfl, ?_⟩; have n0_ := Aside0.mk (Kd.S_below (by (with_reducible repeat (first | apply Kd.S_alloc | apply Kd.S_drewN | apply Kd.S_drew)); exact HO_7.out) hb); have n1_ := Aside0.mk (below_step (by repeat (first | (with_reducible first | exact HB.out | apply below_alloc | apply pw_below_drewN | apply below_drew1) | exact HB.out)) hb); clear HO_7; clear HB; have HO_7 := n0_; have HB := n1_; clear n0_ n1_; (try clear hb); (try clear hb2); (try clear hk); (try clear hi)))
                            go_ret
                            exact ⟨by first | rfl | (simp [errW_none, errW_some] <;> rfl) | (simp [*, errW_none, errW_some] <;> rfl), by repeat (first | (with_reducible first | exact HB.out | apply below_alloc | apply pw_below_drewN | apply below_drew1) | exact HB.out)⟩
                        · rw [if_neg c43] at H
                          have c43b0 : (t127 == 0) = false := beq_eq_false_iff_ne.mpr c43
                          have c43b1 : (t127 != 0) = true := bne_iff_ne.mpr c43
                          obtain rfl := Option.some.inj H
                          go_wp2_with (first | ((with_reducible refine gate_callee (f := 34) rfl ?_); refine goesL_ (some 87) rfl rfl Try.func34 (by kernel_rfl) rfl #[.slice A0 l0.length c0] rfl (by (try simp only [List.map_toArray, List.map_cons, List.map_nil]); first | done | rfl | (simp only [List.length_drop, List.length_take]; rfl)) ?_; (with_reducible refine (matrix_Determinant.calls _ _ l0 t124 t125 _ ?side1 ?side2 A37.out).mono ?_); (case side1 => repeat (first | exact (Kd.C_below HR0.out HB.out) | (with_reducible refine Kd.C_alloc ?_ _) | (with_reducible refine Kd.C_drewN ?_ _) | (with_reducible refine Kd.C_drew ?_))); (case side2 => exact HC0.out); rintro e w54 ⟨rfl, hb⟩; refine ⟨_, rfl, ?_⟩; have n0_ := Aside0.mk (Kd.S_below (by (with_reducible repeat (first | apply Kd.S_alloc | apply Kd.S_drewN | apply Kd.S_drew)); exact HO_7.out) hb); have n1_ := Aside0.mk (below_step (by repeat (first | (with_reducible first | exact HB.out | apply below_alloc | apply pw_below_drewN | apply below_drew1) | exact HB.out)) hb); clear HO_7; clear HB; have HO_7 := n0_; have HB := n1_; clear n0_ n1_; (try clear hb); (try clear hb2); (try clear hk); (try clear hi)) | ((with_reducible refine gate_callee (f := 34) rfl ?_); refine goesL_ (some 92) rfl rfl Try.func34 (by kernel_rfl) rfl #[.slice A1 l1.length c1] rfl (by (try simp only [List.map_toArray, List.map_cons, List.map_nil]); first | done | rfl | (simp only [List.length_drop, List.length_take]; rfl)) ?_; (with_reducible refine (matrix_Determinant.calls _ _ l1 t126 t127 _ ?side1 ?side2 A38.out).mono ?_); (case side1 => repeat (first | exact (Kd.C_below HR1.out HB.out) | (with_reducible refine Kd.C_alloc ?_ _) | (with_reducible refine Kd.C_drewN ?_ _) | (with_reducible refine Kd.C_drew ?_))); (case side2 => exact HC1.out); rintro e w55 ⟨rfl, hb⟩; refine ⟨_, rfl, ?_⟩; have n0_ := Aside0.mk (Kd.S_below (by (with_reducible repeat (first | apply Kd.S_alloc | apply Kd.S_drewN | apply Kd.S_drew)); exact HO_7.out) hb); have n1_ := Aside0.mk (below_step (by repeat (first | (with_reducible first | exact HB.out | apply below_alloc | apply pw_below_drewN | apply below_drew1) | exact HB.out)) hb); clear HO_7; clear HB; have HO_7 := n0_; have HB := n1_; clear n0_ n1_; (try clear hb); (try clear hb2); (try clear hk); (try clear hi)) | ((with_reducible refine gate_callee (f := 34) rfl ?_); refine goesL_ (some 97) rfl rfl Try.func34 (by kernel_rfl) rfl #[.slice Ao28 t105.length co28] rfl (by (try simp only [List.map_toArray, List.map_cons, List.map_nil]); first | done | rfl | (simp only [List.length_drop, List.length_take]; rfl)) ?_; (with_reducible refine (matrix_Determinant.calls _ _ t105 t128 t129 _ ?side1 ?side2 A39.out).mono ?_); (case side1 => repeat (first | exact (Kd.S_reads' HO_7.out).2.2 | (with_reducible refine Kd.C_alloc ?_ _) | (with_reducible refine Kd.C_drewN ?_ _) | (with_reducible refine Kd.C_drew ?_))); (case side2 => exact (Kd.S_reads' HO_7.out).2.1); rintro e w56 ⟨rfl, hb⟩; refine ⟨_, rfl, ?_⟩; have n0_ := Aside0.mk (Kd.S_below (by (with_reducible repeat (first | apply Kd.S_alloc | apply Kd.S_drewN | apply Kd.S_drew)); exact HO_7.out) hb); have n1_ := Aside0.mk (below_step (by repeat (first | (with_reducible first | exact HB.out | apply below_alloc | apply pw_below_drewN | apply below_drew1) | exact HB.out)) hb); clear HO_7; clear HB; have HO_7 := n0_; have HB := n1_; clear n0_ n1_; (try clear hb); (try clear hb2); (try clear hk); (try clear hi)) | ((with_reducible refine gate_callee (f := 16) rfl ?_); refine goesL_ (some 100) rfl rfl Try.func16 (by kernel_rfl) rfl #[] rfl (by (try simp only [List.map_toArray, List.map_cons, List.map_nil]); first | done | rfl | (simp only [List.length_drop, List.length_take]; rfl)) ?_; (with_reducible refine (kinkeeplaw04_awake.calls  true _ A40.out).mono ?_); rintro e w57 ⟨rfl, hb⟩; refine ⟨_, rfl, ?_⟩; have n0_ := Aside0.mk (Kd.S_below (by (with_reducible repeat (first | apply Kd.S_alloc | apply Kd.S_drewN | apply Kd.S_drew)); exact HO_7.out) hb); have n1_ := Aside0.mk (below_step (by repeat (first | (with_reducible first | exact HB.out | apply below_alloc | apply pw_below_drewN | apply below_drew1) | exact HB.out)) hb); clear HO_7; clear HB; have HO_7 := n0_; have HB := n1_; clear n0_ n1_; (try clear hb); (try clear hb2); (try clear hk); (try clear hi)))
                          go_ret
                          exact ⟨by first | rfl | (simp [errW_none, errW_some] <;> rfl) | (simp [*, errW_none, errW_some] <;> rfl), by repeat (first | (with_reducible first | exact HB.out | apply below_alloc | apply pw_below_drewN | apply below_drew1) | exact HB.out)⟩
                      · rw [if_neg c42] at H
                        have c42b0 : (t125 == 0) = false := beq_eq_false_iff_ne.mpr c42
                        have c42b1 : (t125 != 0) = true := bne_iff_ne.mpr c42
                        obtain rfl := Option.some.inj H
                        go_wp2_with (first | ((with_reducible refine gate_callee (f := 34) rfl ?_); refine goesL_ (some 87) rfl rfl Try.func34 (by kernel_rfl) rfl #[.slice A0 l0.length c0] rfl (by (try simp only [List.map_toArray, List.map_cons, List.map_nil]); first | done | rfl | (simp only [List.length_drop, List.length_take]; rfl)) ?_; (with_reducible refine (matrix_Determinant.calls _ _ l0 t124 t125 _ ?side1 ?side2 A37.out).mono ?_); (case side1 => repeat (first | exact (Kd.C_below HR0.out HB.out) | (with_reducible refine Kd.C_alloc ?_ _) | (with_reducible refine Kd.C_drewN ?_ _) | (with_reducible refine Kd.C_drew ?_))); (case side2 => exact HC0.out); rintro e w58 ⟨rfl, hb⟩; refine ⟨_, rfl, ?_⟩; have n0_ := Aside0.mk (Kd.S_below (by (with_reducible repeat (first | apply Kd.S_alloc | apply Kd.S_drewN | apply Kd.S_drew)); exact HO_7.out) hb); have n1_ := Aside0.mk (below_step (by repeat (first | (with_reducible first | exact HB.out | apply below_alloc | apply pw_below_drewN | apply below_drew1) | exact HB.out)) hb); clear HO_7; clear HB; have HO_7 := n0_; have HB := n1_; clear n0_ n1_; (try clear hb); (try clear hb2); (try clear hk); (try clear hi)) | ((with_reducible refine gate_callee (f := 34) rfl ?_); refine goesL_ (some 92) rfl rfl Try.func34 (by kernel_rfl) rfl #[.slice A1 l1.length c1] rfl (by (try simp only [List.map_toArray, List.map_cons, List.map_nil]); first | done | rfl | (simp only [List.length_drop, List.length_take]; rfl)) ?_; (with_reducible refine (matrix_Determinant.calls _ _ l1 t126 t127 _ ?side1 ?side2 A38.out).mono ?_); (case side1 => repeat (first | exact (Kd.C_below HR1.out HB.out) | (with_reducible refine Kd.C_alloc ?_ _) | (with_reducible refine Kd.C_drewN ?_ _) | (with_reducible refine Kd.C_drew ?_))); (case side2 => exact HC1.out); rintro e w59 ⟨rfl, hb⟩; refine ⟨_, rfl, ?_⟩; have n0_ := Aside0.mk (Kd.S_below (by (with_reducible repeat (first | apply Kd.S_alloc | apply Kd.S_drewN | apply Kd.S_drew)); exact HO_7.out) hb); have n1_ := Aside0.mk (below_step (by repeat (first | (with_reducible first | exact HB.out | apply below_alloc | apply pw_below_drewN | apply below_drew1) | exact HB.out)) hb); clear HO_7; clear HB; have HO_7 := n0_; have HB := n1_; clear n0_ n1_; (try clear hb); (try clear hb2); (try clear hk); (try clear hi)) | ((with_reducible refine gate_callee (f := 34) rfl ?_); refine goesL_ (some 97) rfl rfl Try.func34 (by kernel_rfl) rfl #[.slice Ao28 t105.length co28] rfl (by (try simp only [List.map_toArray, List.map_cons, List.map_nil]); first | done | rfl | (simp only [List.length_drop, List.length_take]; rfl)) ?_; (with_reducible refine (matrix_Determinant.calls _ _ t105 t128 t129 _ ?side1 ?side2 A39.out).mono ?_); (case side1 => repeat (first | exact (Kd.S_reads' HO_7.out).2.2 | (with_reducible refine Kd.C_alloc ?_ _) | (with_reducible refine Kd.C_drewN ?_ _) | (with_reducible refine Kd.C_drew ?_))); (case side2 => exact (Kd.S_reads' HO_7.out).2.1); rintro e w60 ⟨rfl, hb⟩; refine ⟨_, rfl, ?_⟩; have n0_ := Aside0.mk (Kd.S_below (by (with_reducible repeat (first | apply Kd.S_alloc | apply Kd.S_drewN | apply Kd.S_drew)); exact HO_7.out) hb); have n1_ := Aside0.mk (below_step (by repeat (first | (with_reducible first | exact HB.out | apply below_alloc | apply pw_below_drewN | apply below_drew1) | exact HB.out)) hb); clear HO_7; clear HB; have HO_7 := n0_; have HB := n1_; clear n0_ n1_; (try clear hb); (try clear hb2); (try clear hk); (try clear hi)) | ((with_reducible refine gate_callee (f := 16) rfl ?_); refine goesL_ (some 100) rfl rfl Try.func16 (by kernel_rfl) rfl #[] rfl (by (try simp only [List.map_toArray, List.map_cons, List.map_nil]); first | done | rfl | (simp only [List.length_drop, List.length_take]; rfl)) ?_; (with_reducible refine (kinkeeplaw04_awake.calls  true _ A40.out).mono ?_); rintro e w61 ⟨rfl, hb⟩; refine ⟨_, rfl, ?_⟩; have n0_ := Aside0.mk (Kd.S_below (by (with_reducible repeat (first | apply Kd.S_alloc | apply Kd.S_drewN | apply Kd.S_drew)); exact HO_7.out) hb); have n1_ := Aside0.mk (below_step (by repeat (first | (with_reducible first | exact HB.out | apply below_alloc | apply pw_below_drewN | apply below_drew1) | exact HB.out)) hb); clear HO_7; clear HB; have HO_7 := n0_; have HB := n1_; clear n0_ n1_; (try clear hb); (try clear hb2); (try clear hk); (try clear hi)))
                        go_ret
                        exact ⟨by first | rfl | (simp [errW_none, errW_some] <;> rfl) | (simp [*, errW_none, errW_some] <;> rfl), by repeat (first | (with_reducible first | exact HB.out | apply below_alloc | apply pw_below_drewN | apply below_drew1) | exact HB.out)⟩
                    · replace c41 := Bool.eq_false_iff.mpr c41
                      subst c41
                      have H1 : (some false) = some r := by rw [if_neg (show ¬ (false = true) by decide)] at H; exact H
                      clear H
                      have H := H1
                      clear H1
                      obtain rfl := Option.some.inj H
                      go_wp2_with (first | ((with_reducible refine gate_callee (f := 34) rfl ?_); refine goesL_ (some 87) rfl rfl Try.func34 (by kernel_rfl) rfl #[.slice A0 l0.length c0] rfl (by (try simp only [List.map_toArray, List.map_cons, List.map_nil]); first | done | rfl | (simp only [List.length_drop, List.length_take]; rfl)) ?_; (with_reducible refine (matrix_Determinant.calls _ _ l0 t124 t125 _ ?side1 ?side2 A37.out).mono ?_); (case side1 => repeat (first | exact (Kd.C_below HR0.out HB.out) | (with_reducible refine Kd.C_alloc ?_ _) | (with_reducible refine Kd.C_drewN ?_ _) | (with_reducible refine Kd.C_drew ?_))); (case side2 => exact HC0.out); rintro e w62 ⟨rfl, hb⟩; refine ⟨_, rfl, ?_⟩; have n0_ := Aside0.mk (Kd.S_below (by (with_reducible repeat (first | apply Kd.S_alloc | apply Kd.S_drewN | apply Kd.S_drew)); exact HO_7.out) hb); have n1_ := Aside0.mk (below_step (by repeat (first | (with_reducible first | exact HB.out | apply below_alloc | apply pw_below_drewN | apply below_drew1) | exact HB.out)) hb); clear HO_7; clear HB; have HO_7 := n0_; have HB := n1_; clear n0_ n1_; (try clear hb); (try clear hb2); (try clear hk); (try clear hi)) | ((with_reducible refine gate_callee (f := 34) rfl ?_); refine goesL_ (some 92) rfl rfl Try.func34 (by kernel_rfl) rfl #[.slice A1 l1.length c1] rfl (by (try simp only [List.map_toArray, List.map_cons, List.map_nil]); first | done | rfl | (simp only [List.length_drop, List.length_take]; rfl)) ?_; (with_reducible refine (matrix_Determinant.calls _ _ l1 t126 t127 _ ?side1 ?side2 A38.out).mono ?_); (case side1 => repeat (first | exact (Kd.C_below HR1.out HB.out) | (with_reducible refine Kd.C_alloc ?_ _) | (with_reducible refine Kd.C_drewN ?_ _) | (with_reducible refine Kd.C_drew ?_))); (case side2 => exact HC1.out); rintro e w63 ⟨rfl, hb⟩; refine ⟨_, rfl, ?_⟩; have n0_ := Aside0.mk (Kd.S_below (by (with_reducible repeat (first | apply Kd.S_alloc | apply Kd.S_drewN | apply Kd.S_drew)); exact HO_7.out) hb); have n1_ := Aside0.mk (below_step (by repeat (first | (with_reducible first | exact HB.out | apply below_alloc | apply pw_below_drewN | apply below_drew1) | exact HB.out)) hb); clear HO_7; clear HB; have HO_7 := n0_; have HB := n1_; clear n0_ n1_; (try clear hb); (try clear hb2); (try clear hk); (try clear hi)) | ((with_reducible refine gate_callee (f := 34) rfl ?_); refine goesL_ (some 97) rfl rfl Try.func34 (by kernel_rfl) rfl #[.slice Ao28 t105.length co28] rfl (by (try simp only [List.map_toArray, List.map_cons, List.map_nil]); first | done | rfl | (simp only [List.length_drop, List.length_take]; rfl)) ?_; (with_reducible refine (matrix_Determinant.calls _ _ t105 t128 t129 _ ?side1 ?side2 A39.out).mono ?_); (case side1 => repeat (first | exact (Kd.S_reads' HO_7.out).2.2 | (with_reducible refine Kd.C_alloc ?_ _) | (with_reducible refine Kd.C_drewN ?_ _) | (with_reducible refine Kd.C_drew ?_))); (case side2 => exact (Kd.S_reads' HO_7.out).2.1); rintro e w64 ⟨rfl, hb⟩; refine ⟨_, rfl, ?_⟩; have n0_ := Aside0.mk (Kd.S_below (by (with_reducible repeat (first | apply Kd.S_alloc | apply Kd.S_drewN | apply Kd.S_drew)); exact HO_7.out) hb); have n1_ := Aside0.mk (below_step (by repeat (first | (with_reducible first | exact HB.out | apply below_alloc | apply pw_below_drewN | apply below_drew1) | exact HB.out)) hb); clear HO_7; clear HB; have HO_7 := n0_; have HB := n1_; clear n0_ n1_; (try clear hb); (try clear hb2); (try clear hk); (try clear hi)) | ((with_reducible refine gate_callee (f := 16) rfl ?_); refine goesL_ (some 100) rfl rfl Try.func16 (by kernel_rfl) rfl #[] rfl (by (try simp only [List.map_toArray, List.map_cons, List.map_nil]); first | done | rfl | (simp only [List.length_drop, List.length_take]; rfl)) ?_; (with_reducible refine (kinkeeplaw04_awake.calls  false _ A40.out).mono ?_); rintro e w65 ⟨rfl, hb⟩; refine ⟨_, rfl, ?_⟩; have n0_ := Aside0.mk (Kd.S_below (by (with_reducible repeat (first | apply Kd.S_alloc | apply Kd.S_drewN | apply Kd.S_drew)); exact HO_7.out) hb); have n1_ := Aside0.mk (below_step (by repeat (first | (with_reducible first | exact HB.out | apply below_alloc | apply pw_below_drewN | apply below_drew1) | exact HB.out)) hb); clear HO_7; clear HB; have HO_7 := n0_; have HB := n1_; clear n0_ n1_; (try clear hb); (try clear hb2); (try clear hk); (try clear hi)))
                      go_ret
                      exact ⟨by first | rfl | (simp [errW_none, errW_some] <;> rfl) | (simp [*, errW_none, errW_some] <;> rfl), by repeat (first | (with_reducible first | exact HB.out | apply below_alloc | apply pw_below_drewN | apply below_drew1) | exact HB.out)⟩
end Go.Proofs.Ytpkghpljgjlmjaa.K
/- Sums and determinants over the field of 256 elements, matrices as functions. No program in sight. -/
namespace Kin
set_option linter.unusedVariables false

/-- The sum of f 0 to f (n-1). -/
def bsum : Nat → (Nat → B) → B
  | 0, _ => 0
  | n + 1, f => bsum n f ^^^ f n
theorem bsum_congr {n : Nat} {f g : Nat → B} (h : ∀ j, j < n → f j = g j) : bsum n f = bsum n g := by
  induction n with
  | zero => rfl
  | succ n ih => simp only [bsum]; rw [ih (fun j hj => h j (by omega)), h n (by omega)]
theorem bsum_add (n : Nat) (f g : Nat → B) : bsum n (fun j => f j ^^^ g j) = bsum n f ^^^ bsum n g := by
  induction n with
  | zero => exact (bx_self 0).symm
  | succ n ih => simp only [bsum]; rw [ih, bx_swap4]
theorem bsum_mul (n : Nat) (c : B) (f : Nat → B) : bsum n (fun j => gmul c (f j)) = gmul c (bsum n f) := by
  induction n with
  | zero => simp only [bsum]; rw [gmul_zero]
  | succ n ih => simp only [bsum]; rw [ih, gmul_add_right]
theorem bsum_mul_right (n : Nat) (c : B) (f : Nat → B) : bsum n (fun j => gmul (f j) c) = gmul (bsum n f) c := by
  rw [gmul_comm, ← bsum_mul]
  exact bsum_congr fun j _ => gmul_comm _ _
theorem bsum_zero {n : Nat} {f : Nat → B} (h : ∀ j, j < n → f j = 0) : bsum n f = 0 := by
  induction n with
  | zero => rfl
  | succ n ih => simp only [bsum]; rw [ih (fun j hj => h j (by omega)), h n (by omega), bx_self]
theorem bsum_one {n : Nat} {f : Nat → B} {p : Nat} (hp : p < n) (h : ∀ j, j < n → j ≠ p → f j = 0) : bsum n f = f p := by
  induction n with
  | zero => omega
  | succ n ih =>
    simp only [bsum]
    by_cases e : p = n
    · subst e
      rw [bsum_zero (fun j hj => h j (by omega) (by omega)), zero_bx]
    · rw [ih (by omega) (fun j hj hne => h j (by omega) hne), h n (by omega) (fun x => e x.symm), bx_zero]
theorem bsum_swap (n m : Nat) (f : Nat → Nat → B) : bsum n (fun i => bsum m (fun j => f i j)) = bsum m (fun j => bsum n (fun i => f i j)) := by
  induction n with
  | zero => simp only [bsum]; rw [bsum_zero]; intro j _; rfl
  | succ n ih => simp only [bsum]; rw [ih, bsum_add]
/-- A symmetric double sum without a diagonal is 0. -/
theorem bsum_sym (n : Nat) (h : Nat → Nat → B) (hs : ∀ i j, i < n → j < n → h i j = h j i) (hd : ∀ i, i < n → h i i = 0) : bsum n (fun i => bsum n (fun j => h i j)) = 0 := by
  induction n with
  | zero => rfl
  | succ n ih =>
    rw [show bsum (n + 1) (fun i => bsum (n + 1) (fun j => h i j)) = bsum n (fun i => bsum n (fun j => h i j) ^^^ h i n) ^^^ (bsum n (fun j => h n j) ^^^ h n n) from rfl, bsum_add, ih (fun i j hi hj => hs i j (by omega) (by omega)) (fun i hi => hd i (by omega)), zero_bx, hd n (by omega), bx_zero, bsum_congr (g := fun j => h n j) (fun j hj => hs j n (by omega) (by omega)), bx_self]
/-- j, or the next number from c on. -/
def sk (c j : Nat) : Nat := if j < c then j else j + 1
theorem bsum_skip (n c : Nat) (hc : c ≤ n) (f : Nat → B) : bsum n (fun d => f (sk c d)) = bsum (n + 1) (fun e => if e = c then 0 else f e) := by
  induction n with
  | zero =>
    obtain rfl : c = 0 := by omega
    exact (bx_self 0).symm
  | succ n ih =>
    rw [show bsum (n + 1) (fun d => f (sk c d)) = bsum n (fun d => f (sk c d)) ^^^ f (sk c n) from rfl]
    by_cases e : c = n + 1
    · subst e
      rw [show bsum (n + 1 + 1) (fun e => if e = n + 1 then (0 : B) else f e) = bsum n (fun e => if e = n + 1 then (0 : B) else f e) ^^^ (if n = n + 1 then (0 : B) else f n) ^^^ (if n + 1 = n + 1 then (0 : B) else f (n + 1)) from rfl, if_neg (by omega), if_pos rfl, bx_zero, show sk (n + 1) n = n from if_pos (by omega)]
      congr 1
      exact bsum_congr fun j hj => by rw [if_neg (by omega), show sk (n + 1) j = j from if_pos (by omega)]
    · rw [ih (by omega), show bsum (n + 1 + 1) (fun e => if e = c then (0 : B) else f e) = bsum (n + 1) (fun e => if e = c then (0 : B) else f e) ^^^ (if n + 1 = c then (0 : B) else f (n + 1)) from rfl, if_neg (fun x => e x.symm), show sk c n = n + 1 from if_neg (by omega)]
/-- A matrix as a function. -/
abbrev Mx := Nat → Nat → B
def minor (A : Mx) (c : Nat) : Mx := fun i j => A (i + 1) (sk c j)
/-- The determinant by expansion. -/
def det : Nat → Mx → B
  | 0, _ => 1
  | n + 1, A => bsum (n + 1) (fun c => gmul (A 0 c) (det n (minor A c)))
def upd (A : Mx) (r : Nat) (v : Nat → B) : Mx := fun i j => if i = r then v j else A i j
theorem sk_lt {c j n : Nat} (h : j < n) : sk c j < n + 1 := by unfold sk; split <;> omega
theorem det_congr {n : Nat} : ∀ {A C : Mx}, (∀ i j, i < n → j < n → A i j = C i j) → det n A = det n C := by
  induction n with
  | zero => intro A C _; rfl
  | succ n ih =>
    intro A C h
    simp only [det]
    refine bsum_congr fun c hc => ?_
    rw [h 0 c (by omega) hc, ih (A := minor A c) (C := minor C c) (fun i j hi hj => h (i + 1) (sk c j) (by omega) (sk_lt hj))]
theorem minor_upd_zero (A : Mx) (v : Nat → B) (c : Nat) : minor (upd A 0 v) c = minor A c := by
  funext i j
  simp [minor, upd]
theorem minor_upd_succ (A : Mx) (r : Nat) (v : Nat → B) (c : Nat) : minor (upd A (r + 1) v) c = upd (minor A c) r (fun j => v (sk c j)) := by
  funext i j
  simp [minor, upd]
theorem upd_self (A : Mx) (r : Nat) : upd A r (A r) = A := by
  funext i j
  unfold upd
  split
  · rename_i h; rw [h]
  · rfl
theorem upd_upd (A : Mx) (r : Nat) (u v : Nat → B) : upd (upd A r u) r v = upd A r v := by
  funext i j
  unfold upd
  split <;> rfl
theorem upd_comm (A : Mx) {r s : Nat} (h : r ≠ s) (u v : Nat → B) : upd (upd A r u) s v = upd (upd A s v) r u := by
  funext i j
  unfold upd
  by_cases h1 : i = s
  · rw [if_pos h1, if_neg (by omega), if_pos h1]
  · rw [if_neg h1]
    by_cases h2 : i = r
    · rw [if_pos h2, if_pos h2]
    · rw [if_neg h2, if_neg h2, if_neg h1]
theorem upd_at (A : Mx) (r : Nat) (v : Nat → B) : upd A r v r = v := by
  funext j
  simp [upd]
theorem upd_ne (A : Mx) {r i : Nat} (v : Nat → B) (h : i ≠ r) : upd A r v i = A i := by
  funext j
  simp [upd, h]
/-- The determinant is linear in each row. -/
theorem det_lin {n : Nat} : ∀ (A : Mx) (r : Nat) (s t : B) (u v : Nat → B), r < n → det n (upd A r (fun j => gmul s (u j) ^^^ gmul t (v j))) = gmul s (det n (upd A r u)) ^^^ gmul t (det n (upd A r v)) := by
  induction n with
  | zero => intro A r s t u v h; omega
  | succ n ih =>
    intro A r s t u v hr
    simp only [det]
    rw [← bsum_mul, ← bsum_mul, ← bsum_add]
    refine bsum_congr fun c hc => ?_
    cases r with
    | zero =>
      rw [minor_upd_zero, minor_upd_zero, minor_upd_zero, upd_at, upd_at, upd_at, gmul_add_left, gmul_assoc, gmul_assoc]
    | succ r =>
      rw [minor_upd_succ, minor_upd_succ, minor_upd_succ, upd_ne _ _ (by omega), upd_ne _ _ (by omega), upd_ne _ _ (by omega), ih _ _ _ _ _ _ (by omega), gmul_add_right, gmul_left_comm, gmul_left_comm (A 0 c) t]
theorem det_add {n : Nat} (A : Mx) (r : Nat) (u v : Nat → B) (h : r < n) : det n (upd A r (fun j => u j ^^^ v j)) = det n (upd A r u) ^^^ det n (upd A r v) := by
  have := det_lin A r 1 1 u v h
  simp only [one_gmul] at this
  exact this
theorem det_scale {n : Nat} (A : Mx) (r : Nat) (s : B) (u : Nat → B) (h : r < n) : det n (upd A r (fun j => gmul s (u j))) = gmul s (det n (upd A r u)) := by
  have := det_lin A r s 0 u u h
  simp only [zero_gmul, bx_zero] at this
  exact this
/-- Two columns left out. -/
def sk2 (lo hi j : Nat) : Nat := if j < lo then j else if j + 1 < hi then j + 1 else j + 2
theorem sk_sk (c d j : Nat) : sk c (sk d j) = sk2 (min c (sk c d)) (max c (sk c d)) j := by
  unfold sk sk2
  by_cases h : d < c
  · rw [if_pos h, show min c d = d by omega, show max c d = c by omega]
    by_cases h1 : j < d
    · rw [if_pos h1, if_pos h1, if_pos (by omega)]
    · rw [if_neg h1, if_neg h1]
  · rw [if_neg h, show min c (d + 1) = c by omega, show max c (d + 1) = d + 1 by omega]
    by_cases h1 : j < d
    · rw [if_pos h1]
      by_cases h2 : j < c
      · rw [if_pos h2, if_pos h2]
      · rw [if_neg h2, if_neg h2, if_pos (by omega)]
    · rw [if_neg h1, if_neg (by omega), if_neg (by omega), if_neg (by omega)]
theorem det_eq01 {n : Nat} (A : Mx) (h : ∀ j, j < n + 2 → A 0 j = A 1 j) : det (n + 2) A = 0 := by
  have e : det (n + 2) A = bsum (n + 2) (fun c => bsum (n + 2) (fun e => if e = c then 0 else gmul (A 0 c) (gmul (A 0 e) (det n (fun i j => A (i + 2) (sk2 (min c e) (max c e) j)))))) := by
    rw [show det (n + 2) A = bsum (n + 2) (fun c => gmul (A 0 c) (det (n + 1) (minor A c))) from rfl]
    refine bsum_congr fun c hc => ?_
    rw [← bsum_skip (n + 1) c (by omega) (fun e => gmul (A 0 c) (gmul (A 0 e) (det n (fun i j => A (i + 2) (sk2 (min c e) (max c e) j))))), bsum_mul (n + 1) (A 0 c)]
    congr 1
    rw [show det (n + 1) (minor A c) = bsum (n + 1) (fun d => gmul (minor A c 0 d) (det n (minor (minor A c) d))) from rfl]
    refine bsum_congr fun d hd => ?_
    congr 1
    · show A (0 + 1) (sk c d) = A 0 (sk c d)
      exact (h _ (sk_lt hd)).symm
    · refine det_congr fun i j hi hj => ?_
      show A (i + 1 + 1) (sk c (sk d j)) = A (i + 2) _
      rw [sk_sk]
  rw [e]
  refine bsum_sym (n + 2) (fun c e => if e = c then 0 else gmul (A 0 c) (gmul (A 0 e) (det n (fun i j => A (i + 2) (sk2 (min c e) (max c e) j))))) (fun i j hi hj => ?_) (fun i hi => if_pos rfl)
  by_cases hij : i = j
  · subst hij; rfl
  · show (if j = i then _ else _) = (if i = j then _ else _)
    rw [if_neg (fun x => hij x.symm), if_neg hij, gmul_left_comm, Nat.min_comm, Nat.max_comm]
theorem det_eq_adj {n : Nat} : ∀ (r : Nat) (A : Mx), r + 1 < n → (∀ j, j < n → A r j = A (r + 1) j) → det n A = 0 := by
  induction n with
  | zero => intro r A h; omega
  | succ n ih =>
    intro r A hr h
    cases r with
    | zero =>
      obtain ⟨n, rfl⟩ : ∃ m, n = m + 1 := ⟨n - 1, by omega⟩
      exact det_eq01 A h
    | succ r =>
      simp only [det]
      refine bsum_zero fun c hc => ?_
      rw [ih r (minor A c) (by omega) (fun j hj => h (sk c j) (sk_lt hj)), gmul_zero]
def swp (A : Mx) (a b : Nat) : Mx := upd (upd A a (A b)) b (A a)
theorem swp_row (A : Mx) (a b i : Nat) : swp A a b i = A (if i = b then a else if i = a then b else i) := by
  funext j
  unfold swp upd
  by_cases h : i = b
  · rw [if_pos h, if_pos h]
  · rw [if_neg h, if_neg h]
    by_cases h2 : i = a
    · rw [if_pos h2, if_pos h2]
    · rw [if_neg h2, if_neg h2]
theorem det_swap_adj {n : Nat} (A : Mx) (r : Nat) (h : r + 1 < n) : det n (swp A r (r + 1)) = det n A := by
  have key : ∀ u v : Nat → B, det n (upd (upd A r u) (r + 1) v) = det n (upd (upd A r v) (r + 1) u) := by
    intro u v
    have z : ∀ w : Nat → B, det n (upd (upd A r w) (r + 1) w) = 0 := fun w => det_eq_adj r _ h (fun j hj => by rw [upd_ne _ _ (by omega), upd_at, upd_at])
    have h0 := z (fun j => u j ^^^ v j)
    rw [det_add _ _ _ _ h, upd_comm A (by omega), det_add _ _ _ _ (by omega), upd_comm A (by omega) (fun j => u j ^^^ v j) v, det_add _ _ _ _ (by omega), ← upd_comm A (by omega) u u, ← upd_comm A (by omega) v u, ← upd_comm A (by omega) u v, ← upd_comm A (by omega) v v, z u, z v, zero_bx, bx_zero] at h0
    have e1 : upd (upd A r u) (r + 1) v = upd (upd A (r + 1) v) r u := upd_comm A (by omega) u v
    have e2 : upd (upd A r v) (r + 1) u = upd (upd A (r + 1) u) r v := upd_comm A (by omega) v u
    rw [e1, e2]
    exact (bx_eq_zero.1 h0).symm
  unfold swp
  rw [key (A (r + 1)) (A r), upd_self]
  congr 1
  funext i j
  unfold upd
  split
  · rename_i h; rw [h]
  · rfl
theorem det_swap {n : Nat} (m : Nat) : ∀ (A : Mx) (a : Nat), a + m + 1 < n → det n (swp A a (a + m + 1)) = det n A := by
  induction m with
  | zero => intro A a h; exact det_swap_adj A a h
  | succ m ih =>
    intro A a h
    have e : swp A a (a + (m + 1) + 1) = swp (swp (swp A (a + m + 1) (a + m + 2)) a (a + m + 1)) (a + m + 1) (a + m + 2) := by
      funext i
      rw [swp_row, swp_row, swp_row, swp_row]
      congr 1
      repeat' split
      all_goals omega
    rw [e, det_swap_adj _ _ (by omega), ih _ _ (by omega), det_swap_adj _ _ (by omega)]
theorem swp_comm (A : Mx) (a b : Nat) : swp A a b = swp A b a := by
  unfold swp
  by_cases h : a = b
  · subst h; rfl
  · rw [upd_comm A h]
theorem swp_same (A : Mx) (a : Nat) : swp A a a = A := by
  unfold swp
  rw [upd_upd, upd_self]
theorem det_swp {n : Nat} (A : Mx) (a b : Nat) (ha : a < n) (hb : b < n) : det n (swp A a b) = det n A := by
  by_cases h : a = b
  · subst h; rw [swp_same]
  · by_cases h1 : a < b
    · have := det_swap (b - a - 1) A a (n := n) (by omega)
      rwa [show a + (b - a - 1) + 1 = b by omega] at this
    · have := det_swap (a - b - 1) A b (n := n) (by omega)
      rw [show b + (a - b - 1) + 1 = a by omega] at this
      rw [swp_comm]
      exact this
theorem det_eq_rows {n : Nat} (A : Mx) (a b : Nat) (hab : a ≠ b) (ha : a < n) (hb : b < n) (h : ∀ j, j < n → A a j = A b j) : det n A = 0 := by
  have main : ∀ a b, a < b → b < n → (∀ j, j < n → A a j = A b j) → det n A = 0 := by
    intro a b hlt hb h
    rw [← det_swp A (a + 1) b (by omega) hb]
    refine det_eq_adj a _ (by omega) (fun j hj => ?_)
    simp only [swp, upd]
    rw [if_neg (by omega), if_neg (by omega)]
    by_cases e : a + 1 = b
    · rw [if_pos e, h j hj, e]
    · rw [if_neg e, if_pos trivial, h j hj]
  by_cases h1 : a < b
  · exact main a b h1 hb h
  · exact main b a (by omega) ha (fun j hj => (h j hj).symm)
theorem det_addrow {n : Nat} (A : Mx) (i k : Nat) (c : B) (hi : i < n) (hk : k < n) (hik : i ≠ k) : det n (upd A i (fun j => A i j ^^^ gmul c (A k j))) = det n A := by
  have := det_lin A i 1 c (A i) (A k) hi
  simp only [one_gmul] at this
  rw [this, upd_self, det_eq_rows (upd A i (A k)) i k hik hi hk (fun j _ => by rw [upd_at, upd_ne _ _ (fun e => hik e.symm)]), gmul_zero, bx_zero]
theorem det_zero_row {n : Nat} (A : Mx) (r : Nat) (hr : r < n) (h : ∀ j, j < n → A r j = 0) : det n A = 0 := by
  have := det_scale A r 0 (A r) hr
  rw [zero_gmul] at this
  rw [← this]
  refine det_congr fun i j hi hj => ?_
  unfold upd
  split
  · rename_i e; rw [e, h j hj]; exact (zero_gmul _).symm
  · rfl
theorem det_id : ∀ n : Nat, det n (fun i j => if i = j then 1 else 0) = 1 := by
  intro n
  induction n with
  | zero => rfl
  | succ n ih =>
    simp only [det]
    rw [bsum_one (p := 0) (by omega) (fun j hj hne => by rw [if_neg (fun e => hne e.symm), zero_gmul]), if_pos rfl, one_gmul]
    refine Eq.trans ?_ ih
    refine det_congr fun i j hi hj => ?_
    show (if i + 1 = sk 0 j then (1 : B) else 0) = _
    rw [show sk 0 j = j + 1 from if_neg (by omega)]
    by_cases e : i = j
    · rw [if_pos e, if_pos (by omega)]
    · rw [if_neg e, if_neg (by omega)]
end Kin
/- Row operations over the field of 256 elements, matrices as functions. No program in sight. -/
namespace Kin
set_option linter.unusedVariables false

/-- The product of two matrices, n elements in the middle. -/
def mulF (n : Nat) (A C : Mx) : Mx := fun i j => bsum n (fun t => gmul (A i t) (C t j))
/-- Rows k and q exchanged, row k times s, then for every other row i: plus g i times row k. -/
def rowop (k q : Nat) (s : B) (g : Nat → B) (A : Mx) : Mx := fun i j =>
  if i = k then gmul (swp A k q k j) s else swp A k q i j ^^^ gmul (gmul (swp A k q k j) s) (g i)
theorem rowop_eq (k q : Nat) (s : B) (g : Nat → B) (A : Mx) (j : Nat) : rowop k q s g A k j = gmul (swp A k q k j) s := if_pos rfl
theorem rowop_ne {k q : Nat} (s : B) (g : Nat → B) (A : Mx) {i : Nat} (h : i ≠ k) (j : Nat) : rowop k q s g A i j = swp A k q i j ^^^ gmul (gmul (swp A k q k j) s) (g i) := if_neg h
def idF : Mx := fun i j => if i = j then 1 else 0
theorem idF_eq (i : Nat) : idF i i = 1 := if_pos rfl
theorem idF_ne {i j : Nat} (h : i ≠ j) : idF i j = 0 := if_neg h
theorem swp_le {a b i len : Nat} (ha : a < len) (hb : b < len) (hi : i < len) : (if i = b then a else if i = a then b else i) < len := by
  split
  · exact ha
  · split
    · exact hb
    · exact hi
theorem swp_mul (n : Nat) (A C : Mx) (a b : Nat) : swp (mulF n A C) a b = mulF n (swp A a b) C := by
  funext i j
  rw [swp_row]
  unfold mulF
  rw [swp_row]
theorem rowop_mul (n k q : Nat) (s : B) (g : Nat → B) (A C : Mx) : rowop k q s g (mulF n A C) = mulF n (rowop k q s g A) C := by
  funext i j
  by_cases h : i = k
  · subst h
    rw [rowop_eq, swp_mul]
    unfold mulF
    rw [← bsum_mul_right]
    refine bsum_congr fun t _ => ?_
    rw [rowop_eq, gmul_assoc, gmul_assoc, gmul_comm s]
  · rw [rowop_ne _ _ _ h, swp_mul]
    unfold mulF
    rw [← bsum_mul_right, ← bsum_mul_right, ← bsum_add]
    refine bsum_congr fun t _ => ?_
    rw [rowop_ne _ _ _ h, gmul_add_left]
    congr 1
    simp only [gmul_assoc, gmul_comm, gmul_left_comm]
theorem rowop_add (k q : Nat) (s : B) (g : Nat → B) (A C : Mx) : rowop k q s g (fun i j => A i j ^^^ C i j) = fun i j => rowop k q s g A i j ^^^ rowop k q s g C i j := by
  funext i j
  unfold rowop
  by_cases h : i = k
  · rw [if_pos h, if_pos h, if_pos h]
    simp only [swp_row]
    rw [gmul_add_left]
  · rw [if_neg h, if_neg h, if_neg h]
    simp only [swp_row]
    rw [gmul_add_left, gmul_add_left, bx_swap4]
theorem rowop_col {len k q : Nat} (hk : k < len) (hq : q < len) (s : B) (g : Nat → B) {A C : Mx} {j j' : Nat} (h : ∀ i, i < len → A i j = C i j') : ∀ i, i < len → rowop k q s g A i j = rowop k q s g C i j' := by
  have hs : ∀ i, i < len → swp A k q i j = swp C k q i j' := by
    intro i hi
    rw [swp_row, swp_row]
    exact h _ (swp_le hk hq hi)
  intro i hi
  by_cases e : i = k
  · subst e
    rw [rowop_eq, rowop_eq, hs i hi]
  · rw [rowop_ne _ _ _ e, rowop_ne _ _ _ e, hs i hi, hs k hk]
theorem rowop_zero {len k q : Nat} (hk : k < len) (hq : q < len) {s : B} (hs : s ≠ 0) (g : Nat → B) (A : Mx) (j : Nat) (h : ∀ i, i < len → rowop k q s g A i j = 0) : ∀ i, i < len → A i j = 0 := by
  have h0 : swp A k q k j = 0 := by
    have := h k hk
    unfold rowop at this
    rw [if_pos rfl] at this
    rcases gmul_eq_zero.1 this with e | e
    · exact e
    · exact absurd e hs
  have h1 : ∀ i, i < len → swp A k q i j = 0 := by
    intro i hi
    by_cases e : i = k
    · rw [e]; exact h0
    · have := h i hi
      unfold rowop at this
      rw [if_neg e, h0, zero_gmul, zero_gmul, bx_zero] at this
      exact this
  intro i hi
  have := h1 (if i = q then k else if i = k then q else i) (swp_le hk hq hi)
  rw [swp_row] at this
  have e : (if (if i = q then k else if i = k then q else i) = q then k else if (if i = q then k else if i = k then q else i) = k then q else (if i = q then k else if i = k then q else i)) = i := by
    by_cases a : i = q
    · subst a
      rw [if_pos rfl]
      by_cases b : k = i
      · rw [if_pos b, b]
      · rw [if_neg b, if_pos rfl]
    · rw [if_neg a]
      by_cases b : i = k
      · subst b
        rw [if_pos rfl, if_pos rfl]
      · rw [if_neg b, if_neg a, if_neg b]
  rwa [e] at this
/-- The other rows cleared up to row m. -/
def clr (k : Nat) (g : Nat → B) (m : Nat) (A : Mx) : Mx := fun i j => if i ≠ k ∧ i < m then A i j ^^^ gmul (A k j) (g i) else A i j
theorem det_clr {n k : Nat} (hk : k < n) (g : Nat → B) (A : Mx) (m : Nat) (hm : m ≤ n) : det n (clr k g m A) = det n A := by
  induction m with
  | zero =>
    congr 1
    funext i j
    unfold clr
    rw [if_neg (by omega)]
  | succ m ih =>
    rw [← ih (by omega)]
    by_cases e : m = k
    · congr 1
      funext i j
      unfold clr
      by_cases h : i ≠ k ∧ i < m
      · rw [if_pos h, if_pos ⟨h.1, by omega⟩]
      · rw [if_neg h, if_neg (by omega)]
    · rw [← det_addrow (clr k g m A) m k (g m) (by omega) hk e]
      congr 1
      funext i j
      by_cases h : i = m
      · subst h
        rw [upd_at]
        unfold clr
        rw [if_pos ⟨e, by omega⟩, if_neg (by omega), if_neg (by omega), gmul_comm]
      · rw [upd_ne _ _ h]
        unfold clr
        by_cases h2 : i ≠ k ∧ i < m
        · rw [if_pos h2, if_pos ⟨h2.1, by omega⟩]
        · rw [if_neg h2, if_neg (by omega)]
theorem det_rowop {n k q : Nat} (hk : k < n) (hq : q < n) (s : B) (g : Nat → B) (A : Mx) : det n (rowop k q s g A) = gmul s (det n A) := by
  rw [← det_swp A k q hk hq]
  have h2 := det_scale (swp A k q) k s (swp A k q k) hk
  rw [upd_self] at h2
  rw [← h2, ← det_clr hk g _ n (Nat.le_refl _)]
  refine det_congr fun i j hi hj => ?_
  unfold clr
  by_cases h : i = k
  · subst h
    rw [rowop_eq, if_neg (by omega), upd_at, gmul_comm]
  · rw [rowop_ne _ _ _ h, if_pos ⟨h, hi⟩, rowop_eq, upd_ne _ _ h, bx_cancel_right]
/-- F is a series of row operations on the first len rows; d is what they took out of the determinant. -/
structure Ops (len : Nat) (d : B) (F : Mx → Mx) : Prop where
  mul : ∀ n A C, F (mulF n A C) = mulF n (F A) C
  add : ∀ A C, F (fun i j => A i j ^^^ C i j) = fun i j => F A i j ^^^ F C i j
  col : ∀ {A C : Mx} {j j' : Nat}, (∀ i, i < len → A i j = C i j') → ∀ i, i < len → F A i j = F C i j'
  zero : ∀ A j, (∀ i, i < len → F A i j = 0) → ∀ i, i < len → A i j = 0
  det : ∀ A, gmul d (det len (F A)) = det len A
  ne : d ≠ 0
theorem Ops.none (len : Nat) : Ops len 1 (fun A => A) :=
  ⟨fun _ _ _ => rfl, fun _ _ => rfl, fun h => h, fun _ _ h => h, fun _ => one_gmul _, by decide⟩
theorem Ops.one {len k q : Nat} (hk : k < len) (hq : q < len) {p : B} (hp : p ≠ 0) (g : Nat → B) : Ops len p (rowop k q (ginv p) g) :=
  ⟨fun n A C => rowop_mul n k q _ g A C, fun A C => rowop_add k q _ g A C, fun h => rowop_col hk hq _ g h, fun A j h => rowop_zero hk hq (ginv_ne_zero hp) g A j h, fun A => by rw [det_rowop hk hq, ← gmul_assoc, gmul_ginv p hp, one_gmul], hp⟩
theorem Ops.comp {len : Nat} {d e : B} {F G : Mx → Mx} (h : Ops len d F) (h' : Ops len e G) : Ops len (gmul d e) (fun A => G (F A)) :=
  ⟨fun n A C => by rw [h.mul, h'.mul], fun A C => by rw [h.add, h'.add], fun x => h'.col (h.col x), fun A j x => h.zero A j (h'.zero (F A) j x), fun A => by rw [gmul_assoc, h'.det, h.det], gmul_ne_zero h.ne h'.ne⟩
theorem mulF_id_left {n : Nat} (A : Mx) {i : Nat} (hi : i < n) (j : Nat) : mulF n idF A i j = A i j := by
  unfold mulF
  rw [bsum_one hi (fun t _ hne => by rw [idF_ne (fun e => hne e.symm), zero_gmul]), idF_eq, one_gmul]
theorem mulF_congr {n : Nat} {A A' C C' : Mx} {i j : Nat} (h1 : ∀ t, t < n → A i t = A' i t) (h2 : ∀ t, t < n → C t j = C' t j) : mulF n A C i j = mulF n A' C' i j :=
  bsum_congr fun t ht => by rw [h1 t ht, h2 t ht]
theorem mulF_assoc (n m : Nat) (A C E : Mx) : mulF m (mulF n A C) E = mulF n A (mulF m C E) := by
  funext i j
  unfold mulF
  rw [show (fun t => gmul (bsum n fun t_1 => gmul (A i t_1) (C t_1 t)) (E t j)) = fun t => bsum n (fun u => gmul (A i u) (gmul (C u t) (E t j))) from by
    funext t
    rw [← bsum_mul_right]
    exact bsum_congr fun u _ => gmul_assoc _ _ _]
  rw [bsum_swap]
  refine bsum_congr fun u _ => ?_
  rw [bsum_mul]
/-- Rows that become the identity: their determinant is what was taken out. -/
theorem Ops.det_full {n : Nat} {d : B} {F : Mx → Mx} (h : Ops n d F) {A : Mx} (hI : ∀ i j, i < n → j < n → F A i j = idF i j) : Kin.det n A = d := by
  rw [← h.det, det_congr hI, show Kin.det n idF = 1 from det_id n, gmul_one]
theorem Ops.det_short {n : Nat} {d : B} {F : Mx → Mx} (h : Ops n d F) {A : Mx} {r : Nat} (hr : r < n) (hz : ∀ j, j < n → F A r j = 0) : Kin.det n A = 0 := by
  rw [← h.det, det_zero_row _ r hr hz, gmul_zero]
theorem Ops.det_mul {n : Nat} {d : B} {F : Mx → Mx} (h : Ops n d F) {A C : Mx} (hI : (∀ i j, i < n → j < n → F A i j = idF i j) ∨ ∃ r, r < n ∧ ∀ j, j < n → F A r j = 0) : Kin.det n (mulF n A C) = gmul (Kin.det n A) (Kin.det n C) := by
  rcases hI with hI | ⟨r, hr, hz⟩
  · rw [h.det_full hI, ← h.det, h.mul]
    congr 1
    refine det_congr fun i j hi hj => ?_
    rw [mulF_congr (A' := fun i j => idF i j) (C' := C) (fun t ht => hI i t hi ht) (fun t _ => rfl), mulF_id_left C hi]
  · rw [h.det_short hr hz, zero_gmul]
    refine h.det_short hr (fun j hj => ?_)
    rw [h.mul]
    exact bsum_zero fun t ht => by rw [hz t ht, zero_gmul]
end Kin
/- The elimination, plain: its row operations, and the form that it gives. -/
namespace Go.Proofs.Ytpkghpljgjlmjaa.K
open Kin
set_option linter.unusedVariables false
/-- The elements of a list of rows, 0 outside. -/
def fn (R : List (List B)) : Mx := fun i j => (R.getD i []).getD j 0
theorem fn_out {R : List (List B)} {i : Nat} (h : R.length ≤ i) (j : Nat) : fn R i j = 0 := by
  have e : R.getD i [] = [] := by rw [List.getD_eq_getElem?_getD, List.getElem?_eq_none h]; rfl
  unfold fn
  rw [e]
  rfl
theorem fn_set (R : List (List B)) (a : Nat) (r : List B) (ha : a < R.length) : fn (R.set a r) = upd (fn R) a (fun j => r.getD j 0) := by
  funext i j
  by_cases h : i = a
  · subst h
    rw [upd_at]
    have e : (R.set i r).getD i [] = r := by rw [List.getD_eq_getElem?_getD, List.getElem?_set_self ha]; rfl
    unfold fn
    rw [e]
  · rw [upd_ne _ _ h]
    have e : (R.set a r).getD i [] = R.getD i [] := by rw [List.getD_eq_getElem?_getD, List.getElem?_set_ne (fun e => h e.symm), ← List.getD_eq_getElem?_getD]
    unfold fn
    rw [e]
theorem fn_swap (R : List (List B)) {a b : Nat} (ha : a < R.length) (hb : b < R.length) : fn (swapRows R a b) = swp (fn R) a b := by
  unfold swapRows
  rw [fn_set _ _ _ (by rw [List.length_set]; exact hb), fn_set _ _ _ ha]
  rfl
theorem getD_map_zero (f : B → B) (h0 : f 0 = 0) (l : List B) (j : Nat) : (l.map f).getD j 0 = f (l.getD j 0) := by
  rw [List.getD_eq_getElem?_getD, List.getD_eq_getElem?_getD, List.getElem?_map]
  cases l[j]? with
  | none => exact h0.symm
  | some x => rfl
theorem fn_scale (R : List (List B)) {r : Nat} (c : Nat) (hr : r < R.length) : fn (scaleRow R r c) = upd (fn R) r (fun j => gmul (fn R r j) (ginv (fn R r c))) := by
  unfold scaleRow
  rw [fn_set _ _ _ hr]
  congr 1
  funext j
  rw [getD_map_zero (fun x => gmul x _) (zero_gmul _)]
  rfl
theorem getD_addS {r pr : List B} (h : r.length = pr.length) (c : B) (j : Nat) : (addS r pr c).getD j 0 = r.getD j 0 ^^^ gmul (pr.getD j 0) c := by
  unfold addS
  rw [List.getD_eq_getElem?_getD, List.getElem?_zipWith, List.getD_eq_getElem?_getD, List.getD_eq_getElem?_getD]
  by_cases hj : j < r.length
  · rw [List.getElem?_eq_getElem hj, List.getElem?_eq_getElem (by omega)]
    rfl
  · rw [List.getElem?_eq_none (by omega), List.getElem?_eq_none (by omega)]
    simp [zero_gmul]
theorem fn_clear {R : List (List B)} {m : Nat} (hm : ∀ r ∈ R, r.length = m) {row : Nat} (col : Nat) (hr : row < R.length) : fn (clearRows R row col) = fun i j => if i = row then fn R row j else fn R i j ^^^ gmul (fn R row j) (fn R i col) := by
  funext i j
  by_cases hi : i < R.length
  · have e : (clearRows R row col).getD i [] = if i ≠ row then clearRow (R.getD row []) col (R.getD i []) else R.getD i [] := by
      unfold clearRows
      rw [List.getD_eq_getElem?_getD, List.getElem?_mapIdx, List.getElem?_eq_getElem hi, List.getD_eq_getElem?_getD, List.getD_eq_getElem?_getD, List.getElem?_eq_getElem hi]
      rfl
    show ((clearRows R row col).getD i []).getD j 0 = _
    rw [e]
    by_cases h : i = row
    · rw [if_neg (fun x => x h), if_pos h, h]; rfl
    · rw [if_pos h, if_neg h]
      unfold clearRow
      by_cases hz : (R.getD i []).getD col 0 = 0
      · rw [if_pos hz]
        show fn R i j = fn R i j ^^^ gmul (fn R row j) ((R.getD i []).getD col 0)
        rw [hz, gmul_zero, bx_zero]
      · rw [if_neg hz, getD_addS (by rw [hm _ (getD_mem' hi), hm _ (getD_mem' hr)])]
        rfl
  · rw [fn_out (by rw [clearRows_length]; omega), if_neg (by omega), fn_out (R := R) (i := i) (by omega), fn_out (R := R) (i := i) (by omega), gmul_zero, bx_zero]
theorem elimStep_fn {s : ES} {m : Nat} (hm : ∀ r ∈ s.1, r.length = m) {col q : Nat} (h : findRow s.1 s.2.1.length col = some q) :
    fn (elimStep s col).1 = rowop s.2.1.length q (ginv (fn s.1 q col)) (fun i => swp (fn s.1) s.2.1.length q i col) (fn s.1) ∧ (elimStep s col).2.1 = s.2.1 ++ [col] ∧ (elimStep s col).2.2 = gmul s.2.2 (fn s.1 q col) := by
  have hq := findRow_some h
  have hS := fn_swap s.1 (a := s.2.1.length) (b := q) (by omega) (by omega)
  have hp : swp (fn s.1) s.2.1.length q s.2.1.length col = fn s.1 q col := by
    rw [swp_row]
    by_cases e : s.2.1.length = q
    · rw [if_pos e, e]
    · rw [if_neg e, if_pos rfl]
  have e : elimStep s col = (clearRows (scaleRow (swapRows s.1 s.2.1.length q) s.2.1.length col) s.2.1.length col, s.2.1 ++ [col], gmul s.2.2 (((swapRows s.1 s.2.1.length q).getD s.2.1.length []).getD col 0)) := by
    unfold elimStep
    rw [h]
  rw [e]
  refine ⟨?_, rfl, ?_⟩
  · have h1 := swapRows_rows hm (i := s.2.1.length) (j := q) (by omega) (by omega)
    have h2 := scaleRow_rows h1 (i := s.2.1.length) col (by rw [swapRows_length]; omega)
    show fn (clearRows (scaleRow (swapRows s.1 s.2.1.length q) s.2.1.length col) s.2.1.length col) = _
    rw [fn_clear h2 col (by rw [scaleRow_length, swapRows_length]; omega), fn_scale _ col (by rw [swapRows_length]; omega), hS, hp]
    funext i j
    unfold rowop
    by_cases hi : i = s.2.1.length
    · rw [if_pos hi, if_pos hi, upd_at]
    · rw [if_neg hi, if_neg hi, upd_ne _ _ hi, upd_at]
  · show gmul s.2.2 (fn (swapRows s.1 s.2.1.length q) s.2.1.length col) = _
    rw [hS, hp]
theorem elim_ops {R : List (List B)} {m : Nat} (hm : ∀ r ∈ R, r.length = m) (cols : Nat) : ∃ F, Ops R.length (elimRun R cols).2.2 F ∧ fn (elimRun R cols).1 = F (fn R) := by
  induction cols with
  | zero => exact ⟨_, Ops.none _, rfl⟩
  | succ n ih =>
    obtain ⟨F, hF, hf⟩ := ih
    rw [elimRun_succ]
    have hl := elimRun_length R n
    cases hfind : findRow (elimRun R n).1 (elimRun R n).2.1.length n with
    | none =>
      have e : elimStep (elimRun R n) n = elimRun R n := by
        unfold elimStep
        rw [hfind]
      rw [e]
      exact ⟨F, hF, hf⟩
    | some q =>
      obtain ⟨h1, h2, h3⟩ := elimStep_fn (elimRun_rows hm n) hfind
      have hq := findRow_some hfind
      rw [h3, h1]
      refine ⟨_, hF.comp (Ops.one (k := (elimRun R n).2.1.length) (q := q) (by omega) (by omega) hq.2.2 (fun i => swp (fn (elimRun R n).1) (elimRun R n).2.1.length q i n)), ?_⟩
      rw [← hf]
      rfl
/-- The form that the elimination gives. -/
structure Form (A : Mx) (len cols : Nat) (piv : List Nat) : Prop where
  le : piv.length ≤ len
  inc : ∀ a b, a < b → b < piv.length → piv.getD a 0 < piv.getD b 0
  lt : ∀ a, a < piv.length → piv.getD a 0 < cols
  unit : ∀ a, a < piv.length → ∀ i, i < len → A i (piv.getD a 0) = if i = a then 1 else 0
  zero : ∀ i, piv.length ≤ i → i < len → ∀ j, j < cols → A i j = 0
theorem getD_append_left {l : List Nat} {x a : Nat} (h : a < l.length) : (l ++ [x]).getD a 0 = l.getD a 0 := by
  rw [List.getD_eq_getElem?_getD, List.getElem?_append_left h, ← List.getD_eq_getElem?_getD]
theorem getD_append_at (l : List Nat) (x : Nat) : (l ++ [x]).getD l.length 0 = x := by
  rw [List.getD_eq_getElem?_getD, List.getElem?_append_right (Nat.le_refl _)]
  simp
theorem findRow_none {R : List (List B)} {row col : Nat} (h : findRow R row col = none) {i : Nat} (h1 : row ≤ i) (h2 : i < R.length) : fn R i col = 0 := by
  unfold findRow at h
  rw [List.find?_range_eq_none] at h
  have := h i h2
  simp only [Bool.not_eq_true', Bool.and_eq_false_iff, decide_eq_false_iff_not] at this
  rcases this with e | e
  · exact absurd h1 e
  · exact Decidable.not_not.1 e
theorem elim_form {R : List (List B)} {m : Nat} (hm : ∀ r ∈ R, r.length = m) (cols : Nat) : Form (fn (elimRun R cols).1) R.length cols (elimRun R cols).2.1 := by
  induction cols with
  | zero => exact ⟨Nat.zero_le _, fun a b h hb => absurd hb (Nat.not_lt_zero _), fun a h => absurd h (Nat.not_lt_zero _), fun a h => absurd h (Nat.not_lt_zero _), fun _ _ _ j hj => absurd hj (Nat.not_lt_zero _)⟩
  | succ n ih =>
    rw [elimRun_succ]
    have hl := elimRun_length R n
    cases hfind : findRow (elimRun R n).1 (elimRun R n).2.1.length n with
    | none =>
      have e : elimStep (elimRun R n) n = elimRun R n := by
        unfold elimStep
        rw [hfind]
      rw [e]
      refine ⟨ih.le, ih.inc, fun a h => by have := ih.lt a h; omega, ih.unit, fun i h1 h2 j hj => ?_⟩
      by_cases ej : j = n
      · subst ej
        exact findRow_none hfind h1 (by omega)
      · exact ih.zero i h1 h2 j (by omega)
    | some q =>
      obtain ⟨h1, h2, h3⟩ := elimStep_fn (elimRun_rows hm n) hfind
      have hq := findRow_some hfind
      rw [h1, h2]
      generalize hk : (elimRun R n).2.1.length = k at *
      generalize hA : fn (elimRun R n).1 = A at *
      generalize hpv : (elimRun R n).2.1 = piv at *
      have hp : A q n ≠ 0 := by rw [← hA]; exact hq.2.2
      have hSk : ∀ j, swp A k q k j = A q j := by
        intro j
        rw [swp_row]
        by_cases e : k = q
        · rw [if_pos e, e]
        · rw [if_neg e, if_pos rfl]
      have hl1 : (piv ++ [n]).length = k + 1 := by simp; omega
      have unitn : ∀ i, i < R.length → rowop k q (ginv (A q n)) (fun i => swp A k q i n) A i n = if i = k then 1 else 0 := by
        intro i hi
        unfold rowop
        by_cases e : i = k
        · rw [if_pos e, if_pos e, hSk, gmul_ginv _ hp]
        · rw [if_neg e, if_neg e, hSk, gmul_ginv _ hp, one_gmul, bx_self]
      refine ⟨by omega, fun a b hab hb => ?_, fun a ha => ?_, fun a ha i hi => ?_, fun i g1 g2 j hj => ?_⟩
      · rw [hl1] at hb
        rw [getD_append_left (by omega)]
        by_cases e : b = k
        · subst e
          rw [show (piv ++ [n]).getD b 0 = n by rw [← hk]; exact getD_append_at piv n]
          exact ih.lt a (by omega)
        · rw [getD_append_left (by omega)]
          exact ih.inc a b hab (by omega)
      · rw [hl1] at ha
        by_cases e : a = k
        · subst e
          rw [show (piv ++ [n]).getD a 0 = n by rw [← hk]; exact getD_append_at piv n]
          omega
        · rw [getD_append_left (by omega)]
          have := ih.lt a (by omega)
          omega
      · rw [hl1] at ha
        by_cases e : a = k
        · subst e
          rw [show (piv ++ [n]).getD a 0 = n by rw [← hk]; exact getD_append_at piv n]
          exact unitn i hi
        · have hak : a < k := by omega
          rw [getD_append_left (by omega)]
          have hz : A q (piv.getD a 0) = 0 := by
            rw [ih.unit a (by omega) q (by omega), if_neg (by omega)]
          unfold rowop
          rw [hSk, hz, zero_gmul, zero_gmul]
          by_cases e1 : i = k
          · rw [if_pos e1, if_neg (by omega)]
          · rw [if_neg e1, bx_zero, swp_row]
            by_cases e2 : i = q
            · rw [if_pos e2, ih.unit a (by omega) k (by omega), if_neg (by omega), if_neg (by omega)]
            · rw [if_neg e2, if_neg e1]
              exact ih.unit a (by omega) i hi
      · rw [hl1] at g1
        by_cases e : j = n
        · subst e
          rw [unitn i g2, if_neg (by omega)]
        · have hz : A q j = 0 := ih.zero q (by omega) (by omega) j (by omega)
          unfold rowop
          rw [hSk, hz, zero_gmul, zero_gmul, if_neg (by omega), bx_zero, swp_row]
          refine ih.zero _ ?_ ?_ j (by omega)
          · split
            · omega
            · split <;> omega
          · split
            · omega
            · split <;> omega
end Go.Proofs.Ytpkghpljgjlmjaa.K
/- Products of the program and of the reference, plain: both are the sums of products. -/
namespace Go.Proofs.Ytpkghpljgjlmjaa.K
open Go.RowKit Go.Proofs.YtpkghpljgjlmjaaW.PrintWords Go.Proofs.YtpkghpljgjlmjaaW.PrintLast Go.Proofs.YtpkghpljgjlmjaaW.PrintMore Kin
set_option linter.unusedVariables false
/-- The elements el i k in rows of cols. -/
def tabM (rows cols : Nat) (el : Nat → Nat → B) : List (List B) := (List.range rows).map fun i => (List.range cols).map fun k => el i k
theorem tabM_length (rows cols : Nat) (el : Nat → Nat → B) : (tabM rows cols el).length = rows := by simp [tabM]
theorem tabM_rows (rows cols : Nat) (el : Nat → Nat → B) : ∀ r ∈ tabM rows cols el, r.length = cols := by
  intro r hr
  obtain ⟨i, _, rfl⟩ := List.mem_map.1 hr
  simp
theorem tabM_fn {rows cols : Nat} (el : Nat → Nat → B) {i k : Nat} (hi : i < rows) (hk : k < cols) : fn (tabM rows cols el) i k = el i k := by
  have e : (tabM rows cols el).getD i [] = (List.range cols).map fun k => el i k := by
    unfold tabM
    rw [List.getD_eq_getElem?_getD, List.getElem?_map, List.getElem?_range hi]
    rfl
  unfold fn
  rw [e, List.getD_eq_getElem?_getD, List.getElem?_map, List.getElem?_range hk]
  rfl
theorem row_at {A : List (List B)} {i : Nat} (h : i < A.length) : A.getD i [] = A[i] := by
  rw [List.getD_eq_getElem?_getD, List.getElem?_eq_getElem h]; rfl
theorem mat_ext {A C : List (List B)} {r c : Nat} (h1 : A.length = r) (h2 : C.length = r) (hA : ∀ x ∈ A, x.length = c) (hC : ∀ x ∈ C, x.length = c) (h : ∀ i j, i < r → j < c → fn A i j = fn C i j) : A = C := by
  refine List.ext_getElem (by omega) (fun i g1 g2 => ?_)
  have a := hA _ (List.getElem_mem g1)
  have b := hC _ (List.getElem_mem g2)
  refine List.ext_getElem (by omega) (fun j g3 g4 => ?_)
  have := h i j (by omega) (by omega)
  unfold fn at this
  rw [row_at g1, row_at g2, List.getD_eq_getElem?_getD, List.getD_eq_getElem?_getD, List.getElem?_eq_getElem g3, List.getElem?_eq_getElem g4] at this
  exact this
def mulM (A C : List (List B)) (cols : Nat) : List (List B) := tabM A.length cols (mulF C.length (fn A) (fn C))
theorem applyPart_getD {n : Nat} {row : List B} {bs : List (List B)} (hb : ∀ b ∈ bs, b.length = n) (c : Nat) : ∀ k, k ≤ row.length → k ≤ bs.length → (applyPart n row bs k).getD c 0 = bsum k (fun j => gmul (row.getD j 0) (fn bs j c)) := by
  intro k
  induction k with
  | zero =>
    intro _ _
    rw [applyPart_zero, List.getD_eq_getElem?_getD]
    by_cases h : c < n
    · rw [List.getElem?_replicate, if_pos h]; rfl
    · rw [List.getElem?_replicate, if_neg h]; rfl
  | succ k ih =>
    intro h1 h2
    rw [applyPart_succ n row bs k (by omega) (by omega), getD_addS (by rw [applyPart_length n row bs hb, hb _ (getD_mem' (by omega))]), ih (by omega) (by omega), gmul_comm (((bs.getD k []).getD c 0)) (row.getD k 0)]
    rfl
theorem applyM_eq {n : Nat} {M Bs : List (List B)} (hM : ∀ r ∈ M, r.length = Bs.length) (hb : ∀ b ∈ Bs, b.length = n) : applyM n M Bs = mulM M Bs n := by
  have hl : ∀ r ∈ M, (applyRow n r Bs).length = n := by
    intro r hr
    rw [← applyPart_all n r Bs r.length (Nat.le_refl _)]
    exact applyPart_length n r Bs hb _
  refine mat_ext (r := M.length) (c := n) (by simp [applyM]) (tabM_length _ _ _) ?_ (tabM_rows _ _ _) (fun i j hi hj => ?_)
  · intro x hx
    obtain ⟨r, hr, rfl⟩ := List.mem_map.1 hx
    exact hl r hr
  · rw [mulM, tabM_fn _ hi hj]
    have e : (applyM n M Bs).getD i [] = applyRow n (M.getD i []) Bs := by
      unfold applyM
      rw [List.getD_eq_getElem?_getD, List.getElem?_map, List.getElem?_eq_getElem hi, row_at hi]
      rfl
    have hr := hM _ (getD_mem' hi)
    unfold fn
    rw [e, ← applyPart_all n _ Bs (M.getD i []).length (Nat.le_refl _), applyPart_getD hb j _ (Nat.le_refl _) (by omega), hr]
    rfl
section
variable {A C : List (List B)} {cols : Nat}
end
/-- What Mul answers: the product, or an error. -/
theorem mul_up (A C : List (List B)) (hA : validB A = true) (hC : validB C = true) (hl : colsN A = C.length) {k : Nat} (hk : 100 ≤ k) : matrix_Mul.f k (up2 A) (up2 C) = some (up2 (mulM A C (colsN C)), 0) := by
  obtain ⟨k, rfl⟩ : ∃ j, k = j + 1 := ⟨k - 1, by omega⟩
  obtain ⟨a1, a2, a3⟩ := validB_lim hA
  obtain ⟨b1, b2, b3⟩ := validB_lim hC
  unfold matrix_Mul.f
  rw [matrix_Valid.f, matrix_Valid.f, validB_up2, validB_up2, hA, hC, columns_eq, colsN_up2, hl, up2_length]
  simp only [Option.bind_some, if_pos, matrix_Mul.j0]
  rw [if_neg (by simp), up2_length, up2_length]
  by_cases h0 : C.length = 0
  · rw [if_pos (by omega)]
    have e : C = [] := List.eq_nil_of_length_eq_zero h0
    subst e
    have hz := zero_eq A.length 0 (by omega) (by omega) (k := k) (by omega)
    rw [show ((0 : Nat) : Int) = 0 from rfl] at hz
    rw [hz]
    simp only [Option.bind_some]
    rw [zeros_up2]
    congr 3
    refine mat_ext (r := A.length) (c := 0) (by simp) (tabM_length _ _ _) ?_ (tabM_rows _ _ _) (fun i j _ hj => absurd hj (by omega))
    intro x hx
    rw [List.eq_of_mem_replicate hx]; rfl
  · rw [if_neg (by omega), apply_up A C hA hl.symm b3 (by omega)]
    simp only [Option.bind_some]
    rw [applyM_eq (fun r hr => by rw [a3 r hr, hl]) b3]
theorem mul_bad (l0 l1 : List (List Int)) (h : ¬ (validB l0 = true ∧ validB l1 = true ∧ colsN l0 = l1.length)) {k : Nat} (hk : 1 ≤ k) : matrix_Mul.f k l0 l1 = some ([], 1) := by
  obtain ⟨k, rfl⟩ : ∃ j, k = j + 1 := ⟨k - 1, by omega⟩
  unfold matrix_Mul.f
  rw [matrix_Valid.f, matrix_Valid.f, columns_eq]
  simp only [Option.bind_some, matrix_Mul.j0]
  by_cases h0 : validB l0 = true
  · rw [if_pos h0]
    by_cases h1 : validB l1 = true
    · rw [if_pos h1, if_pos]
      rw [bne_iff_ne]
      intro e
      exact h ⟨h0, h1, by omega⟩
    · rw [if_neg h1]; rfl
  · rw [if_neg h0]; rfl
end Go.Proofs.Ytpkghpljgjlmjaa.K
/- Determinants, plain: the elimination's is the one by expansion; determinants multiply. -/
namespace Go.Proofs.Ytpkghpljgjlmjaa.K
open Go.RowKit Go.Proofs.YtpkghpljgjlmjaaW.PrintWords Go.Proofs.YtpkghpljgjlmjaaW.PrintLast Go.Proofs.YtpkghpljgjlmjaaW.PrintMore Kin
set_option linter.unusedVariables false
theorem inc_id {A : Mx} {n : Nat} {piv : List Nat} (h : Form A n n piv) (hl : piv.length = n) : ∀ a, a < n → piv.getD a 0 = a := by
  have lo : ∀ a, a < n → a ≤ piv.getD a 0 := by
    intro a
    induction a with
    | zero => intro _; exact Nat.zero_le _
    | succ a ih =>
      intro ha
      have := ih (by omega)
      have := h.inc a (a + 1) (by omega) (by omega)
      omega
  have hi : ∀ m a, a + m + 1 = n → piv.getD a 0 ≤ a := by
    intro m
    induction m with
    | zero =>
      intro a ha
      have := h.lt a (by omega)
      omega
    | succ m ih =>
      intro a ha
      have h1 := ih (a + 1) (by omega)
      have h2 := h.inc a (a + 1) (by omega) (by omega)
      omega
  intro a ha
  have := lo a ha
  have := hi (n - 1 - a) a (by omega)
  omega
/-- The elimination of a square matrix ends with the identity or with a row of zeros. -/
theorem elim_square {M : List (List B)} {n : Nat} (hn : M.length = n) (hm : ∀ r ∈ M, r.length = n) : ∃ F, Ops n (elimRun M n).2.2 F ∧ fn (elimRun M n).1 = F (fn M) ∧
    ((elimRun M n).2.1.length = n ∧ (∀ i j, i < n → j < n → F (fn M) i j = idF i j) ∨ (elimRun M n).2.1.length < n ∧ ∃ r, r < n ∧ ∀ j, j < n → F (fn M) r j = 0) := by
  obtain ⟨F, hF, hf⟩ := elim_ops hm n
  have hform := elim_form hm n
  rw [hn] at hF hform
  refine ⟨F, hF, hf, ?_⟩
  have hle := hform.le
  by_cases h : (elimRun M n).2.1.length = n
  · refine .inl ⟨h, fun i j hi hj => ?_⟩
    have hid := inc_id hform h j hj
    have := hform.unit j (by omega) i hi
    rw [hid] at this
    rw [← hf, this]
    rfl
  · refine .inr ⟨by omega, n - 1, by omega, fun j hj => ?_⟩
    rw [← hf]
    exact hform.zero (n - 1) (by omega) (by omega) j hj
theorem detE_eq {M : List (List B)} {n : Nat} (hn : M.length = n) (hm : ∀ r ∈ M, r.length = n) : detE M = Kin.det n (fn M) := by
  obtain ⟨F, hF, hf, h⟩ := elim_square hn hm
  unfold detE
  rw [hn]
  rcases h with ⟨hl, hI⟩ | ⟨hl, r, hr, hz⟩
  · rw [if_neg (by omega), hF.det_full hI]
  · rw [if_pos hl, hF.det_short hr hz]
theorem detE_mul {A C : List (List B)} {n : Nat} (ha : A.length = n) (hA : ∀ r ∈ A, r.length = n) (hc : C.length = n) (hC : ∀ r ∈ C, r.length = n) : detE (mulM A C n) = gmul (detE A) (detE C) := by
  obtain ⟨F, hF, hf, h⟩ := elim_square ha hA
  have hl : (mulM A C n).length = n := by rw [mulM, tabM_length, ha]
  rw [detE_eq hl (tabM_rows _ _ _), detE_eq ha hA, detE_eq hc hC]
  rw [← hF.det_mul (A := fn A) (C := fn C) (by
    rcases h with ⟨_, hI⟩ | ⟨_, r, hr, hz⟩
    · exact .inl hI
    · exact .inr ⟨r, hr, hz⟩)]
  refine det_congr fun i j hi hj => ?_
  rw [mulM, tabM_fn _ (by omega) hj, hc]
theorem colsN_rows {M : List (List B)} {c : Nat} (h : ∀ r ∈ M, r.length = c) (h0 : 0 < M.length) : colsN M = c := by
  cases M with
  | nil => simp at h0
  | cons a t => exact h a List.mem_cons_self
theorem validB_tab {M : List (List B)} {c : Nat} (h : ∀ r ∈ M, r.length = c) (h1 : M.length ≤ 64) (h2 : c ≤ 64) : validB M = true := by
  by_cases h0 : 0 < M.length
  · have := colsN_rows h h0
    simp only [validB, Bool.and_eq_true, decide_eq_true_eq, List.all_eq_true]
    exact ⟨h1, by omega, fun r hr => by rw [h r hr, this]⟩
  · have : M = [] := List.eq_nil_of_length_eq_zero (by omega)
    subst this
    rfl
theorem mul_assoc_M {A C E : List (List B)} (n m c : Nat) (hc : C.length = n) (he : E.length = m) : mulM (mulM A C m) E c = mulM A (mulM C E c) c := by
  have l1 : (mulM A C m).length = A.length := by rw [mulM, tabM_length]
  have l2 : (mulM C E c).length = C.length := by rw [mulM, tabM_length]
  refine mat_ext (r := A.length) (c := c) (by rw [mulM, tabM_length, l1]) (by rw [mulM, tabM_length]) (tabM_rows _ _ _) (tabM_rows _ _ _) (fun i j hi hj => ?_)
  have e1 : fn (mulM (mulM A C m) E c) i j = mulF m (mulF n (fn A) (fn C)) (fn E) i j := by
    unfold mulM at l1 ⊢
    rw [tabM_fn _ (by omega) hj, he]
    exact mulF_congr (fun t ht => by rw [tabM_fn _ hi ht, hc]) (fun t _ => rfl)
  have e2 : fn (mulM A (mulM C E c) c) i j = mulF n (fn A) (mulF m (fn C) (fn E)) i j := by
    unfold mulM at l2 ⊢
    rw [tabM_fn _ hi hj, l2, hc]
    exact mulF_congr (fun t _ => rfl) (fun t ht => by rw [tabM_fn _ (by omega) hj, he])
  rw [e1, e2, mulF_assoc]
end Go.Proofs.Ytpkghpljgjlmjaa.K
/- The plain law of MatrixAssociates: what the printed function computes is true. -/
namespace Go.Proofs.Ytpkghpljgjlmjaa.Pure
open Go.RowKit Go.Proofs.Ytpkghpljgjlmjaa.K Kin
set_option linter.unusedVariables false
theorem assoc_j2 (A C P : List (List B)) (h : squareB A = true → squareB C = true → squareB P = true ∧ detE P = gmul (detE A) (detE C)) {k : Nat} (hk : 20 ≤ k) : kinkeeplaw04_MatrixAssociates.j2 (k + 1) (up2 A) (up2 C) (up2 P) false = some true := by
  have dn : ∀ M : List (List B), squareB M = false → matrix_Determinant.f (up2 M) = some (0, 1) := by
    intro M h
    unfold matrix_Determinant.f
    rw [squareB_up2, h]; rfl
  have dx : ∀ M : List (List B), ∃ r, matrix_Determinant.f (up2 M) = some r := by
    intro M
    cases h : squareB M with
    | true => exact ⟨_, determinant_up M h⟩
    | false => exact ⟨_, dn M h⟩
  simp only [kinkeeplaw04_MatrixAssociates.j2, Bool.false_eq_true, if_false]
  rw [kinkeeplaw04_awake.f]
  cases hA : squareB A with
  | false =>
    obtain ⟨r2, e2⟩ := dx C
    obtain ⟨r3, e3⟩ := dx P
    rw [dn A hA, e2, e3]
    rfl
  | true =>
    rw [determinant_up A hA]
    cases hC : squareB C with
    | false =>
      obtain ⟨r3, e3⟩ := dx P
      rw [dn C hC, e3]
      rfl
    | true =>
      obtain ⟨h1, h2⟩ := h hA hC
      rw [determinant_up C hC, determinant_up P h1]
      simp only [Option.bind_some, if_true]
      rw [refmul_b _ _ (by omega), h2]
      simp
theorem MatrixAssociates (A : List (List B)) (hA : (up2 A).length ≤ 9223372036854775807) (C : List (List B)) (hC : (up2 C).length ≤ 9223372036854775807) (E : List (List B)) (hE : (up2 E).length ≤ 9223372036854775807) : ∃ k, kinkeeplaw04_MatrixAssociates.f k (up2 A) (up2 C) (up2 E) = some true := by
  refine ⟨(up2 A).length + (up2 C).length + (up2 E).length + 1000 + 3, ?_⟩
  generalize hk : (up2 A).length + (up2 C).length + (up2 E).length + 1000 = k
  have F : kinkeeplaw04_MatrixAssociates.f (k + 3) (up2 A) (up2 C) (up2 E) = kinkeeplaw04_MatrixAssociates.j0 (k + 3) (up2 A) (up2 C) (up2 E) (!(fewB (up2 A) 5 && (fewB (up2 C) 5 && fewB (up2 E) 5))) := by
    unfold kinkeeplaw04_MatrixAssociates.f
    rw [show (5 : Int) = ((5 : Nat) : Int) from rfl, few_b (up2 A) 5 hA (by omega), few_b (up2 C) 5 hC (by omega), few_b (up2 E) 5 hE (by omega)]
    cases fewB (up2 A) 5 <;> cases fewB (up2 C) 5 <;> rfl
  have tl : ∀ x0 x1 x2 x7 x9, kinkeeplaw04_MatrixAssociates.j1 (k + 2) x0 x1 x2 x7 x9 true = some true := by
    intro x0 x1 x2 x7 x9
    simp only [kinkeeplaw04_MatrixAssociates.j1, if_true, kinkeeplaw04_awake.f]
    rfl
  rw [F]
  cases hf : (fewB (up2 A) 5 && (fewB (up2 C) 5 && fewB (up2 E) 5)) with
  | false =>
    simp only [kinkeeplaw04_MatrixAssociates.j0, Bool.not_false, if_true, kinkeeplaw04_awake.f]
    rfl
  | true =>
    simp only [Bool.and_eq_true] at hf
    obtain ⟨a1, a2⟩ := fewB_true hf.1
    obtain ⟨c1, c2⟩ := fewB_true hf.2.1
    obtain ⟨e1, e2⟩ := fewB_true hf.2.2
    rw [up2_length] at a1 c1 e1
    simp only [kinkeeplaw04_MatrixAssociates.j0, Bool.not_true, Bool.false_eq_true, if_false]
    by_cases h1 : validB (up2 A) = true ∧ validB (up2 C) = true ∧ colsN (up2 A) = (up2 C).length
    · by_cases h2 : validB (up2 C) = true ∧ validB (up2 E) = true ∧ colsN (up2 C) = (up2 E).length
      · have vA : validB A = true := by rw [← validB_up2]; exact h1.1
        have vC : validB C = true := by rw [← validB_up2]; exact h1.2.1
        have vE : validB E = true := by rw [← validB_up2]; exact h2.2.1
        have lA : colsN A = C.length := by have := h1.2.2; rwa [colsN_up2, up2_length] at this
        have lC : colsN C = E.length := by have := h2.2.2; rwa [colsN_up2, up2_length] at this
        obtain ⟨p1, p2, p3⟩ := validB_lim vA
        obtain ⟨q1, q2, q3⟩ := validB_lim vC
        obtain ⟨r1, r2, r3⟩ := validB_lim vE
        rw [mul_up A C vA vC lA (by omega), mul_up C E vC vE lC (by omega)]
        simp only [Option.bind_some, if_true]
        by_cases z1 : C.length = 0
        · rw [if_pos (by rw [up2_length]; omega)]
          exact tl _ _ _ _ _
        · rw [if_neg (by rw [up2_length]; omega), refcols_b, colsN_up2]
          simp only [Option.bind_some]
          by_cases z2 : colsN C = 0
          · rw [z2]
            exact tl _ _ _ _ _
          · rw [show (((colsN C : Nat) : Int) == 0) = false by rw [beq_eq_false_iff_ne]; omega]
            have hA0 : 0 < A.length := by
              cases A with
              | nil => exfalso; apply z1; rw [← lA]; rfl
              | cons a t => simp
            have lab : (mulM A C (colsN C)).length = A.length := by rw [mulM, tabM_length]
            have lbc : (mulM C E (colsN E)).length = C.length := by rw [mulM, tabM_length]
            have rab : ∀ r ∈ mulM A C (colsN C), r.length = colsN C := tabM_rows _ _ _
            have rbc : ∀ r ∈ mulM C E (colsN E), r.length = colsN E := tabM_rows _ _ _
            have cab : colsN (mulM A C (colsN C)) = colsN C := colsN_rows rab (by omega)
            have cbc : colsN (mulM C E (colsN E)) = colsN E := colsN_rows rbc (by omega)
            have vab := validB_tab rab (by omega) q2
            have vbc := validB_tab rbc (by omega) r2
            simp only [kinkeeplaw04_MatrixAssociates.j1, Bool.false_eq_true, if_false]
            rw [mul_up _ E vab vE (by rw [cab, lC]) (by omega), mul_up A _ vA vbc (by rw [lA, lbc]) (by omega), cbc, lC, mul_assoc_M C.length E.length (colsN E) rfl rfl]
            simp only [Option.bind_some, if_true]
            rw [same_self _ (by rw [up2_length, mulM, tabM_length]; omega) (by rw [up2_length, mulM, tabM_length]; omega)]
            simp only [Option.bind_some, Bool.not_true]
            refine assoc_j2 A C (mulM A C E.length) (fun sA sC => ?_) (by omega)
            obtain ⟨_, sA2⟩ := squareB_lim sA
            obtain ⟨_, sC2⟩ := squareB_lim sC
            have eA : colsN A = A.length := colsN_rows sA2 hA0
            have eC : colsN C = C.length := colsN_rows sC2 (by omega)
            have hCA : C.length = A.length := by omega
            have hEA : E.length = A.length := by omega
            rw [hEA]
            rw [← hCA]
            refine ⟨?_, detE_mul hCA.symm (fun r hr => by rw [sA2 r hr, hCA]) rfl sC2⟩
            have hv := validB_tab (M := mulM A C C.length) (tabM_rows _ _ _) (by rw [mulM, tabM_length]; omega) (by omega)
            have hcc : colsN (mulM A C C.length) = C.length := colsN_rows (tabM_rows _ _ _) (by rw [mulM, tabM_length]; omega)
            unfold squareB
            rw [hv, hcc, show (mulM A C C.length).length = A.length by rw [mulM, tabM_length], hCA]
            simp
      · rw [mul_bad (up2 C) (up2 E) h2 (by omega)]
        obtain ⟨r, hr⟩ : ∃ r, matrix_Mul.f (k + 2) (up2 A) (up2 C) = some (r, 0) := by
          have vA : validB A = true := by rw [← validB_up2]; exact h1.1
          have vC : validB C = true := by rw [← validB_up2]; exact h1.2.1
          have lA : colsN A = C.length := by have := h1.2.2; rwa [colsN_up2, up2_length] at this
          exact ⟨_, mul_up A C vA vC lA (by omega)⟩
        rw [hr]
        simp only [Option.bind_some, if_true]
        rw [if_neg (by decide)]
        exact tl _ _ _ _ _
    · rw [mul_bad (up2 A) (up2 C) h1 (by omega)]
      obtain ⟨r, hr⟩ : ∃ r, matrix_Mul.f (k + 2) (up2 C) (up2 E) = some r := by
        by_cases h2 : validB (up2 C) = true ∧ validB (up2 E) = true ∧ colsN (up2 C) = (up2 E).length
        · have vC : validB C = true := by rw [← validB_up2]; exact h2.1
          have vE : validB E = true := by rw [← validB_up2]; exact h2.2.1
          have lC : colsN C = E.length := by have := h2.2.2; rwa [colsN_up2, up2_length] at this
          exact ⟨_, mul_up C E vC vE lC (by omega)⟩
        · exact ⟨_, mul_bad _ _ h2 (by omega)⟩
      rw [hr]
      simp only [Option.bind_some]
      rw [if_neg (by decide)]
      exact tl _ _ _ _ _
end Go.Proofs.Ytpkghpljgjlmjaa.Pure
