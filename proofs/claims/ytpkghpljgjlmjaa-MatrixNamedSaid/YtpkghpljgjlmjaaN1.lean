/- Walks and plain facts behind one law of package matrix: part 1. No conditions. -/
import Derived.Test.YtpkghpljgjlmjaaProg
import Derived.Below
import Derived.Deep.Draws
import Derived.Deep.AppendLies
import Derived.Maps.AppendAt
import Derived.OwnWalk
import Derived.Laws.BytesArg
import Derived.Laws.MakeOwn
import Derived.Laws.OwnMore
import Derived.Deep.OwnRows
import Derived.Tactics
import Derived.Lib.ConvBytes
import Derived.Laws.Slices
import Derived.WalkKit
import Derived.KernelRfl
import Derived.RowKit3
import Derived.Deep.LoopGhost
import Derived.Deep.QuietTactic
import Derived.BigQuiet
import Derived.WideLaws
import Derived.Deep.DeepCutAuto
import Derived.Deep.CutBlock
import Derived.Deep.RegionHeld3
import Derived.Laws.Rows
import Derived.Lib.AppendStr
import Derived.ArgAppend
import Derived.Laws.IdiomCopy
import Derived.OrdersHeld
import Derived.Laws.BitsLemmas
import Derived.RowKit
import Derived.Test.YtpkghpljgjlmjaaWWords
import Derived.Test.YtpkghpljgjlmjaaWLast
import Derived.Test.YtpkghpljgjlmjaaWTab
import Derived.Test.YtpkghpljgjlmjaaWQPut
import Derived.Test.YtpkghpljgjlmjaaWApart
import Derived.Test.YtpkghpljgjlmjaaWArr
import Derived.Test.YtpkghpljgjlmjaaWZeros
import Derived.Test.YtpkghpljgjlmjaaWFoot
import Derived.Test.YtpkghpljgjlmjaaWKept
import Derived.Test.YtpkghpljgjlmjaaWShare
import Derived.Test.YtpkghpljgjlmjaaWN
import Derived.Test.YtpkghpljgjlmjaaWRepsOne
import Derived.Test.YtpkghpljgjlmjaaWGuard
import Derived.Test.YtpkghpljgjlmjaaWNEv
import Derived.Test.YtpkghpljgjlmjaaWMore
import Derived.WalkSpells
import Derived.Laws.BitsAllLaws
-- Lines of this claim, written by the session's own program kprint.py (it runs print.py).
namespace Go.Proofs.Ytpkghpljgjlmjaa.K
open Go.RowKit Go.Proofs.YtpkghpljgjlmjaaW.PrintWords Go.Proofs.YtpkghpljgjlmjaaW.PrintLast Go.Proofs.YtpkghpljgjlmjaaW.PrintMore
attribute [local go_sem] max2_int min2_int max_two min_two max_three min_three max_four min_four   -- for this text's walks alone
set_option linter.unusedVariables false
set_option linter.unusedSimpArgs false



def errW : Option Int → Value
  | none => .nilIface
  | some c => .iface 0 (.int .i64 c)
theorem errW_none : errW none = .nilIface := rfl
theorem errW_some (c : Int) : errW (some c) = .iface 0 (.int .i64 c) := rfl

theorem info5 : (Try.prog.info? 5).map (fun i => (i.zero, i.size, i.bytes)) = some (some (.int .u8 0), 1, 1) := by kernel_rfl
theorem info34 : (Try.prog.info? 34).map (fun i => (i.zero, i.size, i.bytes)) = some (some (.slice none 0 0), 1, 24) := by kernel_rfl
-- the values' own types
def rd_L1 (xs : List (List Int)) (i : Int) : (List Int) := xs.getD i.toNat ([] : List Int)
theorem at_L1 {w : World} {A : Option Addr} {n : Nat} {xs : List (List Int)} (h : Kd.C (Kd.slice 5 (Kd.int .u8)) w A n xs) (i : Int) (h0 : 0 ≤ i) (h1 : i < n) : ∃ ad A0 c0, A = some ad ∧ w.cell? (ad.add i.toNat) = some (.slice A0 (rd_L1 xs i).length c0) ∧ (rd_L1 xs i).length ≤ c0 ∧ (Kd.int .u8).C w A0 (rd_L1 xs i).length (rd_L1 xs i) := by
  obtain ⟨ad, c, e, _, hK, hc0⟩ := Kd.C_get h ([] : List Int) i h0 h1
  have hc : ∀ j u, c[j]? = some u → w.cell? (ad.add (i.toNat * 1 + j)) = some u := hc0
  obtain ⟨A0, c0, rfl, l0, g0⟩ := hK
  exact ⟨ad, A0, c0, e, by have hq := hc 0 _ rfl; rwa [Nat.mul_one, Nat.add_zero] at hq, l0, g0⟩

end Go.Proofs.Ytpkghpljgjlmjaa.K
-- Lines of this claim, written by the session's own program kprint.py (it runs print.py).
namespace Go.Proofs.Ytpkghpljgjlmjaa.K
open Go.RowKit Go.Proofs.YtpkghpljgjlmjaaW.PrintWords Go.Proofs.YtpkghpljgjlmjaaW.PrintLast Go.Proofs.YtpkghpljgjlmjaaW.PrintMore
attribute [local go_sem] max2_int min2_int max_two min_two max_three min_three max_four min_four   -- for this text's walks alone
set_option linter.unusedVariables false
set_option linter.unusedSimpArgs false









end Go.Proofs.Ytpkghpljgjlmjaa.K
-- Lines of this claim, written by the session's own program kprint.py (it runs print.py).
namespace Go.Proofs.Ytpkghpljgjlmjaa.K
open Go.RowKit Go.Proofs.YtpkghpljgjlmjaaW.PrintWords Go.Proofs.YtpkghpljgjlmjaaW.PrintLast Go.Proofs.YtpkghpljgjlmjaaW.PrintMore
attribute [local go_sem] max2_int min2_int max_two min_two max_three min_three max_four min_four   -- for this text's walks alone
set_option linter.unusedVariables false
set_option linter.unusedSimpArgs false

/-! ### gf256_Add: function 89 -/
def gf256_Add.f (a0 : Int) (a1 : Int) : Option (Int) := some (Go.bits .xor .u8 a0 a1)
set_option maxHeartbeats 8000000 in
set_option maxRecDepth 100000 in
theorem gf256_Add.calls (a0 : Int) (a1 : Int) (r : Int) (w : World) (h : gf256_Add.f a0 a1 = some r) :
    Calls Try.prog 89 #[.int .u8 a0, .int .u8 a1] w fun e w' => e = .returned (.int .u8 r) ∧ Drawn0 w w' := by
  have H : (some (Go.bits .xor .u8 a0 a1)) = some r := h
  clear h
  obtain rfl := Option.some.inj H
  go_enter Try.func89, Try.ntmps89
  go_wp2
  go_ret
  exact ⟨by first | rfl | (simp; done) | (simp [*]; done), by repeat (first | exact Drawn0.refl _ | apply Drawn0.step)⟩

/-! ### gf256_double: function 90 -/
def gf256_double.f (a0 : Int) : Option (Int) := if a0 ≥ 128 then (some (Go.bits .xor .u8 ((a0 * 2) % 256) 29)) else (some ((a0 * 2) % 256))
set_option maxHeartbeats 8000000 in
set_option maxRecDepth 100000 in
theorem gf256_double.calls (a0 : Int) (r : Int) (w : World) (h : gf256_double.f a0 = some r) :
    Calls Try.prog 90 #[.int .u8 a0] w fun e w' => e = .returned (.int .u8 r) ∧ Drawn0 w w' := by
  have H : (if a0 ≥ 128 then (some (Go.bits .xor .u8 ((a0 * 2) % 256) 29)) else (some ((a0 * 2) % 256))) = some r := h
  clear h
  by_cases c2 : a0 ≥ 128
  · rw [if_pos c2] at H
    have c2b0 : decide (128 ≤ a0) = true := decide_eq_true c2
    clear c2
    obtain rfl := Option.some.inj H
    go_enter Try.func90, Try.ntmps90
    go_wp2
    go_ret
    exact ⟨by first | rfl | (simp; done) | (simp [*]; done), by repeat (first | exact Drawn0.refl _ | apply Drawn0.step)⟩
  · rw [if_neg c2] at H
    have c2b0 : decide (128 ≤ a0) = false := decide_eq_false c2
    clear c2
    obtain rfl := Option.some.inj H
    go_enter Try.func90, Try.ntmps90
    go_wp2
    go_ret
    exact ⟨by first | rfl | (simp; done) | (simp [*]; done), by repeat (first | exact Drawn0.refl _ | apply Drawn0.step)⟩

/-! ### gf256_Mul: function 68 -/
def gf256_Mul.l0 : Nat → Int → Int → Int → Option (Int)
  | 0, _, _, _ => none
  | k + 1, x0, x1, x5 => if x1 > 0 then (if (Go.bits .and .u8 x1 1) = 1 then ((gf256_Add.f x5 x0).bind fun t101 => ((gf256_double.f x0).bind fun t102 => (gf256_Mul.l0 k t102 (x1 / 2) t101))) else ((gf256_double.f x0).bind fun t103 => (gf256_Mul.l0 k t103 (x1 / 2) x5))) else (some x5)
def gf256_Mul.f (k : Nat) (a0 : Int) (a1 : Int) : Option (Int) := gf256_Mul.l0 k a0 a1 0
theorem gf256_Mul.mono_l : ∀ k, (∀ y0 y1 y2, LeO (gf256_Mul.l0 k y0 y1 y2) (gf256_Mul.l0 (k + 1) y0 y1 y2))
  | 0 => fun _ _ _ r h => by simp [gf256_Mul.l0] at h
  | k + 1 => by
    have ih0 := gf256_Mul.mono_l k
    · intro y0 y1 y2
      unfold gf256_Mul.l0
      repeat' first
      | (with_reducible exact ih0 _ _ _)
      | (with_reducible exact LeO.refl _)
      | (with_reducible exact LeO.none _)
      | (with_reducible refine LeO.ite ?_ ?_)
      | (with_reducible refine LeO.bind ?_ (fun _ => ?_))
      | exact ih0 _ _ _
      | exact LeO.none _
      | refine LeO.ite ?_ ?_
      | refine LeO.bind ?_ (fun _ => ?_)
theorem gf256_Mul.mono : ∀ a0 a1 k, LeO (gf256_Mul.f k a0 a1) (gf256_Mul.f (k + 1) a0 a1) := by
  intro a0 a1 k
  have ih0 := gf256_Mul.mono_l k
  unfold gf256_Mul.f
  repeat' first
      | (with_reducible exact ih0 _ _ _)
      | (with_reducible exact LeO.refl _)
      | (with_reducible exact LeO.none _)
      | (with_reducible refine LeO.ite ?_ ?_)
      | (with_reducible refine LeO.bind ?_ (fun _ => ?_))
      | exact ih0 _ _ _
      | exact LeO.none _
      | refine LeO.ite ?_ ?_
      | refine LeO.bind ?_ (fun _ => ?_)
set_option maxHeartbeats 8000000 in
set_option maxRecDepth 100000 in
theorem gf256_Mul.calls (k : Nat) (a0 : Int) (a1 : Int) (r : Int) (w : World) (h : gf256_Mul.f k a0 a1 = some r) :
    Calls Try.prog 68 #[.int .u8 a0, .int .u8 a1] w fun e w' => e = .returned (.int .u8 r) ∧ Drawn0 w w' := by
  have H : (gf256_Mul.l0 k a0 a1 0) = some r := h
  clear h
  have H' := Aside0.mk H
  clear H
  go_enter Try.func68, Try.ntmps68
  go_wp2
  go_loopg [0, 1, 5] k (fun kq v0 v1 v5 w' => ∃ (x0_1 : Int) (x1_1 : Int) (x5_1 : Int), v0 = .int .u8 x0_1 ∧ v1 = .int .u8 x1_1 ∧ v5 = .int .u8 x5_1 ∧ Aside0 (gf256_Mul.l0 kq x0_1 x1_1 x5_1 = some r) ∧ Aside0 (kq ≤ k) ∧ Drawn0 w w')
  case atStart => exact ⟨(a0), (a1), (0), (by first | rfl | (simp; done) | (simp [*]; done)), (by first | rfl | (simp; done) | (simp [*]; done)), (by first | rfl | (simp; done) | (simp [*]; done)), H', ⟨Nat.le_refl _⟩, by repeat (first | exact Drawn0.refl _ | apply Drawn0.step)⟩
  case round =>
    clear H'
    try clear p2
    obtain ⟨x0_1, x1_1, x5_1, rfl, rfl, rfl, HA, HK1, ⟨m1, rfl⟩⟩ := hrel
    cases gk with
    | zero => exact absurd HA.out (by simp [gf256_Mul.l0])
    | succ k1 =>
      have H := HA.out
      clear HA
      simp only [gf256_Mul.l0] at H
      by_cases c3 : x1_1 > 0
      · rw [if_pos c3] at H
        have c3b0 : decide (0 < x1_1) = true := decide_eq_true c3
        clear c3
        by_cases c4 : (Go.bits .and .u8 x1_1 1) = 1
        · rw [if_pos c4] at H
          have c4b0 : ((Go.bits .and .u8 x1_1 1) == 1) = true := beq_iff_eq.mpr c4
          have c4b1 : ((Go.bits .and .u8 x1_1 1) != 1) = false := bne_eq_false_iff_eq.mpr c4
          clear c4
          replace H := Option.bind_eq_some_iff.mp H
          obtain ⟨t101, A50, H⟩ := H
          replace H : ((gf256_double.f x0_1).bind fun t102 => (gf256_Mul.l0 k1 t102 (x1_1 / 2) t101)) = some r := H
          have A5 := Aside0.mk A50
          clear A50
          replace H := Option.bind_eq_some_iff.mp H
          obtain ⟨t102, A60, H⟩ := H
          replace H : (gf256_Mul.l0 k1 t102 (x1_1 / 2) t101) = some r := H
          have A6 := Aside0.mk A60
          clear A60
          have H' := Aside0.mk H
          clear H
          go_wp2_with (first | ((with_reducible refine gate_callee (f := 89) rfl ?_); refine goesL_ (some 13) rfl rfl Try.func89 (by kernel_rfl) rfl #[.int .u8 x5_1, .int .u8 x0_1] rfl (by (try simp only [List.map_toArray, List.map_cons, List.map_nil]); first | done | rfl | (simp only [List.length_drop, List.length_take]; rfl)) ?_; (with_reducible refine (gf256_Add.calls x5_1 x0_1 t101 _ A5.out).mono ?_); rintro e w' ⟨rfl, ⟨nd, rfl⟩⟩; refine ⟨_, rfl, ?_⟩) | ((with_reducible refine gate_callee (f := 90) rfl ?_); refine goesL_ (some 15) rfl rfl Try.func90 (by kernel_rfl) rfl #[.int .u8 x0_1] rfl (by (try simp only [List.map_toArray, List.map_cons, List.map_nil]); first | done | rfl | (simp only [List.length_drop, List.length_take]; rfl)) ?_; (with_reducible refine (gf256_double.calls x0_1 t102 _ A6.out).mono ?_); rintro e w' ⟨rfl, ⟨nd, rfl⟩⟩; refine ⟨_, rfl, ?_⟩))
          go_roundg k1
          case measure => have := HK1.out; omega
          case rel => exact ⟨(t102), (x1_1 / 2), (t101), (by first | rfl | (simp; done) | (simp [*]; done)), (by first | rfl | (simp; done) | (simp [*]; done)), (by first | rfl | (simp; done) | (simp [*]; done)), H', ⟨by have := HK1.out; omega⟩, by repeat (first | exact Drawn0.refl _ | apply Drawn0.step)⟩
        · rw [if_neg c4] at H
          have c4b0 : ((Go.bits .and .u8 x1_1 1) == 1) = false := beq_eq_false_iff_ne.mpr c4
          have c4b1 : ((Go.bits .and .u8 x1_1 1) != 1) = true := bne_iff_ne.mpr c4
          replace H := Option.bind_eq_some_iff.mp H
          obtain ⟨t103, A70, H⟩ := H
          replace H : (gf256_Mul.l0 k1 t103 (x1_1 / 2) x5_1) = some r := H
          have A7 := Aside0.mk A70
          clear A70
          have H' := Aside0.mk H
          clear H
          go_wp2_with (first | ((with_reducible refine gate_callee (f := 90) rfl ?_); refine goesL_ (some 15) rfl rfl Try.func90 (by kernel_rfl) rfl #[.int .u8 x0_1] rfl (by (try simp only [List.map_toArray, List.map_cons, List.map_nil]); first | done | rfl | (simp only [List.length_drop, List.length_take]; rfl)) ?_; (with_reducible refine (gf256_double.calls x0_1 t103 _ A7.out).mono ?_); rintro e w' ⟨rfl, ⟨nd, rfl⟩⟩; refine ⟨_, rfl, ?_⟩))
          go_roundg k1
          case measure => have := HK1.out; omega
          case rel => exact ⟨(t103), (x1_1 / 2), (x5_1), (by first | rfl | (simp; done) | (simp [*]; done)), (by first | rfl | (simp; done) | (simp [*]; done)), (by first | rfl | (simp; done) | (simp [*]; done)), H', ⟨by have := HK1.out; omega⟩, by repeat (first | exact Drawn0.refl _ | apply Drawn0.step)⟩
      · rw [if_neg c3] at H
        have c3b0 : decide (0 < x1_1) = false := decide_eq_false c3
        clear c3
        obtain rfl := Option.some.inj H
        go_wp2
        go_ret
        exact ⟨by first | rfl | (simp; done) | (simp [*]; done), by repeat (first | exact Drawn0.refl _ | apply Drawn0.step)⟩

/-! ### gf256_raise: function 96 -/
def gf256_raise.l0 : Nat → Int → Int → Int → Option (Int)
  | 0, _, _, _ => none
  | k + 1, x0, x1, x5 => if x1 > 0 then (if (Go.bits .and .i64 x1 1) = 1 then ((gf256_Mul.f k x5 x0).bind fun t104 => ((gf256_Mul.f k x0 x0).bind fun t105 => (gf256_raise.l0 k t105 (x1 / 2) t104))) else ((gf256_Mul.f k x0 x0).bind fun t106 => (gf256_raise.l0 k t106 (x1 / 2) x5))) else (some x5)
def gf256_raise.f (k : Nat) (a0 : Int) (a1 : Int) : Option (Int) := gf256_raise.l0 k a0 a1 1
theorem gf256_raise.mono_l : ∀ k, (∀ y0 y1 y2, LeO (gf256_raise.l0 k y0 y1 y2) (gf256_raise.l0 (k + 1) y0 y1 y2))
  | 0 => fun _ _ _ r h => by simp [gf256_raise.l0] at h
  | k + 1 => by
    have ih0 := gf256_raise.mono_l k
    · intro y0 y1 y2
      unfold gf256_raise.l0
      repeat' first
      | (with_reducible exact ih0 _ _ _)
      | (with_reducible exact gf256_Mul.mono _ _ _)
      | (with_reducible exact LeO.refl _)
      | (with_reducible exact LeO.none _)
      | (with_reducible refine LeO.ite ?_ ?_)
      | (with_reducible refine LeO.bind ?_ (fun _ => ?_))
      | exact ih0 _ _ _
      | exact gf256_Mul.mono _ _ _
      | exact LeO.none _
      | refine LeO.ite ?_ ?_
      | refine LeO.bind ?_ (fun _ => ?_)
theorem gf256_raise.mono : ∀ a0 a1 k, LeO (gf256_raise.f k a0 a1) (gf256_raise.f (k + 1) a0 a1) := by
  intro a0 a1 k
  have ih0 := gf256_raise.mono_l k
  unfold gf256_raise.f
  repeat' first
      | (with_reducible exact ih0 _ _ _)
      | (with_reducible exact gf256_Mul.mono _ _ _)
      | (with_reducible exact LeO.refl _)
      | (with_reducible exact LeO.none _)
      | (with_reducible refine LeO.ite ?_ ?_)
      | (with_reducible refine LeO.bind ?_ (fun _ => ?_))
      | exact ih0 _ _ _
      | exact gf256_Mul.mono _ _ _
      | exact LeO.none _
      | refine LeO.ite ?_ ?_
      | refine LeO.bind ?_ (fun _ => ?_)
set_option maxHeartbeats 8000000 in
set_option maxRecDepth 100000 in
theorem gf256_raise.calls (k : Nat) (a0 : Int) (a1 : Int) (r : Int) (w : World) (h : gf256_raise.f k a0 a1 = some r) :
    Calls Try.prog 96 #[.int .u8 a0, .int .i64 a1] w fun e w' => e = .returned (.int .u8 r) ∧ Drawn0 w w' := by
  have H : (gf256_raise.l0 k a0 a1 1) = some r := h
  clear h
  have H' := Aside0.mk H
  clear H
  go_enter Try.func96, Try.ntmps96
  go_wp2
  go_loopg [0, 1, 5] k (fun kq v0 v1 v5 w' => ∃ (x0_1 : Int) (x1_1 : Int) (x5_1 : Int), v0 = .int .u8 x0_1 ∧ v1 = .int .i64 x1_1 ∧ v5 = .int .u8 x5_1 ∧ Aside0 (gf256_raise.l0 kq x0_1 x1_1 x5_1 = some r) ∧ Aside0 (kq ≤ k) ∧ Drawn0 w w')
  case atStart => exact ⟨(a0), (a1), (1), (by first | rfl | (simp; done) | (simp [*]; done)), (by first | rfl | (simp; done) | (simp [*]; done)), (by first | rfl | (simp; done) | (simp [*]; done)), H', ⟨Nat.le_refl _⟩, by repeat (first | exact Drawn0.refl _ | apply Drawn0.step)⟩
  case round =>
    clear H'
    try clear p2
    obtain ⟨x0_1, x1_1, x5_1, rfl, rfl, rfl, HA, HK1, ⟨m1, rfl⟩⟩ := hrel
    cases gk with
    | zero => exact absurd HA.out (by simp [gf256_raise.l0])
    | succ k1 =>
      have H := HA.out
      clear HA
      simp only [gf256_raise.l0] at H
      by_cases c3 : x1_1 > 0
      · rw [if_pos c3] at H
        have c3b0 : decide (0 < x1_1) = true := decide_eq_true c3
        clear c3
        by_cases c4 : (Go.bits .and .i64 x1_1 1) = 1
        · rw [if_pos c4] at H
          have c4b0 : ((Go.bits .and .i64 x1_1 1) == 1) = true := beq_iff_eq.mpr c4
          have c4b1 : ((Go.bits .and .i64 x1_1 1) != 1) = false := bne_eq_false_iff_eq.mpr c4
          clear c4
          replace H := Option.bind_eq_some_iff.mp H
          obtain ⟨t104, A50, H⟩ := H
          replace H : ((gf256_Mul.f k1 x0_1 x0_1).bind fun t105 => (gf256_raise.l0 k1 t105 (x1_1 / 2) t104)) = some r := H
          have A5 := Aside0.mk A50
          clear A50
          replace H := Option.bind_eq_some_iff.mp H
          obtain ⟨t105, A60, H⟩ := H
          replace H : (gf256_raise.l0 k1 t105 (x1_1 / 2) t104) = some r := H
          have A6 := Aside0.mk A60
          clear A60
          have H' := Aside0.mk H
          clear H
          go_wp2_with (first | ((with_reducible refine gate_callee (f := 68) rfl ?_); refine goesL_ (some 13) rfl rfl Try.func68 (by kernel_rfl) rfl #[.int .u8 x5_1, .int .u8 x0_1] rfl (by (try simp only [List.map_toArray, List.map_cons, List.map_nil]); first | done | rfl | (simp only [List.length_drop, List.length_take]; rfl)) ?_; (with_reducible refine (gf256_Mul.calls k1 x5_1 x0_1 t104 _ A5.out).mono ?_); rintro e w' ⟨rfl, ⟨nd, rfl⟩⟩; refine ⟨_, rfl, ?_⟩) | ((with_reducible refine gate_callee (f := 68) rfl ?_); refine goesL_ (some 16) rfl rfl Try.func68 (by kernel_rfl) rfl #[.int .u8 x0_1, .int .u8 x0_1] rfl (by (try simp only [List.map_toArray, List.map_cons, List.map_nil]); first | done | rfl | (simp only [List.length_drop, List.length_take]; rfl)) ?_; (with_reducible refine (gf256_Mul.calls k1 x0_1 x0_1 t105 _ A6.out).mono ?_); rintro e w' ⟨rfl, ⟨nd, rfl⟩⟩; refine ⟨_, rfl, ?_⟩))
          go_roundg k1
          case measure => have := HK1.out; omega
          case rel => exact ⟨(t105), (x1_1 / 2), (t104), (by first | rfl | (simp; done) | (simp [*]; done)), (by first | rfl | (simp; done) | (simp [*]; done)), (by first | rfl | (simp; done) | (simp [*]; done)), H', ⟨by have := HK1.out; omega⟩, by repeat (first | exact Drawn0.refl _ | apply Drawn0.step)⟩
        · rw [if_neg c4] at H
          have c4b0 : ((Go.bits .and .i64 x1_1 1) == 1) = false := beq_eq_false_iff_ne.mpr c4
          have c4b1 : ((Go.bits .and .i64 x1_1 1) != 1) = true := bne_iff_ne.mpr c4
          replace H := Option.bind_eq_some_iff.mp H
          obtain ⟨t106, A70, H⟩ := H
          replace H : (gf256_raise.l0 k1 t106 (x1_1 / 2) x5_1) = some r := H
          have A7 := Aside0.mk A70
          clear A70
          have H' := Aside0.mk H
          clear H
          go_wp2_with (first | ((with_reducible refine gate_callee (f := 68) rfl ?_); refine goesL_ (some 16) rfl rfl Try.func68 (by kernel_rfl) rfl #[.int .u8 x0_1, .int .u8 x0_1] rfl (by (try simp only [List.map_toArray, List.map_cons, List.map_nil]); first | done | rfl | (simp only [List.length_drop, List.length_take]; rfl)) ?_; (with_reducible refine (gf256_Mul.calls k1 x0_1 x0_1 t106 _ A7.out).mono ?_); rintro e w' ⟨rfl, ⟨nd, rfl⟩⟩; refine ⟨_, rfl, ?_⟩))
          go_roundg k1
          case measure => have := HK1.out; omega
          case rel => exact ⟨(t106), (x1_1 / 2), (x5_1), (by first | rfl | (simp; done) | (simp [*]; done)), (by first | rfl | (simp; done) | (simp [*]; done)), (by first | rfl | (simp; done) | (simp [*]; done)), H', ⟨by have := HK1.out; omega⟩, by repeat (first | exact Drawn0.refl _ | apply Drawn0.step)⟩
      · rw [if_neg c3] at H
        have c3b0 : decide (0 < x1_1) = false := decide_eq_false c3
        clear c3
        obtain rfl := Option.some.inj H
        go_wp2
        go_ret
        exact ⟨by first | rfl | (simp; done) | (simp [*]; done), by repeat (first | exact Drawn0.refl _ | apply Drawn0.step)⟩

/-! ### gf256_Inv: function 78 -/
def gf256_Inv.f (k : Nat) (a0 : Int) : Option (Int × Int) := if a0 = 0 then (some (0, 1)) else ((gf256_raise.f k a0 254).bind fun t107 => (some (t107, 0)))
theorem gf256_Inv.mono : ∀ a0 k, LeO (gf256_Inv.f k a0) (gf256_Inv.f (k + 1) a0) := by
  intro a0 k
  unfold gf256_Inv.f
  repeat' first
      | (with_reducible exact gf256_raise.mono _ _ _)
      | (with_reducible exact LeO.refl _)
      | (with_reducible exact LeO.none _)
      | (with_reducible refine LeO.ite ?_ ?_)
      | (with_reducible refine LeO.bind ?_ (fun _ => ?_))
      | exact gf256_raise.mono _ _ _
      | exact LeO.none _
      | refine LeO.ite ?_ ?_
      | refine LeO.bind ?_ (fun _ => ?_)
set_option maxHeartbeats 8000000 in
set_option maxRecDepth 100000 in
theorem gf256_Inv.calls (k : Nat) (a0 : Int) (r1 : Int) (r2 : Int) (w : World) (h : gf256_Inv.f k a0 = some (r1, r2)) :
    Calls Try.prog 78 #[.int .u8 a0] w fun e w' => e = .returned (.tuple #[.int .u8 r1, .int .i64 r2]) ∧ Drawn0 w w' := by
  have H : (if a0 = 0 then (some (0, 1)) else ((gf256_raise.f k a0 254).bind fun t107 => (some (t107, 0)))) = some (r1, r2) := h
  clear h
  by_cases c2 : a0 = 0
  · rw [if_pos c2] at H
    have c2b0 : (a0 == 0) = true := beq_iff_eq.mpr c2
    have c2b1 : (a0 != 0) = false := bne_eq_false_iff_eq.mpr c2
    clear c2
    simp only [Option.some.injEq, Prod.mk.injEq] at H
    obtain ⟨rfl, rfl⟩ := H
    go_enter Try.func78, Try.ntmps78
    go_wp2
    go_ret2
    exact ⟨by first | rfl | (simp; done) | (simp [*]; done), by repeat (first | exact Drawn0.refl _ | apply Drawn0.step)⟩
  · rw [if_neg c2] at H
    have c2b0 : (a0 == 0) = false := beq_eq_false_iff_ne.mpr c2
    have c2b1 : (a0 != 0) = true := bne_iff_ne.mpr c2
    replace H := Option.bind_eq_some_iff.mp H
    obtain ⟨t107, A30, H⟩ := H
    replace H : (some (t107, 0)) = some (r1, r2) := H
    have A3 := Aside0.mk A30
    clear A30
    simp only [Option.some.injEq, Prod.mk.injEq] at H
    obtain ⟨rfl, rfl⟩ := H
    go_enter Try.func78, Try.ntmps78
    go_wp2_with (first | ((with_reducible refine gate_callee (f := 96) rfl ?_); refine goesL_ (some 7) rfl rfl Try.func96 (by kernel_rfl) rfl #[.int .u8 a0, .int .i64 254] rfl (by (try simp only [List.map_toArray, List.map_cons, List.map_nil]); first | done | rfl | (simp only [List.length_drop, List.length_take]; rfl)) ?_; (with_reducible refine (gf256_raise.calls k a0 254 t107 _ A3.out).mono ?_); rintro e w' ⟨rfl, ⟨nd, rfl⟩⟩; refine ⟨_, rfl, ?_⟩))
    go_ret2
    exact ⟨by first | rfl | (simp; done) | (simp [*]; done), by repeat (first | exact Drawn0.refl _ | apply Drawn0.step)⟩

/-! ### gf256_reduce: function 97 -/
def gf256_reduce.f (a0 : Int) : Option (Int) := if (Int.tmod a0 255) < 0 then (some (wrap64 ((Int.tmod a0 255) + 255))) else (some (Int.tmod a0 255))
set_option maxHeartbeats 8000000 in
set_option maxRecDepth 100000 in
theorem gf256_reduce.calls (a0 : Int) (r : Int) (w : World) (h : gf256_reduce.f a0 = some r) :
    Calls Try.prog 97 #[.int .i64 a0] w fun e w' => e = .returned (.int .i64 r) ∧ Drawn0 w w' := by
  have H : (if (Int.tmod a0 255) < 0 then (some (wrap64 ((Int.tmod a0 255) + 255))) else (some (Int.tmod a0 255))) = some r := h
  clear h
  by_cases c2 : (Int.tmod a0 255) < 0
  · rw [if_pos c2] at H
    have c2b0 : decide ((Int.tmod a0 255) < 0) = true := decide_eq_true c2
    clear c2
    obtain rfl := Option.some.inj H
    go_enter Try.func97, Try.ntmps97
    go_wp2
    go_ret
    exact ⟨by first | rfl | (simp; done) | (simp [*]; done), by repeat (first | exact Drawn0.refl _ | apply Drawn0.step)⟩
  · rw [if_neg c2] at H
    have c2b0 : decide ((Int.tmod a0 255) < 0) = false := decide_eq_false c2
    clear c2
    obtain rfl := Option.some.inj H
    go_enter Try.func97, Try.ntmps97
    go_wp2
    go_ret
    exact ⟨by first | rfl | (simp; done) | (simp [*]; done), by repeat (first | exact Drawn0.refl _ | apply Drawn0.step)⟩

/-! ### gf256_Pow: function 80 -/
def gf256_Pow.j0 : Nat → Int → Int → Bool → Option (Int × Int)
  | 0, _, _, _ => none
  | k + 1, x0, x1, x9 => if x9 = true then (some (0, 1)) else (if x0 = 0 then (some (0, 0)) else ((gf256_reduce.f x1).bind fun t108 => ((gf256_raise.f k x0 t108).bind fun t109 => (some (t109, 0)))))
def gf256_Pow.f (k : Nat) (a0 : Int) (a1 : Int) : Option (Int × Int) := if a1 = 0 then (some (1, 0)) else (if a0 = 0 then (gf256_Pow.j0 k a0 a1 (decide (a1 < 0))) else (gf256_Pow.j0 k a0 a1 false))
theorem gf256_Pow.mono_l : ∀ k, (∀ y0 y1 y2, LeO (gf256_Pow.j0 k y0 y1 y2) (gf256_Pow.j0 (k + 1) y0 y1 y2))
  | 0 => fun _ _ _ r h => by simp [gf256_Pow.j0] at h
  | k + 1 => by
    have ih0 := gf256_Pow.mono_l k
    · intro y0 y1 y2
      unfold gf256_Pow.j0
      repeat' first
      | (with_reducible exact ih0 _ _ _)
      | (with_reducible exact gf256_raise.mono _ _ _)
      | (with_reducible exact LeO.refl _)
      | (with_reducible exact LeO.none _)
      | (with_reducible refine LeO.ite ?_ ?_)
      | (with_reducible refine LeO.bind ?_ (fun _ => ?_))
      | exact ih0 _ _ _
      | exact gf256_raise.mono _ _ _
      | exact LeO.none _
      | refine LeO.ite ?_ ?_
      | refine LeO.bind ?_ (fun _ => ?_)
theorem gf256_Pow.mono : ∀ a0 a1 k, LeO (gf256_Pow.f k a0 a1) (gf256_Pow.f (k + 1) a0 a1) := by
  intro a0 a1 k
  have ih0 := gf256_Pow.mono_l k
  unfold gf256_Pow.f
  repeat' first
      | (with_reducible exact ih0 _ _ _)
      | (with_reducible exact gf256_raise.mono _ _ _)
      | (with_reducible exact LeO.refl _)
      | (with_reducible exact LeO.none _)
      | (with_reducible refine LeO.ite ?_ ?_)
      | (with_reducible refine LeO.bind ?_ (fun _ => ?_))
      | exact ih0 _ _ _
      | exact gf256_raise.mono _ _ _
      | exact LeO.none _
      | refine LeO.ite ?_ ?_
      | refine LeO.bind ?_ (fun _ => ?_)
set_option maxHeartbeats 8000000 in
set_option maxRecDepth 100000 in
theorem gf256_Pow.calls (k : Nat) (a0 : Int) (a1 : Int) (r1 : Int) (r2 : Int) (w : World) (h : gf256_Pow.f k a0 a1 = some (r1, r2)) :
    Calls Try.prog 80 #[.int .u8 a0, .int .i64 a1] w fun e w' => e = .returned (.tuple #[.int .u8 r1, .int .i64 r2]) ∧ Drawn0 w w' := by
  have H : (if a1 = 0 then (some (1, 0)) else (if a0 = 0 then (gf256_Pow.j0 k a0 a1 (decide (a1 < 0))) else (gf256_Pow.j0 k a0 a1 false))) = some (r1, r2) := h
  clear h
  by_cases c3 : a1 = 0
  · rw [if_pos c3] at H
    have c3b0 : (a1 == 0) = true := beq_iff_eq.mpr c3
    have c3b1 : (a1 != 0) = false := bne_eq_false_iff_eq.mpr c3
    clear c3
    simp only [Option.some.injEq, Prod.mk.injEq] at H
    obtain ⟨rfl, rfl⟩ := H
    go_enter Try.func80, Try.ntmps80
    go_wp2
    go_ret2
    exact ⟨by first | rfl | (simp; done) | (simp [*]; done), by repeat (first | exact Drawn0.refl _ | apply Drawn0.step)⟩
  · rw [if_neg c3] at H
    have c3b0 : (a1 == 0) = false := beq_eq_false_iff_ne.mpr c3
    have c3b1 : (a1 != 0) = true := bne_iff_ne.mpr c3
    have HC4 := Aside0.mk H
    clear H
    go_enter Try.func80, Try.ntmps80
    go_upto_region 3 with (fail)
    go_cut [9] (fun v9 wc => ∃ (kq : Nat) (x9_3 : Bool), v9 = .bool x9_3 ∧ Aside0 (gf256_Pow.j0 kq a0 a1 x9_3 = some (r1, r2)) ∧ Aside0 (kq ≤ k) ∧ Drawn0 w wc)
    case first =>
      have H := HC4.out
      clear HC4
      by_cases c5 : a0 = 0
      · rw [if_pos c5] at H
        have c5b0 : (a0 == 0) = true := beq_iff_eq.mpr c5
        have c5b1 : (a0 != 0) = false := bne_eq_false_iff_eq.mpr c5
        clear c5
        (first | rw [c5b0] | rw [c5b1] | rw [c5b2] | (simp only [i64_w, i32_w]; rw [c5b0]) | skip)
        have H' := Aside0.mk H
        clear H
        go_wp2
        go_meet
        case rel => exact ⟨_, (decide (a1 < 0)), (by first | rfl | (simp; done) | (simp [*]; done)), H', ⟨by first | omega | exact Nat.le_refl _⟩, by repeat (first | exact Drawn0.refl _ | apply Drawn0.step)⟩
      · rw [if_neg c5] at H
        have c5b0 : (a0 == 0) = false := beq_eq_false_iff_ne.mpr c5
        have c5b1 : (a0 != 0) = true := bne_iff_ne.mpr c5
        (first | rw [c5b0] | rw [c5b1] | rw [c5b2] | (simp only [i64_w, i32_w]; rw [c5b0]) | skip)
        have H' := Aside0.mk H
        clear H
        go_wp2
        go_meet
        case rel => exact ⟨_, (false), (by first | rfl | (simp; done) | (simp [*]; done)), H', ⟨by first | omega | exact Nat.le_refl _⟩, by repeat (first | exact Drawn0.refl _ | apply Drawn0.step)⟩
    case rest =>
      clear HC4
      try clear p2
      try clear c3
      try clear c3b0
      try clear c3b1
      try clear c5
      try clear c5b0
      try clear c5b1
      obtain ⟨kq, x9_3, rfl, HA, HJ3, ⟨mc3, rfl⟩⟩ := hcut
      cases kq with
      | zero => exact absurd HA.out (by simp [gf256_Pow.j0])
      | succ kj3 =>
        have H := HA.out
        clear HA
        simp only [gf256_Pow.j0] at H
        by_cases c6 : x9_3 = true
        · subst c6
          have H1 : (some (0, 1)) = some (r1, r2) := by rw [if_pos rfl] at H; exact H
          clear H
          have H := H1
          clear H1
          simp only [Option.some.injEq, Prod.mk.injEq] at H
          obtain ⟨rfl, rfl⟩ := H
          go_wp2
          go_ret2
          exact ⟨by first | rfl | (simp; done) | (simp [*]; done), by repeat (first | exact Drawn0.refl _ | apply Drawn0.step)⟩
        · replace c6 := Bool.eq_false_iff.mpr c6
          subst c6
          have H1 : (if a0 = 0 then (some (0, 0)) else ((gf256_reduce.f a1).bind fun t108 => ((gf256_raise.f kj3 a0 t108).bind fun t109 => (some (t109, 0))))) = some (r1, r2) := by rw [if_neg (show ¬ (false = true) by decide)] at H; exact H
          clear H
          have H := H1
          clear H1
          by_cases c7 : a0 = 0
          · rw [if_pos c7] at H
            have c7b0 : (a0 == 0) = true := beq_iff_eq.mpr c7
            have c7b1 : (a0 != 0) = false := bne_eq_false_iff_eq.mpr c7
            clear c7
            simp only [Option.some.injEq, Prod.mk.injEq] at H
            obtain ⟨rfl, rfl⟩ := H
            go_wp2
            go_ret2
            exact ⟨by first | rfl | (simp; done) | (simp [*]; done), by repeat (first | exact Drawn0.refl _ | apply Drawn0.step)⟩
          · rw [if_neg c7] at H
            have c7b0 : (a0 == 0) = false := beq_eq_false_iff_ne.mpr c7
            have c7b1 : (a0 != 0) = true := bne_iff_ne.mpr c7
            replace H := Option.bind_eq_some_iff.mp H
            obtain ⟨t108, A80, H⟩ := H
            replace H : ((gf256_raise.f kj3 a0 t108).bind fun t109 => (some (t109, 0))) = some (r1, r2) := H
            have A8 := Aside0.mk A80
            clear A80
            replace H := Option.bind_eq_some_iff.mp H
            obtain ⟨t109, A90, H⟩ := H
            replace H : (some (t109, 0)) = some (r1, r2) := H
            have A9 := Aside0.mk A90
            clear A90
            simp only [Option.some.injEq, Prod.mk.injEq] at H
            obtain ⟨rfl, rfl⟩ := H
            go_wp2_with (first | ((with_reducible refine gate_callee (f := 97) rfl ?_); refine goesL_ (some 21) rfl rfl Try.func97 (by kernel_rfl) rfl #[.int .i64 a1] rfl (by (try simp only [List.map_toArray, List.map_cons, List.map_nil]); first | done | rfl | (simp only [List.length_drop, List.length_take]; rfl)) ?_; (with_reducible refine (gf256_reduce.calls a1 t108 _ A8.out).mono ?_); rintro e w' ⟨rfl, ⟨nd, rfl⟩⟩; refine ⟨_, rfl, ?_⟩) | ((with_reducible refine gate_callee (f := 96) rfl ?_); refine goesL_ (some 22) rfl rfl Try.func96 (by kernel_rfl) rfl #[.int .u8 a0, .int .i64 t108] rfl (by (try simp only [List.map_toArray, List.map_cons, List.map_nil]); first | done | rfl | (simp only [List.length_drop, List.length_take]; rfl)) ?_; (with_reducible refine (gf256_raise.calls kj3 a0 t108 t109 _ A9.out).mono ?_); rintro e w' ⟨rfl, ⟨nd, rfl⟩⟩; refine ⟨_, rfl, ?_⟩))
            go_ret2
            exact ⟨by first | rfl | (simp; done) | (simp [*]; done), by repeat (first | exact Drawn0.refl _ | apply Drawn0.step)⟩

/-! ### matrix_zero: function 64 -/
def matrix_zero.l0 : Nat → Int → List (List Int) → Int → Int → Option ((List (List Int)))
  | 0, _, _, _, _ => none
  | k + 1, x1, x5, x10, x11 => if x11 < x10 then (if 0 ≤ x1 then (if (x1 : Int).toNat ≤ 281474976710656 then (if 0 ≤ x11 then (if x11 < (x5.length : Int) then (matrix_zero.l0 k x1 (x5.set (x11 : Int).toNat (List.replicate (x1 : Int).toNat 0)) x10 (wrap64 (x11 + 1))) else (none)) else (none)) else (none)) else (none)) else (some x5)
def matrix_zero.f (k : Nat) (a0 : Int) (a1 : Int) : Option ((List (List Int))) := if 0 ≤ a0 then (if (a0 : Int).toNat ≤ 11728124029610 then ((some (List.replicate (a0 : Int).toNat [] : List (List Int))).bind fun y110 => (matrix_zero.l0 k a1 y110 (y110.length : Int) 0)) else (none)) else (none)
theorem matrix_zero.mono_l : ∀ k, (∀ y0 y1 y2 y3, LeO (matrix_zero.l0 k y0 y1 y2 y3) (matrix_zero.l0 (k + 1) y0 y1 y2 y3))
  | 0 => fun _ _ _ _ r h => by simp [matrix_zero.l0] at h
  | k + 1 => by
    have ih0 := matrix_zero.mono_l k
    · intro y0 y1 y2 y3
      unfold matrix_zero.l0
      repeat' first
      | (with_reducible exact ih0 _ _ _ _)
      | (with_reducible exact LeO.refl _)
      | (with_reducible exact LeO.none _)
      | (with_reducible refine LeO.ite ?_ ?_)
      | (with_reducible refine LeO.bind ?_ (fun _ => ?_))
      | exact ih0 _ _ _ _
      | exact LeO.none _
      | refine LeO.ite ?_ ?_
      | refine LeO.bind ?_ (fun _ => ?_)
theorem matrix_zero.mono : ∀ a0 a1 k, LeO (matrix_zero.f k a0 a1) (matrix_zero.f (k + 1) a0 a1) := by
  intro a0 a1 k
  have ih0 := matrix_zero.mono_l k
  unfold matrix_zero.f
  repeat' first
      | (with_reducible exact ih0 _ _ _ _)
      | (with_reducible exact LeO.refl _)
      | (with_reducible exact LeO.none _)
      | (with_reducible refine LeO.ite ?_ ?_)
      | (with_reducible refine LeO.bind ?_ (fun _ => ?_))
      | exact ih0 _ _ _ _
      | exact LeO.none _
      | refine LeO.ite ?_ ?_
      | refine LeO.bind ?_ (fun _ => ?_)
set_option maxHeartbeats 8000000 in
set_option maxRecDepth 100000 in
theorem matrix_zero.calls (k : Nat) (a0 : Int) (a1 : Int) (r : List (List Int)) (w : World) (h : matrix_zero.f k a0 a1 = some r) :
    Calls Try.prog 64 #[.int .i64 a0, .int .i64 a1] w fun e w' => ∃ v0_ : Value, e = .returned (v0_) ∧ Kd.S (Kd.slice 5 (Kd.int .u8)) 34 w' w.heap.size (fun _ => True) v0_ r ∧ Below w.heap.size w w' := by
  have HB := Aside0.mk (Below.refl w.heap.size w)
  have H : (if 0 ≤ a0 then (if (a0 : Int).toNat ≤ 11728124029610 then ((some (List.replicate (a0 : Int).toNat [] : List (List Int))).bind fun y110 => (matrix_zero.l0 k a1 y110 (y110.length : Int) 0)) else (none)) else (none)) = some r := h
  clear h
  by_cases c3 : 0 ≤ a0
  · rw [if_pos c3] at H
    have c3b0 := eq_true c3
    have c3b1 : decide (0 ≤ a0) = true := decide_eq_true c3
    clear c3
    by_cases c4 : (a0 : Int).toNat ≤ 11728124029610
    · rw [if_pos c4] at H
      have c4b0 := eq_true c4
      have c4b1 : decide ((a0 : Int).toNat ≤ 11728124029610) = true := decide_eq_true c4
      clear c4
      obtain ⟨y110, hy110⟩ : ∃ y_ : List (List Int), y_ = (List.replicate (a0 : Int).toNat []) := ⟨_, rfl⟩
      replace H : (matrix_zero.l0 k a1 y110 (y110.length : Int) 0) = some r := by first | (rw [hy110]; with_reducible exact H) | (have H2_ := (Option.bind_some _ _).symm.trans H; rw [hy110]; with_reducible exact H2_) | (have H2_ := (Option.bind_some _ _).symm.trans H; with_reducible exact H2_) | with_reducible exact H | (rw [hy110]; exact H) | exact H
      have Ny110 := Aside0.mk hy110
      clear hy110
      have H' := Aside0.mk H
      clear H
      go_enter Try.func64, Try.ntmps64
      go_wp2_with (first | ((with_reducible refine gate_dst (N := 8) rfl ?_); refine Kd.S_make (Kd.slice 5 (Kd.int .u8)) _ 34 rfl (N := 8) rfl 22 _ _ rfl a0 rfl rfl Try.underlying22 (.slice none 0 0) 24 info34 rfl (by decide) (by omega) [] (ok := fun _ => True) (okp := fun _ => True) ⟨_, rfl, Kd.R_nil _ _ _ _ _⟩ (fun _ hk => hk) trivial (of_decide_eq_true (by first | (with_reducible assumption) | assumption)) (Nat.le_trans (Nat.mul_le_mul_right _ (of_decide_eq_true (by first | (with_reducible assumption) | assumption) : a0.toNat ≤ 11728124029610)) (by omega)) (Below.refl _ _) (Nat.le_refl _) ?_; intro v111 w5 ho6 hb hg_ hnew_; clear hg_ hnew_; (first | rw [← Ny110.out] at ho6 | (simp only [Int.reduceToNat] at ho6; rw [← Ny110.out] at ho6)); have n0_ := Aside0.mk (Kd.S_lower ho6 (below_size (by repeat (first | (with_reducible first | exact HB.out | apply below_alloc | apply pw_below_drewN | apply below_drew1) | exact HB.out)))); have n1_ := Aside0.mk (below_step (by repeat (first | (with_reducible first | exact HB.out | apply below_alloc | apply pw_below_drewN | apply below_drew1) | exact HB.out)) hb); clear HB; have HO112 := n0_; have HB := n1_; clear n0_ n1_; clear hb ho6; obtain ⟨Ao7, co7, eo7⟩ := Kd.S_slice HO112.out; subst eo7))
      go_loopg [11] k (fun kq v11 w' => ∃ (x5_1 : List (List Int)) (x11_1 : Int), v11 = .int .i64 x11_1 ∧ Aside0 (matrix_zero.l0 kq a1 x5_1 (y110.length : Int) x11_1 = some r) ∧ Aside0 (kq ≤ k) ∧ Aside0 (Kd.S (Kd.slice 5 (Kd.int .u8)) 34 w' w.heap.size (fun _ => True) (.slice Ao7 y110.length co7) x5_1) ∧ Aside0 (Below w.heap.size w w'))
      case atStart => exact ⟨(y110), (0), (by first | rfl | (simp; done) | (simp [*]; done)), H', ⟨Nat.le_refl _⟩, ⟨by (with_reducible repeat (first | apply Kd.S_alloc | apply Kd.S_drewN | apply Kd.S_drew)); exact HO112.out⟩, ⟨by repeat (first | (with_reducible first | exact HB.out | apply below_alloc | apply pw_below_drewN | apply below_drew1) | exact HB.out)⟩⟩
      case round =>
        clear H'
        try clear p2
        try clear c3
        try clear c3b0
        try clear c3b1
        try clear c4
        try clear c4b0
        try clear c4b1
        try clear c6
        obtain ⟨x5_1, x11_1, rfl, HA, HK1, HO_5, HB⟩ := hrel
        have hl5_1 := (Kd.S_reads' HO_5.out).1
        rw [hl5_1] at HO_5
        (try simp only [hl5_1])
        cases gk with
        | zero => exact absurd HA.out (by simp [matrix_zero.l0])
        | succ k1 =>
          have H := HA.out
          clear HA
          simp only [matrix_zero.l0] at H
          by_cases c8 : x11_1 < (y110.length : Int)
          · rw [if_pos c8] at H
            have c8b0 : decide (x11_1 < (y110.length : Int)) = true := decide_eq_true c8
            (try (have c8b0x := c8b0; rw [hl5_1] at c8b0x))
            clear c8
            by_cases c9 : 0 ≤ a1
            · rw [if_pos c9] at H
              have c9b0 := eq_true c9
              (try (have c9b0x := c9b0; rw [hl5_1] at c9b0x))
              have c9b1 : decide (0 ≤ a1) = true := decide_eq_true c9
              (try (have c9b1x := c9b1; rw [hl5_1] at c9b1x))
              clear c9
              by_cases c10 : (a1 : Int).toNat ≤ 281474976710656
              · rw [if_pos c10] at H
                have c10b0 := eq_true c10
                (try (have c10b0x := c10b0; rw [hl5_1] at c10b0x))
                have c10b1 : decide ((a1 : Int).toNat ≤ 281474976710656) = true := decide_eq_true c10
                (try (have c10b1x := c10b1; rw [hl5_1] at c10b1x))
                clear c10
                obtain ⟨y113, hy113⟩ : ∃ y_ : List Int, y_ = (List.replicate (a1 : Int).toNat 0) := ⟨_, rfl⟩
                replace H : (if 0 ≤ x11_1 then (if x11_1 < (x5_1.length : Int) then (matrix_zero.l0 k1 a1 (x5_1.set (x11_1 : Int).toNat y113) (y110.length : Int) (wrap64 (x11_1 + 1))) else (none)) else (none)) = some r := by first | (rw [hy113]; with_reducible exact H) | (have H2_ := (Option.bind_some _ _).symm.trans H; rw [hy113]; with_reducible exact H2_) | (have H2_ := (Option.bind_some _ _).symm.trans H; with_reducible exact H2_) | with_reducible exact H | (rw [hy113]; exact H) | exact H
                have Ny113 := Aside0.mk hy113
                clear hy113
                by_cases c11 : 0 ≤ x11_1
                · rw [if_pos c11] at H
                  have c11b0 : decide (0 ≤ x11_1) = true := decide_eq_true c11
                  (try (have c11b0x := c11b0; rw [hl5_1] at c11b0x))
                  clear c11
                  by_cases c12 : x11_1 < (x5_1.length : Int)
                  · rw [if_pos c12] at H
                    have c12b0 : decide (x11_1 < (x5_1.length : Int)) = true := decide_eq_true c12
                    (try (have c12b0x := c12b0; rw [hl5_1] at c12b0x))
                    clear c12
                    obtain ⟨y116, hy116⟩ : ∃ y_ : List (List Int), y_ = (x5_1.set (x11_1 : Int).toNat y113) := ⟨_, rfl⟩
                    replace H : (matrix_zero.l0 k1 a1 y116 (y110.length : Int) (wrap64 (x11_1 + 1))) = some r := by first | (rw [hy116]; with_reducible exact H) | (have H2_ := (Option.bind_some _ _).symm.trans H; rw [hy116]; with_reducible exact H2_) | (have H2_ := (Option.bind_some _ _).symm.trans H; with_reducible exact H2_) | with_reducible exact H | (rw [hy116]; exact H) | exact H
                    have Ny116 := Aside0.mk hy116
                    clear hy116
                    have H' := Aside0.mk H
                    clear H
                    go_wp2_with (first | ((with_reducible refine gate_dst (N := 17) rfl ?_); refine Kd.R_make (Kd.int .u8) _ 5 rfl (N := 17) rfl 34 _ _ rfl a1 rfl rfl Try.underlying34 (.int .u8 0) 1 info5 rfl (by decide) (by omega) 0 (ok := fun _ => True) (okp := fun _ => True) rfl (fun _ hk => hk) trivial (of_decide_eq_true (by first | (with_reducible assumption) | assumption)) (Nat.le_trans (Nat.mul_le_mul_right _ (of_decide_eq_true (by first | (with_reducible assumption) | assumption) : a1.toNat ≤ 281474976710656)) (by omega)) (Below.refl _ _) (Nat.le_refl _) ?_; intro v114 w14 ho15 hb hg_ hnew_; clear hg_ hnew_; (first | rw [← Ny113.out] at ho15 | (simp only [Int.reduceToNat] at ho15; rw [← Ny113.out] at ho15)); have n0_ := Aside0.mk (Kd.S_elder' (by (with_reducible repeat (first | apply Kd.S_alloc | apply Kd.S_drewN | apply Kd.S_drew)); exact HO_5.out) (Kd.R_base ho15) hb); have n1_ := Aside0.mk (Kd.R_lower ho15 (below_size (by repeat (first | (with_reducible first | exact HB.out | apply below_alloc | apply pw_below_drewN | apply below_drew1) | exact HB.out)))); have n2_ := Aside0.mk (below_step (by repeat (first | (with_reducible first | exact HB.out | apply below_alloc | apply pw_below_drewN | apply below_drew1) | exact HB.out)) hb); clear HO_5; clear HB; have HO_5 := n0_; have HO115 := n1_; have HB := n2_; clear n0_ n1_ n2_; clear hb ho15; have p13 : 0 ≤ (x11_1 : Int) := of_decide_eq_true (by first | (with_reducible assumption) | assumption); have q13 : (x11_1 : Int) < ((x5_1.length : Int) : Int) := of_decide_eq_true (by first | (with_reducible assumption) | assumption); obtain ⟨go13, co13, eo13, gb13, gl13, cl13, HG13⟩ := Kd.S_form HO_5.out (by omega); (first | cases eo13 | (injection eo13 with ea_ en_ ec_; (first | subst ea_ | (injection ea_ with ea_; subst ea_)); subst ec_; clear en_)); have GB13 := Aside0.mk gb13; have GG13 := Aside0.mk HG13; clear gb13 gl13 HG13; obtain ⟨_, ce13, hcl13, hM13, hcc13, hfr13, _, _⟩ := Kd.S_elem HO_5.out [] (x11_1 : Int) p13 q13; obtain ⟨ve13_0, rfl, ge13_0⟩ := hM13; have hx13_0 := hcc13 0 _ rfl; have hf13_0 := hfr13 0; (try simp only [show ((Kd.slice 5 (Kd.int .u8))).sz = 1 from rfl, Nat.mul_one, Nat.add_zero] at hx13_0); (try simp only [show ((Kd.slice 5 (Kd.int .u8))).sz = 1 from rfl, Nat.mul_one, Nat.add_zero] at hf13_0); clear hcl13 hcc13 hfr13; (try clear hM13); replace p13 := eq_true p13; replace q13 := eq_true q13; have n_ := Aside0.mk (Kd.S_mono (ok' := (fun k_ => some k_ ≠ (v114 : Value).ownBlock)) HO_5.out (fun k_ hk => hk.2)); clear HO_5; have HO_5 := n_; clear n_; have HX16 := Aside0.mk (show Kd.S (Kd.slice 5 (Kd.int .u8)) 34 w14 w.heap.size (fun k_ => ((fun _ => True)) k_ ∧ ¬ ((fun k_ => some k_ = (v114 : Value).ownBlock)) k_) (.slice (some ⟨go13, 0, none⟩) x5_1.length co7) x5_1 from (by (with_reducible repeat (first | apply Kd.S_alloc | apply Kd.S_drewN | apply Kd.S_drew)); exact Kd.S_mono HO_5.out (fun k_ hk => ⟨trivial, fun e_ => hk e_⟩))); obtain ⟨oki16, ce16, hcl16, hM16, hcc16, hfr16, hoki16, hH16⟩ := Kd.S_elem HX16.out [] (x11_1 : Int) (of_decide_eq_true (by first | (with_reducible assumption) | assumption)) (by have h_ : (x11_1 : Int) < ((x5_1.length : Int) : Int) := of_decide_eq_true (by first | (with_reducible assumption) | assumption); first | exact h_ | (have e_ := (Kd.S_reads' HO_5.out).1; omega) | simpa using h_); obtain ⟨ve16_0, rfl, ge16_0⟩ := hM16; have HP16 := Kd.S_seg hH16 (of_decide_eq_true (by first | (with_reducible assumption) | assumption)) (by have h_ : (x11_1 : Int) < ((x5_1.length : Int) : Int) := of_decide_eq_true (by first | (with_reducible assumption) | assumption); first | exact h_ | (have e_ := (Kd.S_reads' HO_5.out).1; omega) | simpa using h_) (seg := [v114]) (j := 0) (show 1 ≤ 1 from by decide) (x' := y113) (Kd.M_row (Kd.R_mono (Kd.R_tight rfl (Kd.R_mono (ok' := fun k_ => ((fun _ => True)) k_ ∧ k_ ≠ go13) (Kd.R_apart' (HO115.out) (Kd.S_typed HO_5.out) (by decide)) (fun k_ hk => ⟨trivial, fun e_ => (hk.2) (by rw [e_]; rfl)⟩))) (fun _ h_ => Or.inr (h_)))) (fun _ hk => hk) (fun k_ hk_ => ((Kd.R_mono (ok' := fun k_ => ((fun _ => True)) k_ ∧ k_ ≠ go13) (Kd.R_apart' (HO115.out) (Kd.S_typed HO_5.out) (by decide)) (fun k_ hk => ⟨trivial, fun e_ => (hk.2) (by rw [e_]; rfl)⟩))).1 k_ hk_.symm); have hx16_0 := hcc16 0 _ rfl; (try simp only [show ((Kd.slice 5 (Kd.int .u8))).sz = 1 from rfl, Nat.mul_one, Nat.add_zero] at hx16_0); have hf16_0 := hfr16 0; (try simp only [show ((Kd.slice 5 (Kd.int .u8))).sz = 1 from rfl, Nat.mul_one, Nat.add_zero] at hf16_0); clear hcl16 hcc16 hfr16 hoki16 hH16; (try clear hM16); (try simp only [show ((Kd.slice 5 (Kd.int .u8))).sz = 1 from rfl, Nat.mul_one, Nat.add_zero] at HP16)) | ((with_reducible refine gate_store (t := 34) (p := 18) rfl ?_); refine store_event (t := 34) (p := 18) (v := ?vo_w17) (w1 := (w14.setCell ⟨go13, (x11_1 : Int).toNat, none⟩ (v114))) ?hg ?ho ?hn ?hr ?_; (case ho => rfl); (case hg => rfl); (case hn => rfl); (case hr => first | (go_simp; done) | (go_simp; rfl) | (obtain ⟨A_, c_, e_⟩ : ∃ A_ c_, v114 = .slice A_ _ c_ := Kd.R_slice (Aside0.out (by assumption)); rw [e_]; go_simp; done) | (obtain ⟨A_, c_, e_⟩ : ∃ A_ c_, v114 = .slice A_ _ c_ := Kd.R_slice (Aside0.out (by assumption)); rw [e_]; go_simp; rfl)); intro w17 hw; have hg : w14.grownBy w17 (some go13) := (by rw [hw]; exact HP16.2); have hp_ : Kd.S (Kd.slice 5 (Kd.int .u8)) 34 w17 w.heap.size (fun _ => True) (.slice (some ⟨go13, 0, none⟩) x5_1.length co7) y116 := (by rw [hw, Ny116.out]; exact HP16.1); clear HP16; have n0_ := Aside0.mk (hp_); have n1_ := Aside0.mk ((by rw [hw]; exact below_set (HB.out) GB13.out : Below w.heap.size w w17)); clear HO_5; clear HB; clear HO115; have HO_5 := n0_; have HB := n1_; clear n0_ n1_; clear hg hw hp_))
                    (try simp only [← hl5_1])
                    go_roundg k1
                    case measure => have := HK1.out; omega
                    case rel => exact ⟨(y116), (wrap64 (x11_1 + 1)), (by first | rfl | (simp; done) | (simp [*]; done)), H', ⟨by have := HK1.out; omega⟩, ⟨by (try simp only [hl5_1]); (with_reducible repeat (first | apply Kd.S_alloc | apply Kd.S_drewN | apply Kd.S_drew)); exact HO_5.out⟩, ⟨by repeat (first | (with_reducible first | exact HB.out | apply below_alloc | apply pw_below_drewN | apply below_drew1) | exact HB.out)⟩⟩
                  · rw [if_neg c12] at H
                    exact absurd H (by simp)
                · rw [if_neg c11] at H
                  exact absurd H (by simp)
              · rw [if_neg c10] at H
                exact absurd H (by simp)
            · rw [if_neg c9] at H
              exact absurd H (by simp)
          · rw [if_neg c8] at H
            have c8b0 : decide (x11_1 < (y110.length : Int)) = false := decide_eq_false c8
            (try (have c8b0x := c8b0; rw [hl5_1] at c8b0x))
            clear c8
            obtain rfl := Option.some.inj H
            go_wp2
            go_ret
            exact ⟨_, by first | rfl | (simp [errW_none, errW_some] <;> rfl) | (simp [*, errW_none, errW_some] <;> rfl), by (with_reducible repeat (first | apply Kd.S_alloc | apply Kd.S_drewN | apply Kd.S_drew)); exact HO_5.out, by repeat (first | (with_reducible first | exact HB.out | apply below_alloc | apply pw_below_drewN | apply below_drew1) | exact HB.out)⟩
    · rw [if_neg c4] at H
      exact absurd H (by simp)
  · rw [if_neg c3] at H
    exact absurd H (by simp)

/-! ### matrix_columns: function 56 -/
def matrix_columns.f (l0 : List (List Int)) : Option (Int) := if (l0.length : Int) = 0 then (some 0) else (if 0 < (l0.length : Int) then (some ((rd_L1 l0 0).length : Int)) else (none))
set_option maxHeartbeats 8000000 in
set_option maxRecDepth 100000 in
theorem matrix_columns.calls (A0 : Option Addr) (c0 : Nat) (l0 : List (List Int)) (r : Int) (w : World) (hr0 : Kd.C (Kd.slice 5 (Kd.int .u8)) w A0 l0.length l0) (hc0 : l0.length ≤ c0) (h : matrix_columns.f l0 = some r) :
    Calls Try.prog 56 #[.slice A0 l0.length c0] w fun e w' => e = .returned (.int .i64 r) ∧ Drawn0 w w' := by
  have HR0 := Aside0.mk hr0
  have HC0 := Aside0.mk hc0
  clear hr0 hc0
  have H : (if (l0.length : Int) = 0 then (some 0) else (if 0 < (l0.length : Int) then (some ((rd_L1 l0 0).length : Int)) else (none))) = some r := h
  clear h
  by_cases c2 : (l0.length : Int) = 0
  · rw [if_pos c2] at H
    have c2b0 : ((l0.length : Int) == 0) = true := beq_iff_eq.mpr c2
    have c2b1 : ((l0.length : Int) != 0) = false := bne_eq_false_iff_eq.mpr c2
    clear c2
    obtain rfl := Option.some.inj H
    go_enter Try.func56, Try.ntmps56
    go_wp2
    go_ret
    exact ⟨by first | rfl | (simp; done) | (simp [*]; done), by repeat (first | exact Drawn0.refl _ | apply Drawn0.step)⟩
  · rw [if_neg c2] at H
    have c2b0 : ((l0.length : Int) == 0) = false := beq_eq_false_iff_ne.mpr c2
    have c2b1 : ((l0.length : Int) != 0) = true := bne_iff_ne.mpr c2
    have c2b2 : ¬ (l0 = []) := fun h_ => c2 (by rw [h_]; rfl)
    by_cases c3 : 0 < (l0.length : Int)
    · rw [if_pos c3] at H
      have c3b0 : decide (0 < (l0.length : Int)) = true := decide_eq_true c3
      have c3b1 : decide (0 < l0.length) = true := decide_eq_true (by omega)
      clear c3
      obtain rfl := Option.some.inj H
      have p117 : 0 ≤ (0 : Int) := (by omega)
      have q117 : 0 < (l0.length : Int) := of_decide_eq_true (by first | (with_reducible assumption) | assumption)
      obtain ⟨ad117, A117_0, c117_0, e117, hx117_0, hl117_0, hi117_0⟩ := at_L1 HR0.out 0 p117 q117
      cases e117
      have qi117 : (0 < l0.length) = True := eq_true (by omega)
      (try rw [show ((0 : Int)).toNat = 0 from rfl] at hx117_0)
      (try rw [Addr.add_zero'] at hx117_0)
      have HR117_0 := Aside0.mk hi117_0
      have HC117_0 := Aside0.mk hl117_0
      clear hi117_0 hl117_0
      replace p117 := eq_true p117
      replace q117 := eq_true q117
      go_enter Try.func56, Try.ntmps56
      go_wp2
      go_ret
      exact ⟨by first | rfl | (simp; done) | (simp [*]; done), by repeat (first | exact Drawn0.refl _ | apply Drawn0.step)⟩
    · rw [if_neg c3] at H
      exact absurd H (by simp)

/-! ### matrix_size: function 57 -/
def matrix_size.f (a0 : Int) : Option (Bool) := if a0 ≥ 0 then (some (decide (a0 ≤ 64))) else (some false)
set_option maxHeartbeats 8000000 in
set_option maxRecDepth 100000 in
theorem matrix_size.calls (a0 : Int) (r : Bool) (w : World) (h : matrix_size.f a0 = some r) :
    Calls Try.prog 57 #[.int .i64 a0] w fun e w' => e = .returned (.bool r) ∧ Drawn0 w w' := by
  have H : (if a0 ≥ 0 then (some (decide (a0 ≤ 64))) else (some false)) = some r := h
  clear h
  by_cases c2 : a0 ≥ 0
  · rw [if_pos c2] at H
    have c2b0 : decide (0 ≤ a0) = true := decide_eq_true c2
    clear c2
    obtain rfl := Option.some.inj H
    go_enter Try.func57, Try.ntmps57
    go_wp2
    go_ret
    exact ⟨by first | rfl | (simp; done) | (simp [*]; done), by repeat (first | exact Drawn0.refl _ | apply Drawn0.step)⟩
  · rw [if_neg c2] at H
    have c2b0 : decide (0 ≤ a0) = false := decide_eq_false c2
    clear c2
    obtain rfl := Option.some.inj H
    go_enter Try.func57, Try.ntmps57
    go_wp2
    go_ret
    exact ⟨by first | rfl | (simp; done) | (simp [*]; done), by repeat (first | exact Drawn0.refl _ | apply Drawn0.step)⟩

/-! ### matrix_Identity: function 48 -/
def matrix_Identity.l0 : Nat → List (List Int) → Int → Int → Option ((List (List Int)))
  | 0, _, _, _ => none
  | k + 1, x3, x12, x13 => if x13 < x12 then (if 0 ≤ x13 then (if x13 < (x3.length : Int) then (if x13 < ((rd_L1 x3 x13).length : Int) then (matrix_Identity.l0 k (x3.set (x13 : Int).toNat ((rd_L1 x3 x13).set (x13 : Int).toNat 1)) x12 (wrap64 (x13 + 1))) else (none)) else (none)) else (none)) else (some x3)
def matrix_Identity.f (k : Nat) (a0 : Int) : Option ((List (List Int))) := (matrix_size.f a0).bind fun t118 => (if t118 = true then ((matrix_zero.f k a0 a0).bind fun t119 => (matrix_Identity.l0 k t119 (t119.length : Int) 0)) else (some ([] : List (List Int))))
theorem matrix_Identity.mono_l : ∀ k, (∀ y0 y1 y2, LeO (matrix_Identity.l0 k y0 y1 y2) (matrix_Identity.l0 (k + 1) y0 y1 y2))
  | 0 => fun _ _ _ r h => by simp [matrix_Identity.l0] at h
  | k + 1 => by
    have ih0 := matrix_Identity.mono_l k
    · intro y0 y1 y2
      unfold matrix_Identity.l0
      repeat' first
      | (with_reducible exact ih0 _ _ _)
      | (with_reducible exact matrix_zero.mono _ _ _)
      | (with_reducible exact LeO.refl _)
      | (with_reducible exact LeO.none _)
      | (with_reducible refine LeO.ite ?_ ?_)
      | (with_reducible refine LeO.bind ?_ (fun _ => ?_))
      | exact ih0 _ _ _
      | exact matrix_zero.mono _ _ _
      | exact LeO.none _
      | refine LeO.ite ?_ ?_
      | refine LeO.bind ?_ (fun _ => ?_)
theorem matrix_Identity.mono : ∀ a0 k, LeO (matrix_Identity.f k a0) (matrix_Identity.f (k + 1) a0) := by
  intro a0 k
  have ih0 := matrix_Identity.mono_l k
  unfold matrix_Identity.f
  repeat' first
      | (with_reducible exact ih0 _ _ _)
      | (with_reducible exact matrix_zero.mono _ _ _)
      | (with_reducible exact LeO.refl _)
      | (with_reducible exact LeO.none _)
      | (with_reducible refine LeO.ite ?_ ?_)
      | (with_reducible refine LeO.bind ?_ (fun _ => ?_))
      | exact ih0 _ _ _
      | exact matrix_zero.mono _ _ _
      | exact LeO.none _
      | refine LeO.ite ?_ ?_
      | refine LeO.bind ?_ (fun _ => ?_)
set_option maxHeartbeats 8000000 in
set_option maxRecDepth 100000 in
theorem matrix_Identity.calls (k : Nat) (a0 : Int) (r : List (List Int)) (w : World) (h : matrix_Identity.f k a0 = some r) :
    Calls Try.prog 48 #[.int .i64 a0] w fun e w' => ∃ v0_ : Value, e = .returned (v0_) ∧ Kd.S (Kd.slice 5 (Kd.int .u8)) 34 w' w.heap.size (fun _ => True) v0_ r ∧ Below w.heap.size w w' := by
  have HB := Aside0.mk (Below.refl w.heap.size w)
  have H : ((matrix_size.f a0).bind fun t118 => (if t118 = true then ((matrix_zero.f k a0 a0).bind fun t119 => (matrix_Identity.l0 k t119 (t119.length : Int) 0)) else (some ([] : List (List Int))))) = some r := h
  clear h
  replace H := Option.bind_eq_some_iff.mp H
  obtain ⟨t118, A20, H⟩ := H
  replace H : (if t118 = true then ((matrix_zero.f k a0 a0).bind fun t119 => (matrix_Identity.l0 k t119 (t119.length : Int) 0)) else (some ([] : List (List Int)))) = some r := H
  have A2 := Aside0.mk A20
  clear A20
  by_cases c3 : t118 = true
  · subst c3
    have H1 : ((matrix_zero.f k a0 a0).bind fun t119 => (matrix_Identity.l0 k t119 (t119.length : Int) 0)) = some r := by rw [if_pos rfl] at H; exact H
    clear H
    have H := H1
    clear H1
    replace H := Option.bind_eq_some_iff.mp H
    obtain ⟨t119, A40, H⟩ := H
    replace H : (matrix_Identity.l0 k t119 (t119.length : Int) 0) = some r := H
    have A4 := Aside0.mk A40
    clear A40
    have H' := Aside0.mk H
    clear H
    go_enter Try.func48, Try.ntmps48
    go_wp2_with (first | ((with_reducible refine gate_callee (f := 57) rfl ?_); refine goesL_ (some 6) rfl rfl Try.func57 (by kernel_rfl) rfl #[.int .i64 a0] rfl (by (try simp only [List.map_toArray, List.map_cons, List.map_nil]); first | done | rfl | (simp only [List.length_drop, List.length_take]; rfl)) ?_; (with_reducible refine (matrix_size.calls a0 true _ A2.out).mono ?_); rintro e w' ⟨rfl, ⟨nd, rfl⟩⟩; refine ⟨_, rfl, ?_⟩) | ((with_reducible refine gate_callee (f := 64) rfl ?_); refine goesL_ (some 10) rfl rfl Try.func64 (by kernel_rfl) rfl #[.int .i64 a0, .int .i64 a0] rfl (by (try simp only [List.map_toArray, List.map_cons, List.map_nil]); first | done | rfl | (simp only [List.length_drop, List.length_take]; rfl)) ?_; (with_reducible refine (matrix_zero.calls k a0 a0 t119 _ A4.out).mono ?_); rintro e w5 ⟨v120, rfl, ho0, hb⟩; refine ⟨_, rfl, ?_⟩; have n0_ := Aside0.mk (Kd.S_lower ho0 (below_size (by repeat (first | (with_reducible first | exact HB.out | apply below_alloc | apply pw_below_drewN | apply below_drew1) | exact HB.out)))); have n1_ := Aside0.mk (below_step (by repeat (first | (with_reducible first | exact HB.out | apply below_alloc | apply pw_below_drewN | apply below_drew1) | exact HB.out)) hb); clear HB; have HO121 := n0_; have HB := n1_; clear n0_ n1_; (try clear hb); (try clear hb2); (try clear hk); (try clear hi); (try clear ho0); obtain ⟨Ao6, co6, eo6⟩ := Kd.S_slice HO121.out; subst eo6))
    go_loopg [13] k (fun kq v13 w' => ∃ (x3_1 : List (List Int)) (x13_1 : Int), v13 = .int .i64 x13_1 ∧ Aside0 (matrix_Identity.l0 kq x3_1 (t119.length : Int) x13_1 = some r) ∧ Aside0 (kq ≤ k) ∧ Aside0 (Kd.S (Kd.slice 5 (Kd.int .u8)) 34 w' w.heap.size (fun _ => True) (.slice Ao6 t119.length co6) x3_1) ∧ Aside0 (Below w.heap.size w w'))
    case atStart => exact ⟨(t119), (0), (by first | rfl | (simp; done) | (simp [*]; done)), H', ⟨Nat.le_refl _⟩, ⟨by (with_reducible repeat (first | apply Kd.S_alloc | apply Kd.S_drewN | apply Kd.S_drew)); exact HO121.out⟩, ⟨by repeat (first | (with_reducible first | exact HB.out | apply below_alloc | apply pw_below_drewN | apply below_drew1) | exact HB.out)⟩⟩
    case round =>
      clear H'
      try clear p2
      try clear c3
      try clear c4
      try clear c5
      try clear c6
      obtain ⟨x3_1, x13_1, rfl, HA, HK1, HO_3, HB⟩ := hrel
      have hl3_1 := (Kd.S_reads' HO_3.out).1
      rw [hl3_1] at HO_3
      (try simp only [hl3_1])
      cases gk with
      | zero => exact absurd HA.out (by simp [matrix_Identity.l0])
      | succ k1 =>
        have H := HA.out
        clear HA
        simp only [matrix_Identity.l0] at H
        by_cases c7 : x13_1 < (t119.length : Int)
        · rw [if_pos c7] at H
          have c7b0 : decide (x13_1 < (t119.length : Int)) = true := decide_eq_true c7
          (try (have c7b0x := c7b0; rw [hl3_1] at c7b0x))
          clear c7
          by_cases c8 : 0 ≤ x13_1
          · rw [if_pos c8] at H
            have c8b0 : decide (0 ≤ x13_1) = true := decide_eq_true c8
            (try (have c8b0x := c8b0; rw [hl3_1] at c8b0x))
            clear c8
            by_cases c9 : x13_1 < (x3_1.length : Int)
            · rw [if_pos c9] at H
              have c9b0 : decide (x13_1 < (x3_1.length : Int)) = true := decide_eq_true c9
              (try (have c9b0x := c9b0; rw [hl3_1] at c9b0x))
              clear c9
              by_cases c10 : x13_1 < ((rd_L1 x3_1 x13_1).length : Int)
              · rw [if_pos c10] at H
                have c10b0 : decide (x13_1 < ((rd_L1 x3_1 x13_1).length : Int)) = true := decide_eq_true c10
                (try (have c10b0x := c10b0; rw [hl3_1] at c10b0x))
                clear c10
                obtain ⟨y123, hy123⟩ : ∃ y_ : List Int, y_ = ((rd_L1 x3_1 x13_1).set (x13_1 : Int).toNat 1) := ⟨_, rfl⟩
                replace H : (matrix_Identity.l0 k1 (x3_1.set (x13_1 : Int).toNat y123) (t119.length : Int) (wrap64 (x13_1 + 1))) = some r := by first | (rw [hy123]; with_reducible exact H) | (have H2_ := (Option.bind_some _ _).symm.trans H; rw [hy123]; with_reducible exact H2_) | (have H2_ := (Option.bind_some _ _).symm.trans H; with_reducible exact H2_) | with_reducible exact H | (rw [hy123]; exact H) | exact H
                have Ny123 := Aside0.mk hy123
                clear hy123
                obtain ⟨y125, hy125⟩ : ∃ y_ : List (List Int), y_ = (x3_1.set (x13_1 : Int).toNat y123) := ⟨_, rfl⟩
                replace H : (matrix_Identity.l0 k1 y125 (t119.length : Int) (wrap64 (x13_1 + 1))) = some r := by first | (rw [hy125]; with_reducible exact H) | (have H2_ := (Option.bind_some _ _).symm.trans H; rw [hy125]; with_reducible exact H2_) | (have H2_ := (Option.bind_some _ _).symm.trans H; with_reducible exact H2_) | with_reducible exact H | (rw [hy125]; exact H) | exact H
                have Ny125 := Aside0.mk hy125
                clear hy125
                have H' := Aside0.mk H
                clear H
                have p122 : 0 ≤ (x13_1 : Int) := of_decide_eq_true (by first | (with_reducible assumption) | assumption)
                have q122 : x13_1 < (x3_1.length : Int) := of_decide_eq_true (by first | (with_reducible assumption) | assumption)
                obtain ⟨ad122, A122_0, c122_0, e122, hx122_0, hl122_0, hi122_0⟩ := at_L1 (Kd.S_reads' HO_3.out).2.2 x13_1 p122 q122
                cases e122
                obtain ⟨ce122, hce122, hMe122, hcc122⟩ := Kd.S_get HO_3.out [] x13_1 p122 (by first | exact q122 | exact of_decide_eq_true (by first | (with_reducible assumption) | assumption) | (have e_ := (Kd.S_reads' HO_3.out).1; omega))
                obtain ⟨ve122_0, rfl, ge122_0⟩ := hMe122
                have hv122_0 := hcc122 0 _ rfl
                rw [Nat.add_zero, show ((Kd.slice 5 (Kd.int .u8))).sz = 1 from rfl, Nat.mul_one] at hv122_0
                replace hv122_0 := Option.some.inj (hv122_0.symm.trans hx122_0)
                rw [hv122_0] at ge122_0
                have HL122_0 := Aside0.mk (show Kd.R (Kd.int .u8) 5 _ _ _ _ (rd_L1 x3_1 x13_1) from ge122_0)
                clear hv122_0 ge122_0
                have HX122_0 := Aside0.mk hx122_0
                clear hcc122 hce122
                have HR122_0 := Aside0.mk hi122_0
                have HC122_0 := Aside0.mk hl122_0
                clear hi122_0 hl122_0
                replace p122 := eq_true p122
                replace q122 := eq_true q122
                have p11 : 0 ≤ (x13_1 : Int) := of_decide_eq_true (by first | (with_reducible assumption) | assumption)
                have q11 : (x13_1 : Int) < (((rd_L1 x3_1 x13_1).length : Int) : Int) := of_decide_eq_true (by first | (with_reducible assumption) | assumption)
                obtain ⟨go11, co11, eo11, gb11, gl11, cl11, HG11⟩ := Kd.R_form HL122_0.out (by omega)
                (first | cases eo11 | (injection eo11 with ea_ en_ ec_; (first | subst ea_ | (injection ea_ with ea_; subst ea_)); subst ec_; clear en_))
                have GB11 := Aside0.mk gb11
                have GG11 := Aside0.mk HG11
                clear gb11 gl11 HG11
                obtain ⟨hx11_0, hf11_0⟩ := Kd.R_celln 0 HL122_0.out (x13_1 : Int) p11 q11
                replace p11 := eq_true p11
                replace q11 := eq_true q11
                have hq12 : (x13_1 : Int) < (x3_1.length : Int) := (by have h_ : (x13_1 : Int) < ((x3_1.length : Int) : Int) := of_decide_eq_true (by first | (with_reducible assumption) | assumption); first | exact h_ | (have e_ := (Kd.S_reads' HO_3.out).1; omega) | simpa only [List.length_set, List.length_set] using h_)
                obtain ⟨oki12, ce12, hcl12, hM12, hcc12, hok12, hbk12⟩ := Kd.S_borrow HO_3.out [] (x13_1 : Int) (of_decide_eq_true (by first | (with_reducible assumption) | assumption)) hq12
                obtain ⟨ve12_0, rfl, ge12_0⟩ := hM12
                have hv12 := hcc12 0 _ rfl
                rw [Nat.add_zero, show ((Kd.slice 5 (Kd.int .u8))).sz = 1 from rfl, Nat.mul_one] at hv12
                replace hv12 := Option.some.inj (hv12.symm.trans HX122_0.out)
                subst hv12
                clear hcc12 hcl12
                replace ge12_0 := (show Kd.R (Kd.int .u8) 5 _ _ _ _ (rd_L1 x3_1 x13_1) from ge12_0)
                have HP12 := Kd.R_putg ge12_0 (x13_1 : Int) 1
                go_wp2_with (first | ((with_reducible refine gate_store (t := 5) (p := 21) rfl ?_); refine store_event (t := 5) (p := 21) (v := ?vo_w13) (w1 := (wr.setCell ⟨go11, (x13_1 : Int).toNat, none⟩ (.int .u8 1))) ?hg ?ho ?hn ?hr ?_; (case ho => rfl); (case hg => rfl); (case hn => rfl); (case hr => first | (go_simp; done) | (go_simp; rfl)); intro w13 hw; have hg : wr.grownBy w13 (some go11) := (by rw [hw]; exact HP12.2); have hz_ : Kd.R (Kd.int .u8) 5 w13 w.heap.size oki12 (.slice (some ⟨go11, 0, none⟩) (rd_L1 x3_1 x13_1).length c122_0) y123 := (by rw [hw, Ny123.out]; exact HP12.1); have hp_ : Kd.S (Kd.slice 5 (Kd.int .u8)) 34 w13 w.heap.size (fun _ => True) (.slice (some ad122) x3_1.length co6) y125 := (by rw [Ny125.out]; exact hbk12 hg (fun k_ e_ => by injection e_ with e_; subst e_; exact ge12_0.1 _ rfl) (Kd.M_row hz_)); have hm_ := Kd.R_mono hz_ hok12; clear HP12 hbk12; have n0_ := Aside0.mk (hp_); have n1_ := Aside0.mk ((by rw [hw]; exact below_set (HB.out) GB11.out : Below w.heap.size w w13)); have n2_ := Aside0.mk (hm_); have n3_ := Aside0.mk ((Kd.R_reads' hm_).2.1); clear HO_3; clear HB; clear HL122_0; have HO_3 := n0_; have HB := n1_; have HL126 := n2_; have HC124 := n3_; clear n0_ n1_ n2_ n3_; clear hg hw hp_ hz_ hm_ hok12))
                (try simp only [← hl3_1])
                go_roundg k1
                case measure => have := HK1.out; omega
                case rel => exact ⟨(y125), (wrap64 (x13_1 + 1)), (by first | rfl | (simp; done) | (simp [*]; done)), H', ⟨by have := HK1.out; omega⟩, ⟨by (try simp only [hl3_1]); (with_reducible repeat (first | apply Kd.S_alloc | apply Kd.S_drewN | apply Kd.S_drew)); exact HO_3.out⟩, ⟨by repeat (first | (with_reducible first | exact HB.out | apply below_alloc | apply pw_below_drewN | apply below_drew1) | exact HB.out)⟩⟩
              · rw [if_neg c10] at H
                exact absurd H (by simp)
            · rw [if_neg c9] at H
              exact absurd H (by simp)
          · rw [if_neg c8] at H
            exact absurd H (by simp)
        · rw [if_neg c7] at H
          have c7b0 : decide (x13_1 < (t119.length : Int)) = false := decide_eq_false c7
          (try (have c7b0x := c7b0; rw [hl3_1] at c7b0x))
          clear c7
          obtain rfl := Option.some.inj H
          go_wp2
          go_ret
          exact ⟨_, by first | rfl | (simp [errW_none, errW_some] <;> rfl) | (simp [*, errW_none, errW_some] <;> rfl), by (with_reducible repeat (first | apply Kd.S_alloc | apply Kd.S_drewN | apply Kd.S_drew)); exact HO_3.out, by repeat (first | (with_reducible first | exact HB.out | apply below_alloc | apply pw_below_drewN | apply below_drew1) | exact HB.out)⟩
  · replace c3 := Bool.eq_false_iff.mpr c3
    subst c3
    have H1 : (some ([] : List (List Int))) = some r := by rw [if_neg (show ¬ (false = true) by decide)] at H; exact H
    clear H
    have H := H1
    clear H1
    obtain rfl := Option.some.inj H
    go_enter Try.func48, Try.ntmps48
    go_wp2_with (first | ((with_reducible refine gate_callee (f := 57) rfl ?_); refine goesL_ (some 6) rfl rfl Try.func57 (by kernel_rfl) rfl #[.int .i64 a0] rfl (by (try simp only [List.map_toArray, List.map_cons, List.map_nil]); first | done | rfl | (simp only [List.length_drop, List.length_take]; rfl)) ?_; (with_reducible refine (matrix_size.calls a0 false _ A2.out).mono ?_); rintro e w' ⟨rfl, ⟨nd, rfl⟩⟩; refine ⟨_, rfl, ?_⟩))
    go_ret
    exact ⟨_, by first | rfl | (simp [errW_none, errW_some] <;> rfl) | (simp [*, errW_none, errW_some] <;> rfl), by first | exact Kd.S_nil _ _ _ _ _ | exact Kd.N_nil _ _ _ _ _ | exact Kd.V_nil _ _ _ _ _ | exact Kd.Q_nil _ _ _ _ _ | exact Kd.R_nil _ _ _ _ _, by repeat (first | (with_reducible first | exact HB.out | apply below_alloc | apply pw_below_drewN | apply below_drew1) | exact HB.out)⟩

end Go.Proofs.Ytpkghpljgjlmjaa.K
-- Lines of this claim, written by the session's own program kprint.py (it runs print.py).
namespace Go.Proofs.Ytpkghpljgjlmjaa.K
open Go.RowKit Go.Proofs.YtpkghpljgjlmjaaW.PrintWords Go.Proofs.YtpkghpljgjlmjaaW.PrintLast Go.Proofs.YtpkghpljgjlmjaaW.PrintMore
attribute [local go_sem] max2_int min2_int max_two min_two max_three min_three max_four min_four   -- for this text's walks alone
set_option linter.unusedVariables false
set_option linter.unusedSimpArgs false

/-! ### kinkeepref04_Mul: function 35 -/
def kinkeepref04_Mul.l0 : Nat → Int → Int → Int → Int → Option (Int)
  | 0, _, _, _, _ => none
  | k + 1, x1, x5, x6, x7 => if x7 < 8 then (if 0 ≤ x7 then (if (Go.bits .and .u8 (shr .u8 x1 x7) 1) = 1 then (if (wrap64 (x5 * 2)) > 255 then (kinkeepref04_Mul.l0 k x1 (Go.bits .xor .i64 (wrap64 (x5 * 2)) 285) (Go.bits .xor .i64 x6 x5) (wrap64 (x7 + 1))) else (kinkeepref04_Mul.l0 k x1 (wrap64 (x5 * 2)) (Go.bits .xor .i64 x6 x5) (wrap64 (x7 + 1)))) else (if (wrap64 (x5 * 2)) > 255 then (kinkeepref04_Mul.l0 k x1 (Go.bits .xor .i64 (wrap64 (x5 * 2)) 285) x6 (wrap64 (x7 + 1))) else (kinkeepref04_Mul.l0 k x1 (wrap64 (x5 * 2)) x6 (wrap64 (x7 + 1))))) else (none)) else (some ((x6) % 256))
def kinkeepref04_Mul.f (k : Nat) (a0 : Int) (a1 : Int) : Option (Int) := kinkeepref04_Mul.l0 k a1 (wrap64 (a0)) 0 0
theorem kinkeepref04_Mul.mono_l : ∀ k, (∀ y0 y1 y2 y3, LeO (kinkeepref04_Mul.l0 k y0 y1 y2 y3) (kinkeepref04_Mul.l0 (k + 1) y0 y1 y2 y3))
  | 0 => fun _ _ _ _ r h => by simp [kinkeepref04_Mul.l0] at h
  | k + 1 => by
    have ih0 := kinkeepref04_Mul.mono_l k
    · intro y0 y1 y2 y3
      unfold kinkeepref04_Mul.l0
      repeat' first
      | (with_reducible exact ih0 _ _ _ _)
      | (with_reducible exact LeO.refl _)
      | (with_reducible exact LeO.none _)
      | (with_reducible refine LeO.ite ?_ ?_)
      | (with_reducible refine LeO.bind ?_ (fun _ => ?_))
      | exact ih0 _ _ _ _
      | exact LeO.none _
      | refine LeO.ite ?_ ?_
      | refine LeO.bind ?_ (fun _ => ?_)
theorem kinkeepref04_Mul.mono : ∀ a0 a1 k, LeO (kinkeepref04_Mul.f k a0 a1) (kinkeepref04_Mul.f (k + 1) a0 a1) := by
  intro a0 a1 k
  have ih0 := kinkeepref04_Mul.mono_l k
  unfold kinkeepref04_Mul.f
  repeat' first
      | (with_reducible exact ih0 _ _ _ _)
      | (with_reducible exact LeO.refl _)
      | (with_reducible exact LeO.none _)
      | (with_reducible refine LeO.ite ?_ ?_)
      | (with_reducible refine LeO.bind ?_ (fun _ => ?_))
      | exact ih0 _ _ _ _
      | exact LeO.none _
      | refine LeO.ite ?_ ?_
      | refine LeO.bind ?_ (fun _ => ?_)
set_option maxHeartbeats 8000000 in
set_option maxRecDepth 100000 in
theorem kinkeepref04_Mul.calls (k : Nat) (a0 : Int) (a1 : Int) (r : Int) (w : World) (h : kinkeepref04_Mul.f k a0 a1 = some r) :
    Calls Try.prog 35 #[.int .u8 a0, .int .u8 a1] w fun e w' => e = .returned (.int .u8 r) ∧ Drawn0 w w' := by
  have H : (kinkeepref04_Mul.l0 k a1 (wrap64 (a0)) 0 0) = some r := h
  clear h
  have H' := Aside0.mk H
  clear H
  go_enter Try.func35, Try.ntmps35
  go_wp2
  go_loopg [5, 6, 7] k (fun kq v5 v6 v7 w' => ∃ (x5_1 : Int) (x6_1 : Int) (x7_1 : Int), v5 = .int .i64 x5_1 ∧ v6 = .int .i64 x6_1 ∧ v7 = .int .i64 x7_1 ∧ Aside0 (kinkeepref04_Mul.l0 kq a1 x5_1 x6_1 x7_1 = some r) ∧ Aside0 (kq ≤ k) ∧ Drawn0 w w')
  case atStart => exact ⟨(wrap64 (a0)), (0), (0), (by first | rfl | (simp; done) | (simp [*]; done)), (by first | rfl | (simp; done) | (simp [*]; done)), (by first | rfl | (simp; done) | (simp [*]; done)), H', ⟨Nat.le_refl _⟩, by repeat (first | exact Drawn0.refl _ | apply Drawn0.step)⟩
  case round =>
    clear H'
    try clear p2
    obtain ⟨x5_1, x6_1, x7_1, rfl, rfl, rfl, HA, HK1, ⟨m1, rfl⟩⟩ := hrel
    cases gk with
    | zero => exact absurd HA.out (by simp [kinkeepref04_Mul.l0])
    | succ k1 =>
      have H := HA.out
      clear HA
      simp only [kinkeepref04_Mul.l0] at H
      by_cases c3 : x7_1 < 8
      · rw [if_pos c3] at H
        have c3b0 : decide (x7_1 < 8) = true := decide_eq_true c3
        clear c3
        by_cases c4 : 0 ≤ x7_1
        · rw [if_pos c4] at H
          have c4b0 := eq_true c4
          have c4b1 : decide (0 ≤ x7_1) = true := decide_eq_true c4
          clear c4
          obtain ⟨ji5, hji5⟩ : ∃ j_ : Int, (shr .u8 a1 x7_1) = j_ := ⟨_, rfl⟩
          replace H : (if (Go.bits .and .u8 (ji5) 1) = 1 then (if (wrap64 (x5_1 * 2)) > 255 then (kinkeepref04_Mul.l0 k1 a1 (Go.bits .xor .i64 (wrap64 (x5_1 * 2)) 285) (Go.bits .xor .i64 x6_1 x5_1) (wrap64 (x7_1 + 1))) else (kinkeepref04_Mul.l0 k1 a1 (wrap64 (x5_1 * 2)) (Go.bits .xor .i64 x6_1 x5_1) (wrap64 (x7_1 + 1)))) else (if (wrap64 (x5_1 * 2)) > 255 then (kinkeepref04_Mul.l0 k1 a1 (Go.bits .xor .i64 (wrap64 (x5_1 * 2)) 285) x6_1 (wrap64 (x7_1 + 1))) else (kinkeepref04_Mul.l0 k1 a1 (wrap64 (x5_1 * 2)) x6_1 (wrap64 (x7_1 + 1))))) = some r := by first | (rw [hji5] at H; exact H) | (simp only [hji5] at H ⊢; exact H)
          have hji5_ : (a1 / 2 ^ min x7_1.toNat 8) = ji5 := hji5
          have hji5z : x7_1 ≤ 8 → (a1 / 2 ^ x7_1.toNat) = ji5 := shr_small hji5
          by_cases c6 : (Go.bits .and .u8 (ji5) 1) = 1
          · rw [if_pos c6] at H
            have c6b0 : ((Go.bits .and .u8 (ji5) 1) == 1) = true := beq_iff_eq.mpr c6
            have c6b1 : ((Go.bits .and .u8 (ji5) 1) != 1) = false := bne_eq_false_iff_eq.mpr c6
            clear c6
            by_cases c7 : (wrap64 (x5_1 * 2)) > 255
            · rw [if_pos c7] at H
              have c7b0 : decide (255 < (wrap64 (x5_1 * 2))) = true := decide_eq_true c7
              clear c7
              have H' := Aside0.mk H
              clear H
              go_wp2
              go_roundg k1
              case measure => have := HK1.out; omega
              case rel => exact ⟨(Go.bits .xor .i64 (wrap64 (x5_1 * 2)) 285), (Go.bits .xor .i64 x6_1 x5_1), (wrap64 (x7_1 + 1)), (by first | rfl | (simp; done) | (simp [*]; done)), (by first | rfl | (simp; done) | (simp [*]; done)), (by first | rfl | (simp; done) | (simp [*]; done)), H', ⟨by have := HK1.out; omega⟩, by repeat (first | exact Drawn0.refl _ | apply Drawn0.step)⟩
            · rw [if_neg c7] at H
              have c7b0 : decide (255 < (wrap64 (x5_1 * 2))) = false := decide_eq_false c7
              clear c7
              have H' := Aside0.mk H
              clear H
              go_wp2
              go_roundg k1
              case measure => have := HK1.out; omega
              case rel => exact ⟨(wrap64 (x5_1 * 2)), (Go.bits .xor .i64 x6_1 x5_1), (wrap64 (x7_1 + 1)), (by first | rfl | (simp; done) | (simp [*]; done)), (by first | rfl | (simp; done) | (simp [*]; done)), (by first | rfl | (simp; done) | (simp [*]; done)), H', ⟨by have := HK1.out; omega⟩, by repeat (first | exact Drawn0.refl _ | apply Drawn0.step)⟩
          · rw [if_neg c6] at H
            have c6b0 : ((Go.bits .and .u8 (ji5) 1) == 1) = false := beq_eq_false_iff_ne.mpr c6
            have c6b1 : ((Go.bits .and .u8 (ji5) 1) != 1) = true := bne_iff_ne.mpr c6
            by_cases c8 : (wrap64 (x5_1 * 2)) > 255
            · rw [if_pos c8] at H
              have c8b0 : decide (255 < (wrap64 (x5_1 * 2))) = true := decide_eq_true c8
              clear c8
              have H' := Aside0.mk H
              clear H
              go_wp2
              go_roundg k1
              case measure => have := HK1.out; omega
              case rel => exact ⟨(Go.bits .xor .i64 (wrap64 (x5_1 * 2)) 285), (x6_1), (wrap64 (x7_1 + 1)), (by first | rfl | (simp; done) | (simp [*]; done)), (by first | rfl | (simp; done) | (simp [*]; done)), (by first | rfl | (simp; done) | (simp [*]; done)), H', ⟨by have := HK1.out; omega⟩, by repeat (first | exact Drawn0.refl _ | apply Drawn0.step)⟩
            · rw [if_neg c8] at H
              have c8b0 : decide (255 < (wrap64 (x5_1 * 2))) = false := decide_eq_false c8
              clear c8
              have H' := Aside0.mk H
              clear H
              go_wp2
              go_roundg k1
              case measure => have := HK1.out; omega
              case rel => exact ⟨(wrap64 (x5_1 * 2)), (x6_1), (wrap64 (x7_1 + 1)), (by first | rfl | (simp; done) | (simp [*]; done)), (by first | rfl | (simp; done) | (simp [*]; done)), (by first | rfl | (simp; done) | (simp [*]; done)), H', ⟨by have := HK1.out; omega⟩, by repeat (first | exact Drawn0.refl _ | apply Drawn0.step)⟩
        · rw [if_neg c4] at H
          exact absurd H (by simp)
      · rw [if_neg c3] at H
        have c3b0 : decide (x7_1 < 8) = false := decide_eq_false c3
        clear c3
        obtain rfl := Option.some.inj H
        go_wp2
        go_ret
        exact ⟨by first | rfl | (simp; done) | (simp [*]; done), by repeat (first | exact Drawn0.refl _ | apply Drawn0.step)⟩

/-! ### kinkeepref04_Inv: function 61 -/
def kinkeepref04_Inv.l0 : Nat → Int → Int → Option (Int)
  | 0, _, _ => none
  | k + 1, x0, x3 => if x3 < 256 then ((kinkeepref04_Mul.f k x0 ((x3) % 256)).bind fun t127 => (if t127 = 1 then (some ((x3) % 256)) else (kinkeepref04_Inv.l0 k x0 (wrap64 (x3 + 1))))) else (some 0)
def kinkeepref04_Inv.f (k : Nat) (a0 : Int) : Option (Int) := kinkeepref04_Inv.l0 k a0 1
theorem kinkeepref04_Inv.mono_l : ∀ k, (∀ y0 y1, LeO (kinkeepref04_Inv.l0 k y0 y1) (kinkeepref04_Inv.l0 (k + 1) y0 y1))
  | 0 => fun _ _ r h => by simp [kinkeepref04_Inv.l0] at h
  | k + 1 => by
    have ih0 := kinkeepref04_Inv.mono_l k
    · intro y0 y1
      unfold kinkeepref04_Inv.l0
      repeat' first
      | (with_reducible exact ih0 _ _)
      | (with_reducible exact kinkeepref04_Mul.mono _ _ _)
      | (with_reducible exact LeO.refl _)
      | (with_reducible exact LeO.none _)
      | (with_reducible refine LeO.ite ?_ ?_)
      | (with_reducible refine LeO.bind ?_ (fun _ => ?_))
      | exact ih0 _ _
      | exact kinkeepref04_Mul.mono _ _ _
      | exact LeO.none _
      | refine LeO.ite ?_ ?_
      | refine LeO.bind ?_ (fun _ => ?_)
theorem kinkeepref04_Inv.mono : ∀ a0 k, LeO (kinkeepref04_Inv.f k a0) (kinkeepref04_Inv.f (k + 1) a0) := by
  intro a0 k
  have ih0 := kinkeepref04_Inv.mono_l k
  unfold kinkeepref04_Inv.f
  repeat' first
      | (with_reducible exact ih0 _ _)
      | (with_reducible exact kinkeepref04_Mul.mono _ _ _)
      | (with_reducible exact LeO.refl _)
      | (with_reducible exact LeO.none _)
      | (with_reducible refine LeO.ite ?_ ?_)
      | (with_reducible refine LeO.bind ?_ (fun _ => ?_))
      | exact ih0 _ _
      | exact kinkeepref04_Mul.mono _ _ _
      | exact LeO.none _
      | refine LeO.ite ?_ ?_
      | refine LeO.bind ?_ (fun _ => ?_)
set_option maxHeartbeats 8000000 in
set_option maxRecDepth 100000 in
theorem kinkeepref04_Inv.calls (k : Nat) (a0 : Int) (r : Int) (w : World) (h : kinkeepref04_Inv.f k a0 = some r) :
    Calls Try.prog 61 #[.int .u8 a0] w fun e w' => e = .returned (.int .u8 r) ∧ Drawn0 w w' := by
  have H : (kinkeepref04_Inv.l0 k a0 1) = some r := h
  clear h
  have H' := Aside0.mk H
  clear H
  go_enter Try.func61, Try.ntmps61
  go_wp2
  go_loopg [3] k (fun kq v3 w' => ∃ (x3_1 : Int), v3 = .int .i64 x3_1 ∧ Aside0 (kinkeepref04_Inv.l0 kq a0 x3_1 = some r) ∧ Aside0 (kq ≤ k) ∧ Drawn0 w w')
  case atStart => exact ⟨(1), (by first | rfl | (simp; done) | (simp [*]; done)), H', ⟨Nat.le_refl _⟩, by repeat (first | exact Drawn0.refl _ | apply Drawn0.step)⟩
  case round =>
    clear H'
    obtain ⟨x3_1, rfl, HA, HK1, ⟨m1, rfl⟩⟩ := hrel
    cases gk with
    | zero => exact absurd HA.out (by simp [kinkeepref04_Inv.l0])
    | succ k1 =>
      have H := HA.out
      clear HA
      simp only [kinkeepref04_Inv.l0] at H
      by_cases c2 : x3_1 < 256
      · rw [if_pos c2] at H
        have c2b0 : decide (x3_1 < 256) = true := decide_eq_true c2
        clear c2
        replace H := Option.bind_eq_some_iff.mp H
        obtain ⟨t127, A30, H⟩ := H
        replace H : (if t127 = 1 then (some ((x3_1) % 256)) else (kinkeepref04_Inv.l0 k1 a0 (wrap64 (x3_1 + 1)))) = some r := H
        have A3 := Aside0.mk A30
        clear A30
        by_cases c4 : t127 = 1
        · rw [if_pos c4] at H
          have c4b0 : (t127 == 1) = true := beq_iff_eq.mpr c4
          have c4b1 : (t127 != 1) = false := bne_eq_false_iff_eq.mpr c4
          clear c4
          obtain rfl := Option.some.inj H
          go_wp2_with (first | ((with_reducible refine gate_callee (f := 35) rfl ?_); refine goesL_ (some 11) rfl rfl Try.func35 (by kernel_rfl) rfl #[.int .u8 a0, .int .u8 ((x3_1) % 256)] rfl (by (try simp only [List.map_toArray, List.map_cons, List.map_nil]); first | done | rfl | (simp only [List.length_drop, List.length_take]; rfl)) ?_; (with_reducible refine (kinkeepref04_Mul.calls k1 a0 ((x3_1) % 256) t127 _ A3.out).mono ?_); rintro e w' ⟨rfl, ⟨nd, rfl⟩⟩; refine ⟨_, rfl, ?_⟩))
          go_ret
          exact ⟨by first | rfl | (simp; done) | (simp [*]; done), by repeat (first | exact Drawn0.refl _ | apply Drawn0.step)⟩
        · rw [if_neg c4] at H
          have c4b0 : (t127 == 1) = false := beq_eq_false_iff_ne.mpr c4
          have c4b1 : (t127 != 1) = true := bne_iff_ne.mpr c4
          have H' := Aside0.mk H
          clear H
          go_wp2_with (first | ((with_reducible refine gate_callee (f := 35) rfl ?_); refine goesL_ (some 11) rfl rfl Try.func35 (by kernel_rfl) rfl #[.int .u8 a0, .int .u8 ((x3_1) % 256)] rfl (by (try simp only [List.map_toArray, List.map_cons, List.map_nil]); first | done | rfl | (simp only [List.length_drop, List.length_take]; rfl)) ?_; (with_reducible refine (kinkeepref04_Mul.calls k1 a0 ((x3_1) % 256) t127 _ A3.out).mono ?_); rintro e w' ⟨rfl, ⟨nd, rfl⟩⟩; refine ⟨_, rfl, ?_⟩))
          go_roundg k1
          case measure => have := HK1.out; omega
          case rel => exact ⟨(wrap64 (x3_1 + 1)), (by first | rfl | (simp; done) | (simp [*]; done)), H', ⟨by have := HK1.out; omega⟩, by repeat (first | exact Drawn0.refl _ | apply Drawn0.step)⟩
      · rw [if_neg c2] at H
        have c2b0 : decide (x3_1 < 256) = false := decide_eq_false c2
        clear c2
        obtain rfl := Option.some.inj H
        go_wp2
        go_ret
        exact ⟨by first | rfl | (simp; done) | (simp [*]; done), by repeat (first | exact Drawn0.refl _ | apply Drawn0.step)⟩

/-! ### kinkeepref04_Valid: function 18 -/
def kinkeepref04_Valid.l0 : Nat → List (List Int) → Int → Option (Bool)
  | 0, _, _ => none
  | k + 1, x0, x3 => if x3 < (x0.length : Int) then (if 0 ≤ x3 then (if 0 < (x0.length : Int) then (if ((rd_L1 x0 x3).length : Int) = ((rd_L1 x0 0).length : Int) then (if ((rd_L1 x0 x3).length : Int) > 64 then (some false) else (kinkeepref04_Valid.l0 k x0 (wrap64 (x3 + 1)))) else (some false)) else (none)) else (none)) else (some true)
def kinkeepref04_Valid.f (k : Nat) (l0 : List (List Int)) : Option (Bool) := if (l0.length : Int) > 64 then (some false) else (kinkeepref04_Valid.l0 k l0 0)
theorem kinkeepref04_Valid.mono_l : ∀ k, (∀ y0 y1, LeO (kinkeepref04_Valid.l0 k y0 y1) (kinkeepref04_Valid.l0 (k + 1) y0 y1))
  | 0 => fun _ _ r h => by simp [kinkeepref04_Valid.l0] at h
  | k + 1 => by
    have ih0 := kinkeepref04_Valid.mono_l k
    · intro y0 y1
      unfold kinkeepref04_Valid.l0
      repeat' first
      | (with_reducible exact ih0 _ _)
      | (with_reducible exact LeO.refl _)
      | (with_reducible exact LeO.none _)
      | (with_reducible refine LeO.ite ?_ ?_)
      | (with_reducible refine LeO.bind ?_ (fun _ => ?_))
      | exact ih0 _ _
      | exact LeO.none _
      | refine LeO.ite ?_ ?_
      | refine LeO.bind ?_ (fun _ => ?_)
theorem kinkeepref04_Valid.mono : ∀ a0 k, LeO (kinkeepref04_Valid.f k a0) (kinkeepref04_Valid.f (k + 1) a0) := by
  intro a0 k
  have ih0 := kinkeepref04_Valid.mono_l k
  unfold kinkeepref04_Valid.f
  repeat' first
      | (with_reducible exact ih0 _ _)
      | (with_reducible exact LeO.refl _)
      | (with_reducible exact LeO.none _)
      | (with_reducible refine LeO.ite ?_ ?_)
      | (with_reducible refine LeO.bind ?_ (fun _ => ?_))
      | exact ih0 _ _
      | exact LeO.none _
      | refine LeO.ite ?_ ?_
      | refine LeO.bind ?_ (fun _ => ?_)
set_option maxHeartbeats 8000000 in
set_option maxRecDepth 100000 in
theorem kinkeepref04_Valid.calls (k : Nat) (A0 : Option Addr) (c0 : Nat) (l0 : List (List Int)) (r : Bool) (w : World) (hr0 : Kd.C (Kd.slice 5 (Kd.int .u8)) w A0 l0.length l0) (hc0 : l0.length ≤ c0) (h : kinkeepref04_Valid.f k l0 = some r) :
    Calls Try.prog 18 #[.slice A0 l0.length c0] w fun e w' => e = .returned (.bool r) ∧ Drawn0 w w' := by
  have HR0 := Aside0.mk hr0
  have HC0 := Aside0.mk hc0
  clear hr0 hc0
  have H : (if (l0.length : Int) > 64 then (some false) else (kinkeepref04_Valid.l0 k l0 0)) = some r := h
  clear h
  by_cases c2 : (l0.length : Int) > 64
  · rw [if_pos c2] at H
    have c2b0 : decide (64 < (l0.length : Int)) = true := decide_eq_true c2
    have c2b1 : decide (64 < l0.length) = true := decide_eq_true (by omega)
    clear c2
    obtain rfl := Option.some.inj H
    go_enter Try.func18, Try.ntmps18
    go_wp2
    repeat (go_quiet (fail); try go_wp2)
    go_ret
    exact ⟨by first | rfl | (simp; done) | (simp [*]; done), by repeat (first | exact Drawn0.refl _ | apply Drawn0.step)⟩
  · rw [if_neg c2] at H
    have c2b0 : decide (64 < (l0.length : Int)) = false := decide_eq_false c2
    have c2b1 : decide (64 < l0.length) = false := decide_eq_false (by omega)
    clear c2
    have H' := Aside0.mk H
    clear H
    go_enter Try.func18, Try.ntmps18
    go_wp2
    repeat (go_quiet (fail); try go_wp2)
    go_loopg [3] k (fun kq v3 w' => ∃ (x3_1 : Int), v3 = .int .i64 x3_1 ∧ Aside0 (kinkeepref04_Valid.l0 kq l0 x3_1 = some r) ∧ Aside0 (kq ≤ k) ∧ Drawn0 w w')
    case atStart => exact ⟨(0), (by first | rfl | (simp; done) | (simp [*]; done)), H', ⟨Nat.le_refl _⟩, by repeat (first | exact Drawn0.refl _ | apply Drawn0.step)⟩
    case round =>
      clear H'
      try clear c1
      try clear c2
      try clear c2b0
      try clear c2b1
      try clear p2
      obtain ⟨x3_1, rfl, HA, HK1, ⟨m1, rfl⟩⟩ := hrel
      cases gk with
      | zero => exact absurd HA.out (by simp [kinkeepref04_Valid.l0])
      | succ k1 =>
        have H := HA.out
        clear HA
        simp only [kinkeepref04_Valid.l0] at H
        by_cases c3 : x3_1 < (l0.length : Int)
        · rw [if_pos c3] at H
          have c3b0 : decide (x3_1 < (l0.length : Int)) = true := decide_eq_true c3
          clear c3
          by_cases c4 : 0 ≤ x3_1
          · rw [if_pos c4] at H
            have c4b0 : decide (0 ≤ x3_1) = true := decide_eq_true c4
            clear c4
            by_cases c5 : 0 < (l0.length : Int)
            · rw [if_pos c5] at H
              have c5b0 : decide (0 < (l0.length : Int)) = true := decide_eq_true c5
              have c5b1 : decide (0 < l0.length) = true := decide_eq_true (by omega)
              clear c5
              by_cases c6 : ((rd_L1 l0 x3_1).length : Int) = ((rd_L1 l0 0).length : Int)
              · rw [if_pos c6] at H
                have c6b0 : (((rd_L1 l0 x3_1).length : Int) == ((rd_L1 l0 0).length : Int)) = true := beq_iff_eq.mpr c6
                have c6b1 : (((rd_L1 l0 x3_1).length : Int) != ((rd_L1 l0 0).length : Int)) = false := bne_eq_false_iff_eq.mpr c6
                have c6b2 : ((rd_L1 l0 x3_1).length == (rd_L1 l0 0).length) = true := by first | simpa using c6 | (simp at c6 ⊢; omega)
                clear c6
                by_cases c7 : ((rd_L1 l0 x3_1).length : Int) > 64
                · rw [if_pos c7] at H
                  have c7b0 : decide (64 < ((rd_L1 l0 x3_1).length : Int)) = true := decide_eq_true c7
                  have c7b1 : decide (64 < (rd_L1 l0 x3_1).length) = true := decide_eq_true (by omega)
                  clear c7
                  obtain rfl := Option.some.inj H
                  have p128 : 0 ≤ (x3_1 : Int) := of_decide_eq_true (by first | (with_reducible assumption) | assumption)
                  have q128 : x3_1 < (l0.length : Int) := of_decide_eq_true (by first | (with_reducible assumption) | assumption)
                  obtain ⟨ad128, A128_0, c128_0, e128, hx128_0, hl128_0, hi128_0⟩ := at_L1 HR0.out x3_1 p128 q128
                  cases e128
                  have HR128_0 := Aside0.mk hi128_0
                  have HC128_0 := Aside0.mk hl128_0
                  clear hi128_0 hl128_0
                  replace p128 := eq_true p128
                  replace q128 := eq_true q128
                  have p129 : 0 ≤ (0 : Int) := (by omega)
                  have q129 : 0 < (l0.length : Int) := of_decide_eq_true (by first | (with_reducible assumption) | assumption)
                  obtain ⟨ad129, A129_0, c129_0, e129, hx129_0, hl129_0, hi129_0⟩ := at_L1 HR0.out 0 p129 q129
                  obtain rfl : ad128 = ad129 := (by injection e129)
                  have qi129 : (0 < l0.length) = True := eq_true (by omega)
                  (try rw [show ((0 : Int)).toNat = 0 from rfl] at hx129_0)
                  (try rw [Addr.add_zero'] at hx129_0)
                  have HR129_0 := Aside0.mk hi129_0
                  have HC129_0 := Aside0.mk hl129_0
                  clear hi129_0 hl129_0
                  replace p129 := eq_true p129
                  replace q129 := eq_true q129
                  have p130 : 0 ≤ (x3_1 : Int) := of_decide_eq_true (by first | (with_reducible assumption) | assumption)
                  have q130 : x3_1 < (l0.length : Int) := of_decide_eq_true (by first | (with_reducible assumption) | assumption)
                  obtain ⟨ad130, A130_0, c130_0, e130, hx130_0, hl130_0, hi130_0⟩ := at_L1 HR0.out x3_1 p130 q130
                  obtain rfl : ad128 = ad130 := (by injection e130)
                  have HR130_0 := Aside0.mk hi130_0
                  have HC130_0 := Aside0.mk hl130_0
                  clear hi130_0 hl130_0
                  replace p130 := eq_true p130
                  replace q130 := eq_true q130
                  have ea_ := Option.some.inj (hx128_0.symm.trans hx130_0)
                  injection ea_ with ea_ en_ ec_
                  subst ea_
                  subst ec_
                  clear en_
                  go_wp2
                  repeat (go_quiet (fail); try go_wp2)
                  go_ret
                  exact ⟨by first | rfl | (simp; done) | (simp [*]; done), by repeat (first | exact Drawn0.refl _ | apply Drawn0.step)⟩
                · rw [if_neg c7] at H
                  have c7b0 : decide (64 < ((rd_L1 l0 x3_1).length : Int)) = false := decide_eq_false c7
                  have c7b1 : decide (64 < (rd_L1 l0 x3_1).length) = false := decide_eq_false (by omega)
                  clear c7
                  have H' := Aside0.mk H
                  clear H
                  have p128 : 0 ≤ (x3_1 : Int) := of_decide_eq_true (by first | (with_reducible assumption) | assumption)
                  have q128 : x3_1 < (l0.length : Int) := of_decide_eq_true (by first | (with_reducible assumption) | assumption)
                  obtain ⟨ad128, A128_0, c128_0, e128, hx128_0, hl128_0, hi128_0⟩ := at_L1 HR0.out x3_1 p128 q128
                  cases e128
                  have HR128_0 := Aside0.mk hi128_0
                  have HC128_0 := Aside0.mk hl128_0
                  clear hi128_0 hl128_0
                  replace p128 := eq_true p128
                  replace q128 := eq_true q128
                  have p129 : 0 ≤ (0 : Int) := (by omega)
                  have q129 : 0 < (l0.length : Int) := of_decide_eq_true (by first | (with_reducible assumption) | assumption)
                  obtain ⟨ad129, A129_0, c129_0, e129, hx129_0, hl129_0, hi129_0⟩ := at_L1 HR0.out 0 p129 q129
                  obtain rfl : ad128 = ad129 := (by injection e129)
                  have qi129 : (0 < l0.length) = True := eq_true (by omega)
                  (try rw [show ((0 : Int)).toNat = 0 from rfl] at hx129_0)
                  (try rw [Addr.add_zero'] at hx129_0)
                  have HR129_0 := Aside0.mk hi129_0
                  have HC129_0 := Aside0.mk hl129_0
                  clear hi129_0 hl129_0
                  replace p129 := eq_true p129
                  replace q129 := eq_true q129
                  have p130 : 0 ≤ (x3_1 : Int) := of_decide_eq_true (by first | (with_reducible assumption) | assumption)
                  have q130 : x3_1 < (l0.length : Int) := of_decide_eq_true (by first | (with_reducible assumption) | assumption)
                  obtain ⟨ad130, A130_0, c130_0, e130, hx130_0, hl130_0, hi130_0⟩ := at_L1 HR0.out x3_1 p130 q130
                  obtain rfl : ad128 = ad130 := (by injection e130)
                  have HR130_0 := Aside0.mk hi130_0
                  have HC130_0 := Aside0.mk hl130_0
                  clear hi130_0 hl130_0
                  replace p130 := eq_true p130
                  replace q130 := eq_true q130
                  have ea_ := Option.some.inj (hx128_0.symm.trans hx130_0)
                  injection ea_ with ea_ en_ ec_
                  subst ea_
                  subst ec_
                  clear en_
                  go_wp2
                  repeat (go_quiet (fail); try go_wp2)
                  go_roundg k1
                  case measure => have := HK1.out; omega
                  case rel => exact ⟨(wrap64 (x3_1 + 1)), (by first | rfl | (simp; done) | (simp [*]; done)), H', ⟨by have := HK1.out; omega⟩, by repeat (first | exact Drawn0.refl _ | apply Drawn0.step)⟩
              · rw [if_neg c6] at H
                have c6b0 : (((rd_L1 l0 x3_1).length : Int) == ((rd_L1 l0 0).length : Int)) = false := beq_eq_false_iff_ne.mpr c6
                have c6b1 : (((rd_L1 l0 x3_1).length : Int) != ((rd_L1 l0 0).length : Int)) = true := bne_iff_ne.mpr c6
                have c6b2 : ((rd_L1 l0 x3_1).length == (rd_L1 l0 0).length) = false := by first | simpa using c6 | (simp at c6 ⊢; omega)
                obtain rfl := Option.some.inj H
                have p128 : 0 ≤ (x3_1 : Int) := of_decide_eq_true (by first | (with_reducible assumption) | assumption)
                have q128 : x3_1 < (l0.length : Int) := of_decide_eq_true (by first | (with_reducible assumption) | assumption)
                obtain ⟨ad128, A128_0, c128_0, e128, hx128_0, hl128_0, hi128_0⟩ := at_L1 HR0.out x3_1 p128 q128
                cases e128
                have HR128_0 := Aside0.mk hi128_0
                have HC128_0 := Aside0.mk hl128_0
                clear hi128_0 hl128_0
                replace p128 := eq_true p128
                replace q128 := eq_true q128
                have p129 : 0 ≤ (0 : Int) := (by omega)
                have q129 : 0 < (l0.length : Int) := of_decide_eq_true (by first | (with_reducible assumption) | assumption)
                obtain ⟨ad129, A129_0, c129_0, e129, hx129_0, hl129_0, hi129_0⟩ := at_L1 HR0.out 0 p129 q129
                obtain rfl : ad128 = ad129 := (by injection e129)
                have qi129 : (0 < l0.length) = True := eq_true (by omega)
                (try rw [show ((0 : Int)).toNat = 0 from rfl] at hx129_0)
                (try rw [Addr.add_zero'] at hx129_0)
                have HR129_0 := Aside0.mk hi129_0
                have HC129_0 := Aside0.mk hl129_0
                clear hi129_0 hl129_0
                replace p129 := eq_true p129
                replace q129 := eq_true q129
                go_wp2
                repeat (go_quiet (fail); try go_wp2)
                go_ret
                exact ⟨by first | rfl | (simp; done) | (simp [*]; done), by repeat (first | exact Drawn0.refl _ | apply Drawn0.step)⟩
            · rw [if_neg c5] at H
              exact absurd H (by simp)
          · rw [if_neg c4] at H
            exact absurd H (by simp)
        · rw [if_neg c3] at H
          have c3b0 : decide (x3_1 < (l0.length : Int)) = false := decide_eq_false c3
          clear c3
          obtain rfl := Option.some.inj H
          go_wp2
          repeat (go_quiet (fail); try go_wp2)
          go_ret
          exact ⟨by first | rfl | (simp; done) | (simp [*]; done), by repeat (first | exact Drawn0.refl _ | apply Drawn0.step)⟩

/-! ### kinkeepref04_Cols: function 21 -/
def kinkeepref04_Cols.f (l0 : List (List Int)) : Option (Int) := if (l0.length : Int) = 0 then (some 0) else (if 0 < (l0.length : Int) then (some ((rd_L1 l0 0).length : Int)) else (none))
set_option maxHeartbeats 8000000 in
set_option maxRecDepth 100000 in
theorem kinkeepref04_Cols.calls (A0 : Option Addr) (c0 : Nat) (l0 : List (List Int)) (r : Int) (w : World) (hr0 : Kd.C (Kd.slice 5 (Kd.int .u8)) w A0 l0.length l0) (hc0 : l0.length ≤ c0) (h : kinkeepref04_Cols.f l0 = some r) :
    Calls Try.prog 21 #[.slice A0 l0.length c0] w fun e w' => e = .returned (.int .i64 r) ∧ Drawn0 w w' := by
  have HR0 := Aside0.mk hr0
  have HC0 := Aside0.mk hc0
  clear hr0 hc0
  have H : (if (l0.length : Int) = 0 then (some 0) else (if 0 < (l0.length : Int) then (some ((rd_L1 l0 0).length : Int)) else (none))) = some r := h
  clear h
  by_cases c2 : (l0.length : Int) = 0
  · rw [if_pos c2] at H
    have c2b0 : ((l0.length : Int) == 0) = true := beq_iff_eq.mpr c2
    have c2b1 : ((l0.length : Int) != 0) = false := bne_eq_false_iff_eq.mpr c2
    clear c2
    obtain rfl := Option.some.inj H
    go_enter Try.func21, Try.ntmps21
    go_wp2
    go_ret
    exact ⟨by first | rfl | (simp; done) | (simp [*]; done), by repeat (first | exact Drawn0.refl _ | apply Drawn0.step)⟩
  · rw [if_neg c2] at H
    have c2b0 : ((l0.length : Int) == 0) = false := beq_eq_false_iff_ne.mpr c2
    have c2b1 : ((l0.length : Int) != 0) = true := bne_iff_ne.mpr c2
    have c2b2 : ¬ (l0 = []) := fun h_ => c2 (by rw [h_]; rfl)
    by_cases c3 : 0 < (l0.length : Int)
    · rw [if_pos c3] at H
      have c3b0 : decide (0 < (l0.length : Int)) = true := decide_eq_true c3
      have c3b1 : decide (0 < l0.length) = true := decide_eq_true (by omega)
      clear c3
      obtain rfl := Option.some.inj H
      have p131 : 0 ≤ (0 : Int) := (by omega)
      have q131 : 0 < (l0.length : Int) := of_decide_eq_true (by first | (with_reducible assumption) | assumption)
      obtain ⟨ad131, A131_0, c131_0, e131, hx131_0, hl131_0, hi131_0⟩ := at_L1 HR0.out 0 p131 q131
      cases e131
      have qi131 : (0 < l0.length) = True := eq_true (by omega)
      (try rw [show ((0 : Int)).toNat = 0 from rfl] at hx131_0)
      (try rw [Addr.add_zero'] at hx131_0)
      have HR131_0 := Aside0.mk hi131_0
      have HC131_0 := Aside0.mk hl131_0
      clear hi131_0 hl131_0
      replace p131 := eq_true p131
      replace q131 := eq_true q131
      go_enter Try.func21, Try.ntmps21
      go_wp2
      go_ret
      exact ⟨by first | rfl | (simp; done) | (simp [*]; done), by repeat (first | exact Drawn0.refl _ | apply Drawn0.step)⟩
    · rw [if_neg c3] at H
      exact absurd H (by simp)

/-! ### kinkeepref04_Zero: function 26 -/
def kinkeepref04_Zero.l0 : Nat → Int → Int → List (List Int) → Int → Option ((List (List Int)))
  | 0, _, _, _, _ => none
  | k + 1, x0, x1, x5, x6 => if x6 < x0 then (if 0 ≤ x1 then (if (x1 : Int).toNat ≤ 281474976710656 then (if x5.length < 5864062014805 then (kinkeepref04_Zero.l0 k x0 x1 (x5 ++ [(List.replicate (x1 : Int).toNat 0)]) (wrap64 (x6 + 1))) else (none)) else (none)) else (none)) else (some x5)
def kinkeepref04_Zero.f (k : Nat) (a0 : Int) (a1 : Int) : Option ((List (List Int))) := kinkeepref04_Zero.l0 k a0 a1 (([] : List (List Int))) 0
theorem kinkeepref04_Zero.mono_l : ∀ k, (∀ y0 y1 y2 y3, LeO (kinkeepref04_Zero.l0 k y0 y1 y2 y3) (kinkeepref04_Zero.l0 (k + 1) y0 y1 y2 y3))
  | 0 => fun _ _ _ _ r h => by simp [kinkeepref04_Zero.l0] at h
  | k + 1 => by
    have ih0 := kinkeepref04_Zero.mono_l k
    · intro y0 y1 y2 y3
      unfold kinkeepref04_Zero.l0
      repeat' first
      | (with_reducible exact ih0 _ _ _ _)
      | (with_reducible exact LeO.refl _)
      | (with_reducible exact LeO.none _)
      | (with_reducible refine LeO.ite ?_ ?_)
      | (with_reducible refine LeO.bind ?_ (fun _ => ?_))
      | exact ih0 _ _ _ _
      | exact LeO.none _
      | refine LeO.ite ?_ ?_
      | refine LeO.bind ?_ (fun _ => ?_)
theorem kinkeepref04_Zero.mono : ∀ a0 a1 k, LeO (kinkeepref04_Zero.f k a0 a1) (kinkeepref04_Zero.f (k + 1) a0 a1) := by
  intro a0 a1 k
  have ih0 := kinkeepref04_Zero.mono_l k
  unfold kinkeepref04_Zero.f
  repeat' first
      | (with_reducible exact ih0 _ _ _ _)
      | (with_reducible exact LeO.refl _)
      | (with_reducible exact LeO.none _)
      | (with_reducible refine LeO.ite ?_ ?_)
      | (with_reducible refine LeO.bind ?_ (fun _ => ?_))
      | exact ih0 _ _ _ _
      | exact LeO.none _
      | refine LeO.ite ?_ ?_
      | refine LeO.bind ?_ (fun _ => ?_)
set_option maxHeartbeats 8000000 in
set_option maxRecDepth 100000 in
theorem kinkeepref04_Zero.calls (k : Nat) (a0 : Int) (a1 : Int) (r : List (List Int)) (w : World) (h : kinkeepref04_Zero.f k a0 a1 = some r) :
    Calls Try.prog 26 #[.int .i64 a0, .int .i64 a1] w fun e w' => ∃ v0_ : Value, e = .returned (v0_) ∧ Kd.S (Kd.slice 5 (Kd.int .u8)) 34 w' w.heap.size (fun _ => True) v0_ r ∧ Below w.heap.size w w' := by
  have HB := Aside0.mk (Below.refl w.heap.size w)
  have H : (kinkeepref04_Zero.l0 k a0 a1 (([] : List (List Int))) 0) = some r := h
  clear h
  obtain ⟨y132, hy132⟩ : ∃ y_ : List (List Int), y_ = (([] : List (List Int))) := ⟨_, rfl⟩
  replace H : (kinkeepref04_Zero.l0 k a0 a1 y132 0) = some r := by first | (rw [hy132]; with_reducible exact H) | (have H2_ := (Option.bind_some _ _).symm.trans H; rw [hy132]; with_reducible exact H2_) | (have H2_ := (Option.bind_some _ _).symm.trans H; with_reducible exact H2_) | with_reducible exact H | (rw [hy132]; exact H) | exact H
  have Ny132 := Aside0.mk hy132
  clear hy132
  have H' := Aside0.mk H
  clear H
  go_enter Try.func26, Try.ntmps26
  go_wp2_with (first | ((with_reducible refine gate_dst (N := 7) rfl ?_); refine Kd.S_lit (Kd.slice 5 (Kd.int .u8)) _ 34 ?hg (N := 7) ?hd (xs := ([] : List (List Int))) (inner := []) (ok := fun _ => True) (okp := fun _ => True) ?hr ?hp (fun _ hk => hk) trivial (Below.refl _ _) (Nat.le_refl _) (by simp) ?_; (case hd => rfl); (case hg => rfl); (case hr => first | (go_simp; done) | (go_simp; rfl)); (case hp => exact (Reps.none _ _)); intro v133 w3 ho4 hb hg_ hnew_; clear hg_ hnew_; (first | rw [← Ny132.out] at ho4 | (simp only [Int.reduceToNat] at ho4; rw [← Ny132.out] at ho4)); have n0_ := Aside0.mk (Kd.S_lower ho4 (below_size (by repeat (first | (with_reducible first | exact HB.out | apply below_alloc | apply pw_below_drewN | apply below_drew1) | exact HB.out)))); have n1_ := Aside0.mk (below_step (by repeat (first | (with_reducible first | exact HB.out | apply below_alloc | apply pw_below_drewN | apply below_drew1) | exact HB.out)) hb); clear HB; have HO134 := n0_; have HB := n1_; clear n0_ n1_; clear hb ho4))
  go_loopg [5, 6] k (fun kq v5 v6 w' => ∃ (x5_1 : List (List Int)) (x6_1 : Int), v6 = .int .i64 x6_1 ∧ Aside0 (kinkeepref04_Zero.l0 kq a0 a1 x5_1 x6_1 = some r) ∧ Aside0 (kq ≤ k) ∧ Aside0 (Kd.S (Kd.slice 5 (Kd.int .u8)) 34 w' w.heap.size (fun _ => True) v5 x5_1) ∧ Aside0 (Below w.heap.size w w'))
  case atStart => exact ⟨(y132), (0), (by first | rfl | (simp; done) | (simp [*]; done)), H', ⟨Nat.le_refl _⟩, ⟨by (with_reducible repeat (first | apply Kd.S_alloc | apply Kd.S_drewN | apply Kd.S_drew)); exact HO134.out⟩, ⟨by repeat (first | (with_reducible first | exact HB.out | apply below_alloc | apply pw_below_drewN | apply below_drew1) | exact HB.out)⟩⟩
  case round =>
    clear H'
    try clear c2
    try clear p2
    obtain ⟨x5_1, x6_1, rfl, HA, HK1, HO_5, HB⟩ := hrel
    cases gk with
    | zero => exact absurd HA.out (by simp [kinkeepref04_Zero.l0])
    | succ k1 =>
      have H := HA.out
      clear HA
      simp only [kinkeepref04_Zero.l0] at H
      by_cases c5 : x6_1 < a0
      · rw [if_pos c5] at H
        have c5b0 : decide (x6_1 < a0) = true := decide_eq_true c5
        clear c5
        by_cases c6 : 0 ≤ a1
        · rw [if_pos c6] at H
          have c6b0 := eq_true c6
          have c6b1 : decide (0 ≤ a1) = true := decide_eq_true c6
          clear c6
          by_cases c7 : (a1 : Int).toNat ≤ 281474976710656
          · rw [if_pos c7] at H
            have c7b0 := eq_true c7
            have c7b1 : decide ((a1 : Int).toNat ≤ 281474976710656) = true := decide_eq_true c7
            clear c7
            obtain ⟨y135, hy135⟩ : ∃ y_ : List Int, y_ = (List.replicate (a1 : Int).toNat 0) := ⟨_, rfl⟩
            replace H : (if x5_1.length < 5864062014805 then (kinkeepref04_Zero.l0 k1 a0 a1 (x5_1 ++ [y135]) (wrap64 (x6_1 + 1))) else (none)) = some r := by first | (rw [hy135]; with_reducible exact H) | (have H2_ := (Option.bind_some _ _).symm.trans H; rw [hy135]; with_reducible exact H2_) | (have H2_ := (Option.bind_some _ _).symm.trans H; with_reducible exact H2_) | with_reducible exact H | (rw [hy135]; exact H) | exact H
            have Ny135 := Aside0.mk hy135
            clear hy135
            by_cases c8 : x5_1.length < 5864062014805
            · rw [if_pos c8] at H
              have LMc8 := Aside0.mk c8
              clear c8
              obtain ⟨y138, hy138⟩ : ∃ y_ : List (List Int), y_ = (x5_1 ++ [y135]) := ⟨_, rfl⟩
              replace H : (kinkeepref04_Zero.l0 k1 a0 a1 y138 (wrap64 (x6_1 + 1))) = some r := by first | (rw [hy138]; with_reducible exact H) | (have H2_ := (Option.bind_some _ _).symm.trans H; rw [hy138]; with_reducible exact H2_) | (have H2_ := (Option.bind_some _ _).symm.trans H; with_reducible exact H2_) | with_reducible exact H | (rw [hy138]; exact H) | exact H
              have Ny138 := Aside0.mk hy138
              clear hy138
              have H' := Aside0.mk H
              clear H
              go_wp2_with (first | ((with_reducible refine gate_dst (N := 15) rfl ?_); refine Kd.R_make (Kd.int .u8) _ 5 rfl (N := 15) rfl 34 _ _ rfl a1 rfl rfl Try.underlying34 (.int .u8 0) 1 info5 rfl (by decide) (by omega) 0 (ok := fun _ => True) (okp := fun _ => True) rfl (fun _ hk => hk) trivial (of_decide_eq_true (by first | (with_reducible assumption) | assumption)) (Nat.le_trans (Nat.mul_le_mul_right _ (of_decide_eq_true (by first | (with_reducible assumption) | assumption) : a1.toNat ≤ 281474976710656)) (by omega)) (Below.refl _ _) (Nat.le_refl _) ?_; intro v136 w9 ho10 hb hg_ hnew_; clear hg_ hnew_; (first | rw [← Ny135.out] at ho10 | (simp only [Int.reduceToNat] at ho10; rw [← Ny135.out] at ho10)); have n0_ := Aside0.mk (Kd.S_elder' (by (with_reducible repeat (first | apply Kd.S_alloc | apply Kd.S_drewN | apply Kd.S_drew)); exact HO_5.out) (Kd.R_base ho10) hb); have n1_ := Aside0.mk (Kd.R_lower ho10 (below_size (by repeat (first | (with_reducible first | exact HB.out | apply below_alloc | apply pw_below_drewN | apply below_drew1) | exact HB.out)))); have n2_ := Aside0.mk (below_step (by repeat (first | (with_reducible first | exact HB.out | apply below_alloc | apply pw_below_drewN | apply below_drew1) | exact HB.out)) hb); clear HO_5; clear HB; have HO_5 := n0_; have HO137 := n1_; have HB := n2_; clear n0_ n1_ n2_; clear hb ho10; obtain ⟨Ao12, co12, eo12⟩ := Kd.R_slice HO137.out; subst eo12) | ((with_reducible refine gate_builtin (b := .append) (xs := #[.tmp 13, .tmp 16]) rfl ?_); at_builtin; refine Kd.S_append (Kd.slice 5 (Kd.int .u8)) (w0 := w) w.heap.size rfl (.tmp 13) (.tmp 16) 22 34 (.slice none 0 0) 24 rfl Try.underlying22 info34 rfl (by decide) (by omega) u5 x5_1 y135 [.slice Ao12 y135.length co12] (fun _ => True) (fun k_ => some k_ = (.slice Ao12 y135.length co12 : Value).ownBlock) rfl rfl ?aP (fun k_ hk_ => ((Kd.R_mono (ok' := fun k_ => ((fun _ => True)) k_ ∧ some k_ ≠ (u5 : Value).ownBlock) (Kd.R_apart' (HO137.out) (Kd.S_typed HO_5.out) (by decide)) (fun k_ hk => ⟨trivial, hk.2⟩))).1 k_ hk_.symm) ?aF ?aO ?aB ?aS ?aL ?_; (case aP => exact Kd.M_row (Kd.R_mono (Kd.R_tight rfl (Kd.R_mono (ok' := fun k_ => ((fun _ => True)) k_ ∧ some k_ ≠ (u5 : Value).ownBlock) (Kd.R_apart' (HO137.out) (Kd.S_typed HO_5.out) (by decide)) (fun k_ hk => ⟨trivial, hk.2⟩))) (fun _ h_ => h_))); (case aB => exact (by repeat (first | (with_reducible first | exact HB.out | apply below_alloc | apply pw_below_drewN | apply below_drew1) | exact HB.out))); (case aF => exact (fun _ _ => trivial)); (case aO => exact (by (with_reducible repeat (first | apply Kd.S_alloc | apply Kd.S_drewN | apply Kd.S_drew)); exact Kd.S_mono HO_5.out (fun k_ hk => ⟨trivial, fun e_ => hk.2 e_⟩))); (case aS => exact (below_size (by repeat (first | (with_reducible first | exact HB.out | apply below_alloc | apply pw_below_drewN | apply below_drew1) | exact HB.out)))); (case aL => have := LMc8.out; omega); intro v139 w11 ho hb hg hat; rw [← Ny138.out] at ho; have n0_ := Aside0.mk (hb); have n1_ := Aside0.mk (ho); clear HB; clear HO_5; clear HO137; have HB := n0_; have HO140 := n1_; clear n0_ n1_; clear ho hb hg hat))
              go_roundg k1
              case measure => have := HK1.out; omega
              case rel => exact ⟨(y138), (wrap64 (x6_1 + 1)), (by first | rfl | (simp; done) | (simp [*]; done)), H', ⟨by have := HK1.out; omega⟩, ⟨by (with_reducible repeat (first | apply Kd.S_alloc | apply Kd.S_drewN | apply Kd.S_drew)); exact HO140.out⟩, ⟨by repeat (first | (with_reducible first | exact HB.out | apply below_alloc | apply pw_below_drewN | apply below_drew1) | exact HB.out)⟩⟩
            · rw [if_neg c8] at H
              exact absurd H (by simp)
          · rw [if_neg c7] at H
            exact absurd H (by simp)
        · rw [if_neg c6] at H
          exact absurd H (by simp)
      · rw [if_neg c5] at H
        have c5b0 : decide (x6_1 < a0) = false := decide_eq_false c5
        clear c5
        obtain rfl := Option.some.inj H
        go_wp2
        go_ret
        exact ⟨_, by first | rfl | (simp [errW_none, errW_some] <;> rfl) | (simp [*, errW_none, errW_some] <;> rfl), by (with_reducible repeat (first | apply Kd.S_alloc | apply Kd.S_drewN | apply Kd.S_drew)); exact HO_5.out, by repeat (first | (with_reducible first | exact HB.out | apply below_alloc | apply pw_below_drewN | apply below_drew1) | exact HB.out)⟩

/-! ### kinkeepref04_Identity: function 51 -/
def kinkeepref04_Identity.l0 : Nat → Int → List (List Int) → Int → Option ((List (List Int)))
  | 0, _, _, _ => none
  | k + 1, x0, x3, x4 => if x4 < x0 then (if 0 ≤ x4 then (if x4 < (x3.length : Int) then (if x4 < ((rd_L1 x3 x4).length : Int) then (kinkeepref04_Identity.l0 k x0 (x3.set (x4 : Int).toNat ((rd_L1 x3 x4).set (x4 : Int).toNat 1)) (wrap64 (x4 + 1))) else (none)) else (none)) else (none)) else (some x3)
def kinkeepref04_Identity.f (k : Nat) (a0 : Int) : Option ((List (List Int))) := (kinkeepref04_Zero.f k a0 a0).bind fun t141 => (kinkeepref04_Identity.l0 k a0 t141 0)
theorem kinkeepref04_Identity.mono_l : ∀ k, (∀ y0 y1 y2, LeO (kinkeepref04_Identity.l0 k y0 y1 y2) (kinkeepref04_Identity.l0 (k + 1) y0 y1 y2))
  | 0 => fun _ _ _ r h => by simp [kinkeepref04_Identity.l0] at h
  | k + 1 => by
    have ih0 := kinkeepref04_Identity.mono_l k
    · intro y0 y1 y2
      unfold kinkeepref04_Identity.l0
      repeat' first
      | (with_reducible exact ih0 _ _ _)
      | (with_reducible exact kinkeepref04_Zero.mono _ _ _)
      | (with_reducible exact LeO.refl _)
      | (with_reducible exact LeO.none _)
      | (with_reducible refine LeO.ite ?_ ?_)
      | (with_reducible refine LeO.bind ?_ (fun _ => ?_))
      | exact ih0 _ _ _
      | exact kinkeepref04_Zero.mono _ _ _
      | exact LeO.none _
      | refine LeO.ite ?_ ?_
      | refine LeO.bind ?_ (fun _ => ?_)
theorem kinkeepref04_Identity.mono : ∀ a0 k, LeO (kinkeepref04_Identity.f k a0) (kinkeepref04_Identity.f (k + 1) a0) := by
  intro a0 k
  have ih0 := kinkeepref04_Identity.mono_l k
  unfold kinkeepref04_Identity.f
  repeat' first
      | (with_reducible exact ih0 _ _ _)
      | (with_reducible exact kinkeepref04_Zero.mono _ _ _)
      | (with_reducible exact LeO.refl _)
      | (with_reducible exact LeO.none _)
      | (with_reducible refine LeO.ite ?_ ?_)
      | (with_reducible refine LeO.bind ?_ (fun _ => ?_))
      | exact ih0 _ _ _
      | exact kinkeepref04_Zero.mono _ _ _
      | exact LeO.none _
      | refine LeO.ite ?_ ?_
      | refine LeO.bind ?_ (fun _ => ?_)
set_option maxHeartbeats 8000000 in
set_option maxRecDepth 100000 in
theorem kinkeepref04_Identity.calls (k : Nat) (a0 : Int) (r : List (List Int)) (w : World) (h : kinkeepref04_Identity.f k a0 = some r) :
    Calls Try.prog 51 #[.int .i64 a0] w fun e w' => ∃ v0_ : Value, e = .returned (v0_) ∧ Kd.S (Kd.slice 5 (Kd.int .u8)) 34 w' w.heap.size (fun _ => True) v0_ r ∧ Below w.heap.size w w' := by
  have HB := Aside0.mk (Below.refl w.heap.size w)
  have H : ((kinkeepref04_Zero.f k a0 a0).bind fun t141 => (kinkeepref04_Identity.l0 k a0 t141 0)) = some r := h
  clear h
  replace H := Option.bind_eq_some_iff.mp H
  obtain ⟨t141, A20, H⟩ := H
  replace H : (kinkeepref04_Identity.l0 k a0 t141 0) = some r := H
  have A2 := Aside0.mk A20
  clear A20
  have H' := Aside0.mk H
  clear H
  go_enter Try.func51, Try.ntmps51
  go_wp2_with (first | ((with_reducible refine gate_callee (f := 26) rfl ?_); refine goesL_ (some 7) rfl rfl Try.func26 (by kernel_rfl) rfl #[.int .i64 a0, .int .i64 a0] rfl (by (try simp only [List.map_toArray, List.map_cons, List.map_nil]); first | done | rfl | (simp only [List.length_drop, List.length_take]; rfl)) ?_; (with_reducible refine (kinkeepref04_Zero.calls k a0 a0 t141 _ A2.out).mono ?_); rintro e w3 ⟨v142, rfl, ho0, hb⟩; refine ⟨_, rfl, ?_⟩; have n0_ := Aside0.mk (Kd.S_lower ho0 (below_size (by repeat (first | (with_reducible first | exact HB.out | apply below_alloc | apply pw_below_drewN | apply below_drew1) | exact HB.out)))); have n1_ := Aside0.mk (below_step (by repeat (first | (with_reducible first | exact HB.out | apply below_alloc | apply pw_below_drewN | apply below_drew1) | exact HB.out)) hb); clear HB; have HO143 := n0_; have HB := n1_; clear n0_ n1_; (try clear hb); (try clear hb2); (try clear hk); (try clear hi); (try clear ho0)))
  go_loopg [4] k (fun kq v4 w' => ∃ (x3_1 : List (List Int)) (x4_1 : Int), v4 = .int .i64 x4_1 ∧ Aside0 (kinkeepref04_Identity.l0 kq a0 x3_1 x4_1 = some r) ∧ Aside0 (kq ≤ k) ∧ Aside0 (Kd.S (Kd.slice 5 (Kd.int .u8)) 34 w' w.heap.size (fun _ => True) v142 x3_1) ∧ Aside0 (Below w.heap.size w w'))
  case atStart => exact ⟨(t141), (0), (by first | rfl | (simp; done) | (simp [*]; done)), H', ⟨Nat.le_refl _⟩, ⟨by (with_reducible repeat (first | apply Kd.S_alloc | apply Kd.S_drewN | apply Kd.S_drew)); exact HO143.out⟩, ⟨by repeat (first | (with_reducible first | exact HB.out | apply below_alloc | apply pw_below_drewN | apply below_drew1) | exact HB.out)⟩⟩
  case round =>
    clear H'
    try clear c2
    try clear p2
    obtain ⟨x3_1, x4_1, rfl, HA, HK1, HO_3, HB⟩ := hrel
    cases gk with
    | zero => exact absurd HA.out (by simp [kinkeepref04_Identity.l0])
    | succ k1 =>
      have H := HA.out
      clear HA
      simp only [kinkeepref04_Identity.l0] at H
      by_cases c4 : x4_1 < a0
      · rw [if_pos c4] at H
        have c4b0 : decide (x4_1 < a0) = true := decide_eq_true c4
        clear c4
        by_cases c5 : 0 ≤ x4_1
        · rw [if_pos c5] at H
          have c5b0 : decide (0 ≤ x4_1) = true := decide_eq_true c5
          clear c5
          by_cases c6 : x4_1 < (x3_1.length : Int)
          · rw [if_pos c6] at H
            have c6b0 : decide (x4_1 < (x3_1.length : Int)) = true := decide_eq_true c6
            clear c6
            by_cases c7 : x4_1 < ((rd_L1 x3_1 x4_1).length : Int)
            · rw [if_pos c7] at H
              have c7b0 : decide (x4_1 < ((rd_L1 x3_1 x4_1).length : Int)) = true := decide_eq_true c7
              clear c7
              obtain ⟨y145, hy145⟩ : ∃ y_ : List Int, y_ = ((rd_L1 x3_1 x4_1).set (x4_1 : Int).toNat 1) := ⟨_, rfl⟩
              replace H : (kinkeepref04_Identity.l0 k1 a0 (x3_1.set (x4_1 : Int).toNat y145) (wrap64 (x4_1 + 1))) = some r := by first | (rw [hy145]; with_reducible exact H) | (have H2_ := (Option.bind_some _ _).symm.trans H; rw [hy145]; with_reducible exact H2_) | (have H2_ := (Option.bind_some _ _).symm.trans H; with_reducible exact H2_) | with_reducible exact H | (rw [hy145]; exact H) | exact H
              have Ny145 := Aside0.mk hy145
              clear hy145
              obtain ⟨y147, hy147⟩ : ∃ y_ : List (List Int), y_ = (x3_1.set (x4_1 : Int).toNat y145) := ⟨_, rfl⟩
              replace H : (kinkeepref04_Identity.l0 k1 a0 y147 (wrap64 (x4_1 + 1))) = some r := by first | (rw [hy147]; with_reducible exact H) | (have H2_ := (Option.bind_some _ _).symm.trans H; rw [hy147]; with_reducible exact H2_) | (have H2_ := (Option.bind_some _ _).symm.trans H; with_reducible exact H2_) | with_reducible exact H | (rw [hy147]; exact H) | exact H
              have Ny147 := Aside0.mk hy147
              clear hy147
              have H' := Aside0.mk H
              clear H
              obtain ⟨Ao9, co9, eo9⟩ := Kd.S_slice HO_3.out
              subst eo9
              have p144 : 0 ≤ (x4_1 : Int) := of_decide_eq_true (by first | (with_reducible assumption) | assumption)
              have q144 : x4_1 < (x3_1.length : Int) := of_decide_eq_true (by first | (with_reducible assumption) | assumption)
              obtain ⟨ad144, A144_0, c144_0, e144, hx144_0, hl144_0, hi144_0⟩ := at_L1 (Kd.S_reads' HO_3.out).2.2 x4_1 p144 q144
              cases e144
              obtain ⟨ce144, hce144, hMe144, hcc144⟩ := Kd.S_get HO_3.out [] x4_1 p144 (by first | exact q144 | exact of_decide_eq_true (by first | (with_reducible assumption) | assumption) | (have e_ := (Kd.S_reads' HO_3.out).1; omega))
              obtain ⟨ve144_0, rfl, ge144_0⟩ := hMe144
              have hv144_0 := hcc144 0 _ rfl
              rw [Nat.add_zero, show ((Kd.slice 5 (Kd.int .u8))).sz = 1 from rfl, Nat.mul_one] at hv144_0
              replace hv144_0 := Option.some.inj (hv144_0.symm.trans hx144_0)
              rw [hv144_0] at ge144_0
              have HL144_0 := Aside0.mk (show Kd.R (Kd.int .u8) 5 _ _ _ _ (rd_L1 x3_1 x4_1) from ge144_0)
              clear hv144_0 ge144_0
              have HX144_0 := Aside0.mk hx144_0
              clear hcc144 hce144
              have HR144_0 := Aside0.mk hi144_0
              have HC144_0 := Aside0.mk hl144_0
              clear hi144_0 hl144_0
              replace p144 := eq_true p144
              replace q144 := eq_true q144
              have p8 : 0 ≤ (x4_1 : Int) := of_decide_eq_true (by first | (with_reducible assumption) | assumption)
              have q8 : (x4_1 : Int) < (((rd_L1 x3_1 x4_1).length : Int) : Int) := of_decide_eq_true (by first | (with_reducible assumption) | assumption)
              obtain ⟨go8, co8, eo8, gb8, gl8, cl8, HG8⟩ := Kd.R_form HL144_0.out (by omega)
              (first | cases eo8 | (injection eo8 with ea_ en_ ec_; (first | subst ea_ | (injection ea_ with ea_; subst ea_)); subst ec_; clear en_))
              have GB8 := Aside0.mk gb8
              have GG8 := Aside0.mk HG8
              clear gb8 gl8 HG8
              obtain ⟨hx8_0, hf8_0⟩ := Kd.R_celln 0 HL144_0.out (x4_1 : Int) p8 q8
              replace p8 := eq_true p8
              replace q8 := eq_true q8
              have hq10 : (x4_1 : Int) < (x3_1.length : Int) := (by have h_ : (x4_1 : Int) < ((x3_1.length : Int) : Int) := of_decide_eq_true (by first | (with_reducible assumption) | assumption); first | exact h_ | (have e_ := (Kd.S_reads' HO_3.out).1; omega) | simpa only [List.length_set, List.length_set] using h_)
              obtain ⟨oki10, ce10, hcl10, hM10, hcc10, hok10, hbk10⟩ := Kd.S_borrow HO_3.out [] (x4_1 : Int) (of_decide_eq_true (by first | (with_reducible assumption) | assumption)) hq10
              obtain ⟨ve10_0, rfl, ge10_0⟩ := hM10
              have hv10 := hcc10 0 _ rfl
              rw [Nat.add_zero, show ((Kd.slice 5 (Kd.int .u8))).sz = 1 from rfl, Nat.mul_one] at hv10
              replace hv10 := Option.some.inj (hv10.symm.trans HX144_0.out)
              subst hv10
              clear hcc10 hcl10
              replace ge10_0 := (show Kd.R (Kd.int .u8) 5 _ _ _ _ (rd_L1 x3_1 x4_1) from ge10_0)
              have HP10 := Kd.R_putg ge10_0 (x4_1 : Int) 1
              go_wp2_with (first | ((with_reducible refine gate_store (t := 5) (p := 18) rfl ?_); refine store_event (t := 5) (p := 18) (v := ?vo_w11) (w1 := (wr.setCell ⟨go8, (x4_1 : Int).toNat, none⟩ (.int .u8 1))) ?hg ?ho ?hn ?hr ?_; (case ho => rfl); (case hg => rfl); (case hn => rfl); (case hr => first | (go_simp; done) | (go_simp; rfl)); intro w11 hw; have hg : wr.grownBy w11 (some go8) := (by rw [hw]; exact HP10.2); have hz_ : Kd.R (Kd.int .u8) 5 w11 w.heap.size oki10 (.slice (some ⟨go8, 0, none⟩) (rd_L1 x3_1 x4_1).length c144_0) y145 := (by rw [hw, Ny145.out]; exact HP10.1); have hp_ : Kd.S (Kd.slice 5 (Kd.int .u8)) 34 w11 w.heap.size (fun _ => True) (.slice (some ad144) x3_1.length co9) y147 := (by rw [Ny147.out]; exact hbk10 hg (fun k_ e_ => by injection e_ with e_; subst e_; exact ge10_0.1 _ rfl) (Kd.M_row hz_)); have hm_ := Kd.R_mono hz_ hok10; clear HP10 hbk10; have n0_ := Aside0.mk (hp_); have n1_ := Aside0.mk ((by rw [hw]; exact below_set (HB.out) GB8.out : Below w.heap.size w w11)); have n2_ := Aside0.mk (hm_); have n3_ := Aside0.mk ((Kd.R_reads' hm_).2.1); clear HO_3; clear HB; clear HL144_0; have HO_3 := n0_; have HB := n1_; have HL148 := n2_; have HC146 := n3_; clear n0_ n1_ n2_ n3_; clear hg hw hp_ hz_ hm_ hok10))
              go_roundg k1
              case measure => have := HK1.out; omega
              case rel => exact ⟨(y147), (wrap64 (x4_1 + 1)), (by first | rfl | (simp; done) | (simp [*]; done)), H', ⟨by have := HK1.out; omega⟩, ⟨by (with_reducible repeat (first | apply Kd.S_alloc | apply Kd.S_drewN | apply Kd.S_drew)); exact HO_3.out⟩, ⟨by repeat (first | (with_reducible first | exact HB.out | apply below_alloc | apply pw_below_drewN | apply below_drew1) | exact HB.out)⟩⟩
            · rw [if_neg c7] at H
              exact absurd H (by simp)
          · rw [if_neg c6] at H
            exact absurd H (by simp)
        · rw [if_neg c5] at H
          exact absurd H (by simp)
      · rw [if_neg c4] at H
        have c4b0 : decide (x4_1 < a0) = false := decide_eq_false c4
        clear c4
        obtain rfl := Option.some.inj H
        go_wp2
        go_ret
        exact ⟨_, by first | rfl | (simp [errW_none, errW_some] <;> rfl) | (simp [*, errW_none, errW_some] <;> rfl), by (with_reducible repeat (first | apply Kd.S_alloc | apply Kd.S_drewN | apply Kd.S_drew)); exact HO_3.out, by repeat (first | (with_reducible first | exact HB.out | apply below_alloc | apply pw_below_drewN | apply below_drew1) | exact HB.out)⟩

end Go.Proofs.Ytpkghpljgjlmjaa.K
-- Lines of this claim, written by the session's own program kprint.py (it runs print.py).
namespace Go.Proofs.Ytpkghpljgjlmjaa.K
open Go.RowKit Go.Proofs.YtpkghpljgjlmjaaW.PrintWords Go.Proofs.YtpkghpljgjlmjaaW.PrintLast Go.Proofs.YtpkghpljgjlmjaaW.PrintMore
attribute [local go_sem] max2_int min2_int max_two min_two max_three min_three max_four min_four   -- for this text's walks alone
set_option linter.unusedVariables false
set_option linter.unusedSimpArgs false

/-! ### kinkeepref04_Cauchy: function 52 -/
mutual
def kinkeepref04_Cauchy.l0 : Nat → Int → Int → List (List Int) → Int → Option ((List (List Int)))
  | 0, _, _, _, _ => none
  | k + 1, x0, x1, x5, x6 => if x6 < x0 then (kinkeepref04_Cauchy.l1 k x0 x1 x5 x6 0) else (some x5)
def kinkeepref04_Cauchy.l1 : Nat → Int → Int → List (List Int) → Int → Int → Option ((List (List Int)))
  | 0, _, _, _, _, _ => none
  | k + 1, x0, x1, x5, x6, x7 => if x7 < x1 then (if 0 ≤ x6 then (if x6 < (x5.length : Int) then ((kinkeepref04_Inv.f k ((Go.bits .xor .i64 (wrap64 (x1 + x6)) x7) % 256)).bind fun t153 => (if 0 ≤ x7 then (if x7 < ((rd_L1 x5 x6).length : Int) then (kinkeepref04_Cauchy.l1 k x0 x1 (x5.set (x6 : Int).toNat ((rd_L1 x5 x6).set (x7 : Int).toNat t153)) x6 (wrap64 (x7 + 1))) else (none)) else (none))) else (none)) else (none)) else (kinkeepref04_Cauchy.l0 k x0 x1 x5 (wrap64 (x6 + 1)))
end
def kinkeepref04_Cauchy.f (k : Nat) (a0 : Int) (a1 : Int) : Option ((List (List Int))) := (kinkeepref04_Zero.f k a0 a1).bind fun t149 => (kinkeepref04_Cauchy.l0 k a0 a1 t149 0)
theorem kinkeepref04_Cauchy.mono_l : ∀ k, (∀ y0 y1 y2 y3, LeO (kinkeepref04_Cauchy.l0 k y0 y1 y2 y3) (kinkeepref04_Cauchy.l0 (k + 1) y0 y1 y2 y3)) ∧ (∀ y0 y1 y2 y3 y4, LeO (kinkeepref04_Cauchy.l1 k y0 y1 y2 y3 y4) (kinkeepref04_Cauchy.l1 (k + 1) y0 y1 y2 y3 y4))
  | 0 => ⟨fun _ _ _ _ r h => by simp [kinkeepref04_Cauchy.l0] at h, fun _ _ _ _ _ r h => by simp [kinkeepref04_Cauchy.l1] at h⟩
  | k + 1 => by
    obtain ⟨ih0, ih1⟩ := kinkeepref04_Cauchy.mono_l k
    refine ⟨?_, ?_⟩
    · intro y0 y1 y2 y3
      unfold kinkeepref04_Cauchy.l0
      repeat' first
      | (with_reducible exact ih0 _ _ _ _)
      | (with_reducible exact ih1 _ _ _ _ _)
      | (with_reducible exact kinkeepref04_Inv.mono _ _)
      | (with_reducible exact kinkeepref04_Zero.mono _ _ _)
      | (with_reducible exact LeO.refl _)
      | (with_reducible exact LeO.none _)
      | (with_reducible refine LeO.ite ?_ ?_)
      | (with_reducible refine LeO.bind ?_ (fun _ => ?_))
      | exact ih0 _ _ _ _
      | exact ih1 _ _ _ _ _
      | exact kinkeepref04_Inv.mono _ _
      | exact kinkeepref04_Zero.mono _ _ _
      | exact LeO.none _
      | refine LeO.ite ?_ ?_
      | refine LeO.bind ?_ (fun _ => ?_)
    · intro y0 y1 y2 y3 y4
      unfold kinkeepref04_Cauchy.l1
      repeat' first
      | (with_reducible exact ih0 _ _ _ _)
      | (with_reducible exact ih1 _ _ _ _ _)
      | (with_reducible exact kinkeepref04_Inv.mono _ _)
      | (with_reducible exact kinkeepref04_Zero.mono _ _ _)
      | (with_reducible exact LeO.refl _)
      | (with_reducible exact LeO.none _)
      | (with_reducible refine LeO.ite ?_ ?_)
      | (with_reducible refine LeO.bind ?_ (fun _ => ?_))
      | exact ih0 _ _ _ _
      | exact ih1 _ _ _ _ _
      | exact kinkeepref04_Inv.mono _ _
      | exact kinkeepref04_Zero.mono _ _ _
      | exact LeO.none _
      | refine LeO.ite ?_ ?_
      | refine LeO.bind ?_ (fun _ => ?_)
theorem kinkeepref04_Cauchy.mono : ∀ a0 a1 k, LeO (kinkeepref04_Cauchy.f k a0 a1) (kinkeepref04_Cauchy.f (k + 1) a0 a1) := by
  intro a0 a1 k
  obtain ⟨ih0, ih1⟩ := kinkeepref04_Cauchy.mono_l k
  unfold kinkeepref04_Cauchy.f
  repeat' first
      | (with_reducible exact ih0 _ _ _ _)
      | (with_reducible exact ih1 _ _ _ _ _)
      | (with_reducible exact kinkeepref04_Inv.mono _ _)
      | (with_reducible exact kinkeepref04_Zero.mono _ _ _)
      | (with_reducible exact LeO.refl _)
      | (with_reducible exact LeO.none _)
      | (with_reducible refine LeO.ite ?_ ?_)
      | (with_reducible refine LeO.bind ?_ (fun _ => ?_))
      | exact ih0 _ _ _ _
      | exact ih1 _ _ _ _ _
      | exact kinkeepref04_Inv.mono _ _
      | exact kinkeepref04_Zero.mono _ _ _
      | exact LeO.none _
      | refine LeO.ite ?_ ?_
      | refine LeO.bind ?_ (fun _ => ?_)
def kinkeepref04_Cauchy.T8 : Bool × List (List Nat × List Nat) := (true, [([], []), ([], []), ([0, 1], [0, 1]), ([2], [2]), ([], []), ([], []), ([], []), ([5, 6], [5, 6]), ([], []), ([7, 8], [7, 8]), ([9], [9]), ([10], [10]), ([3, 4, 0, 1, 2, 3, 4, 5, 6, 7, 8, 9, 10, 11], [3, 4]), ([12, 11, 11, 0, 1, 2, 3, 4, 5, 6, 7, 8, 9, 10, 11], [11, 12])])
def kinkeepref04_Cauchy.B8 : List Nat := [0, 0, 3, 7, 0, 0, 0, 96, 0, 480, 992, 2016, 4095, 8191]
theorem kinkeepref04_Cauchy.tab8 : rtab .any (opsOf Try.f52 8) = kinkeepref04_Cauchy.T8 := by kernel_rfl
theorem kinkeepref04_Cauchy.bits8 : waitsOk kinkeepref04_Cauchy.T8.2 kinkeepref04_Cauchy.B8 = true := by kernel_rfl
set_option maxHeartbeats 8000000 in
set_option maxRecDepth 100000 in
theorem kinkeepref04_Cauchy.calls (k : Nat) (a0 : Int) (a1 : Int) (r : List (List Int)) (w : World) (h : kinkeepref04_Cauchy.f k a0 a1 = some r) :
    Calls Try.prog 52 #[.int .i64 a0, .int .i64 a1] w fun e w' => ∃ v0_ : Value, e = .returned (v0_) ∧ Kd.S (Kd.slice 5 (Kd.int .u8)) 34 w' w.heap.size (fun _ => True) v0_ r ∧ Below w.heap.size w w' := by
  have HB := Aside0.mk (Below.refl w.heap.size w)
  have H : ((kinkeepref04_Zero.f k a0 a1).bind fun t149 => (kinkeepref04_Cauchy.l0 k a0 a1 t149 0)) = some r := h
  clear h
  replace H := Option.bind_eq_some_iff.mp H
  obtain ⟨t149, A30, H⟩ := H
  replace H : (kinkeepref04_Cauchy.l0 k a0 a1 t149 0) = some r := H
  have A3 := Aside0.mk A30
  clear A30
  have H' := Aside0.mk H
  clear H
  go_enter Try.func52, Try.ntmps52
  go_wp2_with (first | ((with_reducible refine gate_callee (f := 26) rfl ?_); refine goesL_ (some 10) rfl rfl Try.func26 (by kernel_rfl) rfl #[.int .i64 a0, .int .i64 a1] rfl (by (try simp only [List.map_toArray, List.map_cons, List.map_nil]); first | done | rfl | (simp only [List.length_drop, List.length_take]; rfl)) ?_; (with_reducible refine (kinkeepref04_Zero.calls k a0 a1 t149 _ A3.out).mono ?_); rintro e w4 ⟨v150, rfl, ho0, hb⟩; refine ⟨_, rfl, ?_⟩; have n0_ := Aside0.mk (Kd.S_lower ho0 (below_size (by repeat (first | (with_reducible first | exact HB.out | apply below_alloc | apply pw_below_drewN | apply below_drew1) | exact HB.out)))); have n1_ := Aside0.mk (below_step (by repeat (first | (with_reducible first | exact HB.out | apply below_alloc | apply pw_below_drewN | apply below_drew1) | exact HB.out)) hb); clear HB; have HO151 := n0_; have HB := n1_; clear n0_ n1_; (try clear hb); (try clear hb2); (try clear hk); (try clear hi); (try clear ho0)))
  go_loopg [6] k (fun kq v6 w' => ∃ (x5_1 : List (List Int)) (x6_1 : Int), v6 = .int .i64 x6_1 ∧ Aside0 (kinkeepref04_Cauchy.l0 kq a0 a1 x5_1 x6_1 = some r) ∧ Aside0 (kq ≤ k) ∧ Aside0 (Kd.S (Kd.slice 5 (Kd.int .u8)) 34 w' w.heap.size (fun _ => True) v150 x5_1) ∧ Aside0 (Below w.heap.size w w'))
  case atStart => exact ⟨(t149), (0), (by first | rfl | (simp; done) | (simp [*]; done)), H', ⟨Nat.le_refl _⟩, ⟨by (with_reducible repeat (first | apply Kd.S_alloc | apply Kd.S_drewN | apply Kd.S_drew)); exact HO151.out⟩, ⟨by repeat (first | (with_reducible first | exact HB.out | apply below_alloc | apply pw_below_drewN | apply below_drew1) | exact HB.out)⟩⟩
  case round =>
    clear H'
    try clear c2
    try clear p2
    obtain ⟨x5_1, x6_1, rfl, HA, HK1, HO_5, HB⟩ := hrel
    cases gk with
    | zero => exact absurd HA.out (by simp [kinkeepref04_Cauchy.l0])
    | succ k1 =>
      have H := HA.out
      clear HA
      simp only [kinkeepref04_Cauchy.l0] at H
      by_cases c5 : x6_1 < a0
      · rw [if_pos c5] at H
        have c5b0 : decide (x6_1 < a0) = true := decide_eq_true c5
        clear c5
        have H' := Aside0.mk H
        clear H
        go_wp2
        go_loopg [7] k1 (fun kq v7 w' => ∃ (x5_2 : List (List Int)) (x7_2 : Int), v7 = .int .i64 x7_2 ∧ Aside0 (kinkeepref04_Cauchy.l1 kq a0 a1 x5_2 x6_1 x7_2 = some r) ∧ Aside0 (kq ≤ k1) ∧ Aside0 (Kd.S (Kd.slice 5 (Kd.int .u8)) 34 w' w.heap.size (fun _ => True) v150 x5_2) ∧ Aside0 (Below w.heap.size w w'))
        case atStart => exact ⟨(x5_1), (0), (by first | rfl | (simp; done) | (simp [*]; done)), H', ⟨Nat.le_refl _⟩, ⟨by (with_reducible repeat (first | apply Kd.S_alloc | apply Kd.S_drewN | apply Kd.S_drew)); exact HO_5.out⟩, ⟨by repeat (first | (with_reducible first | exact HB.out | apply below_alloc | apply pw_below_drewN | apply below_drew1) | exact HB.out)⟩⟩
        case round =>
          clear H'
          try clear c2
          try clear p2
          try clear c5
          try clear c5b0
          try clear p2
          obtain ⟨x5_2, x7_2, rfl, HA, HK2, HO_5, HB⟩ := hrel
          cases gk with
          | zero => exact absurd HA.out (by simp [kinkeepref04_Cauchy.l1])
          | succ k2 =>
            have H := HA.out
            clear HA
            simp only [kinkeepref04_Cauchy.l1] at H
            by_cases c6 : x7_2 < a1
            · rw [if_pos c6] at H
              have c6b0 : decide (x7_2 < a1) = true := decide_eq_true c6
              clear c6
              by_cases c7 : 0 ≤ x6_1
              · rw [if_pos c7] at H
                have c7b0 : decide (0 ≤ x6_1) = true := decide_eq_true c7
                clear c7
                by_cases c8 : x6_1 < (x5_2.length : Int)
                · rw [if_pos c8] at H
                  have c8b0 : decide (x6_1 < (x5_2.length : Int)) = true := decide_eq_true c8
                  clear c8
                  replace H := Option.bind_eq_some_iff.mp H
                  obtain ⟨t153, A90, H⟩ := H
                  replace H : (if 0 ≤ x7_2 then (if x7_2 < ((rd_L1 x5_2 x6_1).length : Int) then (kinkeepref04_Cauchy.l1 k2 a0 a1 (x5_2.set (x6_1 : Int).toNat ((rd_L1 x5_2 x6_1).set (x7_2 : Int).toNat t153)) x6_1 (wrap64 (x7_2 + 1))) else (none)) else (none)) = some r := H
                  have A9 := Aside0.mk A90
                  clear A90
                  by_cases c10 : 0 ≤ x7_2
                  · rw [if_pos c10] at H
                    have c10b0 : decide (0 ≤ x7_2) = true := decide_eq_true c10
                    clear c10
                    by_cases c11 : x7_2 < ((rd_L1 x5_2 x6_1).length : Int)
                    · rw [if_pos c11] at H
                      have c11b0 : decide (x7_2 < ((rd_L1 x5_2 x6_1).length : Int)) = true := decide_eq_true c11
                      clear c11
                      obtain ⟨y154, hy154⟩ : ∃ y_ : List Int, y_ = ((rd_L1 x5_2 x6_1).set (x7_2 : Int).toNat t153) := ⟨_, rfl⟩
                      replace H : (kinkeepref04_Cauchy.l1 k2 a0 a1 (x5_2.set (x6_1 : Int).toNat y154) x6_1 (wrap64 (x7_2 + 1))) = some r := by first | (rw [hy154]; with_reducible exact H) | (have H2_ := (Option.bind_some _ _).symm.trans H; rw [hy154]; with_reducible exact H2_) | (have H2_ := (Option.bind_some _ _).symm.trans H; with_reducible exact H2_) | with_reducible exact H | (rw [hy154]; exact H) | exact H
                      have Ny154 := Aside0.mk hy154
                      clear hy154
                      obtain ⟨y156, hy156⟩ : ∃ y_ : List (List Int), y_ = (x5_2.set (x6_1 : Int).toNat y154) := ⟨_, rfl⟩
                      replace H : (kinkeepref04_Cauchy.l1 k2 a0 a1 y156 x6_1 (wrap64 (x7_2 + 1))) = some r := by first | (rw [hy156]; with_reducible exact H) | (have H2_ := (Option.bind_some _ _).symm.trans H; rw [hy156]; with_reducible exact H2_) | (have H2_ := (Option.bind_some _ _).symm.trans H; with_reducible exact H2_) | with_reducible exact H | (rw [hy156]; exact H) | exact H
                      have Ny156 := Aside0.mk hy156
                      clear hy156
                      have H' := Aside0.mk H
                      clear H
                      try go_wp2
                      have n0_ := Aside0.mk (Kd.S_drew HO_5.out)
                      have n1_ := Aside0.mk (below_drew1 HB.out)
                      clear HO_5
                      clear HB
                      have HO_5 := n0_
                      have HB := n1_
                      clear n0_ n1_
                      obtain ⟨Ao14, co14, eo14⟩ := Kd.S_slice HO_5.out
                      (first | subst eo14 | (injection eo14 with f1_ f2_ f3_; have f4_ := f1_.symm; have f5_ := f3_.symm; clear f1_ f2_ f3_; subst f4_; subst f5_))
                      have p152 : 0 ≤ (x6_1 : Int) := of_decide_eq_true (by first | (with_reducible assumption) | assumption)
                      have q152 : x6_1 < (x5_2.length : Int) := of_decide_eq_true (by first | (with_reducible assumption) | assumption)
                      obtain ⟨ad152, A152_0, c152_0, e152, hx152_0, hl152_0, hi152_0⟩ := at_L1 (Kd.S_reads' HO_5.out).2.2 x6_1 p152 q152
                      cases e152
                      obtain ⟨ce152, hce152, hMe152, hcc152⟩ := Kd.S_get HO_5.out [] x6_1 p152 (by first | exact q152 | exact of_decide_eq_true (by first | (with_reducible assumption) | assumption) | (have e_ := (Kd.S_reads' HO_5.out).1; omega))
                      obtain ⟨ve152_0, rfl, ge152_0⟩ := hMe152
                      have hv152_0 := hcc152 0 _ rfl
                      rw [Nat.add_zero, show ((Kd.slice 5 (Kd.int .u8))).sz = 1 from rfl, Nat.mul_one] at hv152_0
                      replace hv152_0 := Option.some.inj (hv152_0.symm.trans hx152_0)
                      rw [hv152_0] at ge152_0
                      have HL152_0 := Aside0.mk (show Kd.R (Kd.int .u8) 5 _ _ _ _ (rd_L1 x5_2 x6_1) from ge152_0)
                      clear hv152_0 ge152_0
                      have HX152_0 := Aside0.mk hx152_0
                      clear hcc152 hce152
                      have HR152_0 := Aside0.mk hi152_0
                      have HC152_0 := Aside0.mk hl152_0
                      clear hi152_0 hl152_0
                      replace p152 := eq_true p152
                      replace q152 := eq_true q152
                      refine start_ (n := 14) (S := fun w' => w'.cell? (ad152.add (x6_1).toNat) = some (.slice A152_0 (rd_L1 x5_2 x6_1).length c152_0)) (ds := [13]) #[false, false, false, false, false, false, false, false, false, false, false, false, false, false] (by kernel_rfl) rfl rfl (hx152_0) (fun hHeld => ?_); refine with_tabW kinkeepref04_Cauchy.tab8 kinkeepref04_Cauchy.bits8 (fun HT_ HW_ => ?_)
                      generalize wr.drew = w13 at HO_5 HB HL152_0 HR152_0 HX152_0 hx152_0 hHeld ⊢
                      refine pure_ (i := 0) (N := some 21) (v := ?_) (a' := ?_) #[true, false, false, false, false, false, false, false, false, false, false, false, false, false] rfl rfl (any_of HT_.out (by kernel_rfl)) (fun _ _ _ h => h) (Or.inl ⟨by rfl, ?_⟩) ?_ ?_
                      rotate_left
                      · intro w'
                        go_simp
                        with_reducible rfl
                      rotate_left
                      · simp only [Act.put, List.setIfInBounds_toArray, List.set_cons_zero, List.set_cons_succ, i64_w, i32_w]
                        rfl
                      refine pure_ (i := 1) (N := some 22) (v := ?_) (a' := ?_) #[true, true, false, false, false, false, false, false, false, false, false, false, false, false] rfl rfl (any_of HT_.out (by kernel_rfl)) (fun _ _ _ h => h) (Or.inl ⟨by rfl, ?_⟩) ?_ ?_
                      rotate_left
                      · intro w'
                        go_simp
                        with_reducible rfl
                      rotate_left
                      · simp only [Act.put, List.setIfInBounds_toArray, List.set_cons_zero, List.set_cons_succ, i64_w, i32_w]
                        rfl
                      refine pure_ (i := 2) (N := some 23) (v := ?_) (a' := ?_) #[true, true, true, false, false, false, false, false, false, false, false, false, false, false] rfl rfl (any_of HT_.out (by kernel_rfl)) (fun _ _ _ h => h) (Or.inl ⟨by rfl, ?_⟩) ?_ ?_
                      rotate_left
                      · intro w'
                        go_simp
                        with_reducible rfl
                      rotate_left
                      · simp only [Act.put, List.setIfInBounds_toArray, List.set_cons_zero, List.set_cons_succ, i64_w, i32_w]
                        rfl
                      refine pure_ (i := 4) (N := some 25) (v := ?_) (a' := ?_) #[true, true, true, false, true, false, false, false, false, false, false, false, false, false] rfl rfl (any_of HT_.out (by kernel_rfl)) (fun _ _ _ h => h) (Or.inl ⟨by rfl, ?_⟩) ?_ ?_
                      rotate_left
                      · intro w'
                        go_simp
                        with_reducible rfl
                      rotate_left
                      · simp only [Act.put, List.setIfInBounds_toArray, List.set_cons_zero, List.set_cons_succ, i64_w, i32_w]
                        rfl
                      refine pure_ (i := 5) (N := some 26) (v := ?_) (a' := ?_) #[true, true, true, false, true, true, false, false, false, false, false, false, false, false] rfl rfl (any_of HT_.out (by kernel_rfl)) (fun _ _ _ h => h) (Or.inl ⟨by rfl, ?_⟩) ?_ ?_
                      rotate_left
                      · intro w'
                        go_simp
                        with_reducible rfl
                      rotate_left
                      · simp only [Act.put, List.setIfInBounds_toArray, List.set_cons_zero, List.set_cons_succ, i64_w, i32_w]
                        rfl
                      refine pure_ (i := 6) (N := some 27) (v := ?_) (a' := ?_) #[true, true, true, false, true, true, true, false, false, false, false, false, false, false] rfl rfl (any_of HT_.out (by kernel_rfl)) (fun _ _ _ h => h) (Or.inl ⟨by rfl, ?_⟩) ?_ ?_
                      rotate_left
                      · intro w'
                        go_simp
                        with_reducible rfl
                      rotate_left
                      · simp only [Act.put, List.setIfInBounds_toArray, List.set_cons_zero, List.set_cons_succ, i64_w, i32_w]
                        rfl
                      refine pure_ (i := 7) (N := some 28) (v := ?_) (a' := ?_) #[true, true, true, false, true, true, true, true, false, false, false, false, false, false] rfl rfl (any_of HT_.out (by kernel_rfl)) (fun _ _ _ h => h) (Or.inl ⟨by rfl, ?_⟩) ?_ ?_
                      rotate_left
                      · intro w'
                        go_simp
                        with_reducible rfl
                      rotate_left
                      · simp only [Act.put, List.setIfInBounds_toArray, List.set_cons_zero, List.set_cons_succ, i64_w, i32_w]
                        rfl
                      refine pure_ (i := 8) (N := some 29) (v := ?_) (a' := ?_) #[true, true, true, false, true, true, true, true, true, false, false, false, false, false] rfl rfl (any_of HT_.out (by kernel_rfl)) (fun _ _ _ h => h) (Or.inl ⟨by rfl, ?_⟩) ?_ ?_
                      rotate_left
                      · intro w'
                        go_simp
                        with_reducible rfl
                      rotate_left
                      · simp only [Act.put, List.setIfInBounds_toArray, List.set_cons_zero, List.set_cons_succ, i64_w, i32_w]
                        rfl
                      refine pure_ (i := 9) (N := some 30) (v := ?_) (a' := ?_) #[true, true, true, false, true, true, true, true, true, true, false, false, false, false] rfl rfl (any_of HT_.out (by kernel_rfl)) (fun _ _ _ h => h) (Or.inl ⟨by rfl, ?_⟩) ?_ ?_
                      rotate_left
                      · intro w'
                        go_simp
                        with_reducible rfl
                      rotate_left
                      · simp only [Act.put, List.setIfInBounds_toArray, List.set_cons_zero, List.set_cons_succ, i64_w, i32_w]
                        rfl
                      refine pure_ (i := 10) (N := some 31) (v := ?_) (a' := ?_) #[true, true, true, false, true, true, true, true, true, true, true, false, false, false] rfl rfl (any_of HT_.out (by kernel_rfl)) (fun _ _ _ h => h) (Or.inl ⟨by rfl, ?_⟩) ?_ ?_
                      rotate_left
                      · intro w'
                        go_simp
                        with_reducible rfl
                      rotate_left
                      · simp only [Act.put, List.setIfInBounds_toArray, List.set_cons_zero, List.set_cons_succ, i64_w, i32_w]
                        rfl
                      refine take_ (i := 3) (N := some 24) (v := ?_) (a' := ?_) #[true, true, true, true, true, true, true, true, true, true, true, false, false, false] rfl rfl (take_ofW HT_.out HW_.out (by kernel_rfl)) (fun _ _ _ h => h) (Or.inl ⟨by rfl, ?_⟩) hHeld ?_ ?_
                      rotate_left
                      · intro w' s0
                        go_simp
                        with_reducible rfl
                      rotate_left
                      · simp only [Act.put, List.setIfInBounds_toArray, List.set_cons_zero, List.set_cons_succ, i64_w, i32_w]
                        rfl
                      refine one_ (i := 11) (N := some 32) #[true, true, true, true, true, true, true, true, true, true, true, true, false, false] rfl rfl (one_of HT_.out (by kernel_rfl)) (by decide) (fun K hK => ?_)
                      refine goes_ Try.func61 (by kernel_rfl) rfl #[.int .u8 ((Go.bits .xor .i64 (wrap64 (a1 + x6_1)) x7_2) % 256)] (by rfl) rfl rfl (by (try simp only [List.map_toArray, List.map_cons, List.map_nil]); first | done | rfl | (simp only [List.length_drop, List.length_take]; rfl)) ?_
                      with_reducible refine (kinkeepref04_Inv.calls k2 ((Go.bits .xor .i64 (wrap64 (a1 + x6_1)) x7_2) % 256) t153 _ A9.out).mono ?_
                      rintro e w' ⟨rfl, ⟨nd, rfl⟩⟩
                      refine ⟨_, rfl, ?_⟩
                      have p12 : 0 ≤ (x7_2 : Int) := of_decide_eq_true (by first | (with_reducible assumption) | assumption)
                      have q12 : (x7_2 : Int) < (((rd_L1 x5_2 x6_1).length : Int) : Int) := of_decide_eq_true (by first | (with_reducible assumption) | assumption)
                      obtain ⟨go12, co12, eo12, gb12, gl12, cl12, HG12⟩ := Kd.R_form HL152_0.out (by omega)
                      (first | cases eo12 | (injection eo12 with ea_ en_ ec_; (first | subst ea_ | (injection ea_ with ea_; subst ea_)); subst ec_; clear en_))
                      have GB12 := Aside0.mk gb12
                      have GG12 := Aside0.mk HG12
                      clear gb12 gl12 HG12
                      obtain ⟨hx12_0, hf12_0⟩ := Kd.R_celln 0 HL152_0.out (x7_2 : Int) p12 q12
                      replace p12 := eq_true p12
                      replace q12 := eq_true q12
                      have hq15 : (x6_1 : Int) < (x5_2.length : Int) := (by have h_ : (x6_1 : Int) < ((x5_2.length : Int) : Int) := of_decide_eq_true (by first | (with_reducible assumption) | assumption); first | exact h_ | (have e_ := (Kd.S_reads' HO_5.out).1; omega) | simpa only [List.length_set, List.length_set] using h_)
                      obtain ⟨oki15, ce15, hcl15, hM15, hcc15, hok15, hbk15⟩ := Kd.S_borrow HO_5.out [] (x6_1 : Int) (of_decide_eq_true (by first | (with_reducible assumption) | assumption)) hq15
                      obtain ⟨ve15_0, rfl, ge15_0⟩ := hM15
                      have hv15 := hcc15 0 _ rfl
                      rw [Nat.add_zero, show ((Kd.slice 5 (Kd.int .u8))).sz = 1 from rfl, Nat.mul_one] at hv15
                      replace hv15 := Option.some.inj (hv15.symm.trans HX152_0.out)
                      subst hv15
                      clear hcc15 hcl15
                      replace ge15_0 := (show Kd.R (Kd.int .u8) 5 _ _ _ _ (rd_L1 x5_2 x6_1) from ge15_0)
                      have HP15 := Kd.R_putg ge15_0 (x7_2 : Int) t153
                      rw [← Ny154.out] at HP15
                      have HS15 := hbk15 HP15.2 (fun k_ e_ => by injection e_ with e_; subst e_; exact ge15_0.1 _ rfl) (x' := y154) (Kd.M_row HP15.1)
                      rw [← Ny156.out] at HS15
                      have HQ15 := Aside0.mk HS15
                      clear HP15 HS15 hbk15 hok15
                      refine hK.out _ _ (hHeld) (fun hHeld => ?_)
                      clear hK K
                      refine norm_ (a' := ?_) ?_ ?_
                      rotate_left
                      · show Act.put _ (some 32) _ = _
                        simp only [Act.put, List.setIfInBounds_toArray, List.set_cons_zero, List.set_cons_succ, i64_w, i32_w]
                        rfl
                      refine pure_ (i := 12) (N := some 33) (v := ?_) (a' := ?_) #[true, true, true, true, true, true, true, true, true, true, true, true, true, false] rfl rfl (any_of HT_.out (by kernel_rfl)) (fun _ _ _ h => h) (Or.inl ⟨by rfl, ?_⟩) ?_ ?_
                      rotate_left
                      · intro w'
                        go_simp
                        with_reducible rfl
                      rotate_left
                      · simp only [Act.put, List.setIfInBounds_toArray, List.set_cons_zero, List.set_cons_succ, i64_w, i32_w]
                        rfl
                      refine last_ (i := 13) (N := none) #[true, true, true, true, true, true, true, true, true, true, true, true, true, true] rfl rfl (one_of HT_.out (by kernel_rfl)) (by decide) (fun K hK => ?_)
                      refine skip_ (w1 := ?_) (by rfl) rfl ?_ ?_
                      rotate_left
                      · go_simp
                        rfl
                      refine hK.out _ _ ?_
                      clear hK K
                      refine done_ (done_of HT_.out (by kernel_rfl)) ?_
                      try go_wp2
                      go_roundg k2
                      case measure => have := HK1.out; have := HK2.out; omega
                      case rel => exact ⟨(y156), (wrap64 (x7_2 + 1)), (by first | rfl | (simp; done) | (simp [*]; done)), H', ⟨by have := HK1.out; have := HK2.out; omega⟩, ⟨by (with_reducible repeat (first | apply Kd.S_alloc | apply Kd.S_drewN | apply Kd.S_drew)); exact HQ15.out⟩, ⟨by repeat (first | (with_reducible first | exact HB.out | apply below_alloc | apply pw_below_drewN | apply below_drew1 | refine below_set ?_ GB12.out) | exact HB.out)⟩⟩
                    · rw [if_neg c11] at H
                      exact absurd H (by simp)
                  · rw [if_neg c10] at H
                    exact absurd H (by simp)
                · rw [if_neg c8] at H
                  exact absurd H (by simp)
              · rw [if_neg c7] at H
                exact absurd H (by simp)
            · rw [if_neg c6] at H
              have c6b0 : decide (x7_2 < a1) = false := decide_eq_false c6
              clear c6
              have H' := Aside0.mk H
              clear H
              go_wp2
              go_roundg k2
              case measure => have := HK1.out; have := HK2.out; omega
              case rel => exact ⟨(x5_2), (wrap64 (x6_1 + 1)), (by first | rfl | (simp; done) | (simp [*]; done)), H', ⟨by have := HK1.out; have := HK2.out; omega⟩, ⟨by (with_reducible repeat (first | apply Kd.S_alloc | apply Kd.S_drewN | apply Kd.S_drew)); exact HO_5.out⟩, ⟨by repeat (first | (with_reducible first | exact HB.out | apply below_alloc | apply pw_below_drewN | apply below_drew1) | exact HB.out)⟩⟩
      · rw [if_neg c5] at H
        have c5b0 : decide (x6_1 < a0) = false := decide_eq_false c5
        clear c5
        obtain rfl := Option.some.inj H
        go_wp2
        go_ret
        exact ⟨_, by first | rfl | (simp [errW_none, errW_some] <;> rfl) | (simp [*, errW_none, errW_some] <;> rfl), by (with_reducible repeat (first | apply Kd.S_alloc | apply Kd.S_drewN | apply Kd.S_drew)); exact HO_5.out, by repeat (first | (with_reducible first | exact HB.out | apply below_alloc | apply pw_below_drewN | apply below_drew1) | exact HB.out)⟩

/-! ### kinkeepref04_Vandermonde: function 53 -/
mutual
def kinkeepref04_Vandermonde.l0 : Nat → Int → Int → List (List Int) → Int → Option ((List (List Int)))
  | 0, _, _, _, _ => none
  | k + 1, x0, x1, x5, x6 => if x6 < x0 then (kinkeepref04_Vandermonde.l1 k x0 x1 x5 x6 1 0) else (some x5)
def kinkeepref04_Vandermonde.l1 : Nat → Int → Int → List (List Int) → Int → Int → Int → Option ((List (List Int)))
  | 0, _, _, _, _, _, _ => none
  | k + 1, x0, x1, x5, x6, x7, x8 => if x8 < x1 then (if 0 ≤ x6 then (if x6 < (x5.length : Int) then (if 0 ≤ x8 then (if x8 < ((rd_L1 x5 x6).length : Int) then ((kinkeepref04_Mul.f k x7 ((x6) % 256)).bind fun t164 => (kinkeepref04_Vandermonde.l1 k x0 x1 (x5.set (x6 : Int).toNat ((rd_L1 x5 x6).set (x8 : Int).toNat x7)) x6 t164 (wrap64 (x8 + 1)))) else (none)) else (none)) else (none)) else (none)) else (kinkeepref04_Vandermonde.l0 k x0 x1 x5 (wrap64 (x6 + 1)))
end
def kinkeepref04_Vandermonde.f (k : Nat) (a0 : Int) (a1 : Int) : Option ((List (List Int))) := (kinkeepref04_Zero.f k a0 a1).bind fun t157 => (kinkeepref04_Vandermonde.l0 k a0 a1 t157 0)
theorem kinkeepref04_Vandermonde.mono_l : ∀ k, (∀ y0 y1 y2 y3, LeO (kinkeepref04_Vandermonde.l0 k y0 y1 y2 y3) (kinkeepref04_Vandermonde.l0 (k + 1) y0 y1 y2 y3)) ∧ (∀ y0 y1 y2 y3 y4 y5, LeO (kinkeepref04_Vandermonde.l1 k y0 y1 y2 y3 y4 y5) (kinkeepref04_Vandermonde.l1 (k + 1) y0 y1 y2 y3 y4 y5))
  | 0 => ⟨fun _ _ _ _ r h => by simp [kinkeepref04_Vandermonde.l0] at h, fun _ _ _ _ _ _ r h => by simp [kinkeepref04_Vandermonde.l1] at h⟩
  | k + 1 => by
    obtain ⟨ih0, ih1⟩ := kinkeepref04_Vandermonde.mono_l k
    refine ⟨?_, ?_⟩
    · intro y0 y1 y2 y3
      unfold kinkeepref04_Vandermonde.l0
      repeat' first
      | (with_reducible exact ih0 _ _ _ _)
      | (with_reducible exact ih1 _ _ _ _ _ _)
      | (with_reducible exact kinkeepref04_Mul.mono _ _ _)
      | (with_reducible exact kinkeepref04_Zero.mono _ _ _)
      | (with_reducible exact LeO.refl _)
      | (with_reducible exact LeO.none _)
      | (with_reducible refine LeO.ite ?_ ?_)
      | (with_reducible refine LeO.bind ?_ (fun _ => ?_))
      | exact ih0 _ _ _ _
      | exact ih1 _ _ _ _ _ _
      | exact kinkeepref04_Mul.mono _ _ _
      | exact kinkeepref04_Zero.mono _ _ _
      | exact LeO.none _
      | refine LeO.ite ?_ ?_
      | refine LeO.bind ?_ (fun _ => ?_)
    · intro y0 y1 y2 y3 y4 y5
      unfold kinkeepref04_Vandermonde.l1
      repeat' first
      | (with_reducible exact ih0 _ _ _ _)
      | (with_reducible exact ih1 _ _ _ _ _ _)
      | (with_reducible exact kinkeepref04_Mul.mono _ _ _)
      | (with_reducible exact kinkeepref04_Zero.mono _ _ _)
      | (with_reducible exact LeO.refl _)
      | (with_reducible exact LeO.none _)
      | (with_reducible refine LeO.ite ?_ ?_)
      | (with_reducible refine LeO.bind ?_ (fun _ => ?_))
      | exact ih0 _ _ _ _
      | exact ih1 _ _ _ _ _ _
      | exact kinkeepref04_Mul.mono _ _ _
      | exact kinkeepref04_Zero.mono _ _ _
      | exact LeO.none _
      | refine LeO.ite ?_ ?_
      | refine LeO.bind ?_ (fun _ => ?_)
theorem kinkeepref04_Vandermonde.mono : ∀ a0 a1 k, LeO (kinkeepref04_Vandermonde.f k a0 a1) (kinkeepref04_Vandermonde.f (k + 1) a0 a1) := by
  intro a0 a1 k
  obtain ⟨ih0, ih1⟩ := kinkeepref04_Vandermonde.mono_l k
  unfold kinkeepref04_Vandermonde.f
  repeat' first
      | (with_reducible exact ih0 _ _ _ _)
      | (with_reducible exact ih1 _ _ _ _ _ _)
      | (with_reducible exact kinkeepref04_Mul.mono _ _ _)
      | (with_reducible exact kinkeepref04_Zero.mono _ _ _)
      | (with_reducible exact LeO.refl _)
      | (with_reducible exact LeO.none _)
      | (with_reducible refine LeO.ite ?_ ?_)
      | (with_reducible refine LeO.bind ?_ (fun _ => ?_))
      | exact ih0 _ _ _ _
      | exact ih1 _ _ _ _ _ _
      | exact kinkeepref04_Mul.mono _ _ _
      | exact kinkeepref04_Zero.mono _ _ _
      | exact LeO.none _
      | refine LeO.ite ?_ ?_
      | refine LeO.bind ?_ (fun _ => ?_)
set_option maxHeartbeats 8000000 in
set_option maxRecDepth 100000 in
theorem kinkeepref04_Vandermonde.calls (k : Nat) (a0 : Int) (a1 : Int) (r : List (List Int)) (w : World) (h : kinkeepref04_Vandermonde.f k a0 a1 = some r) :
    Calls Try.prog 53 #[.int .i64 a0, .int .i64 a1] w fun e w' => ∃ v0_ : Value, e = .returned (v0_) ∧ Kd.S (Kd.slice 5 (Kd.int .u8)) 34 w' w.heap.size (fun _ => True) v0_ r ∧ Below w.heap.size w w' := by
  have HB := Aside0.mk (Below.refl w.heap.size w)
  have H : ((kinkeepref04_Zero.f k a0 a1).bind fun t157 => (kinkeepref04_Vandermonde.l0 k a0 a1 t157 0)) = some r := h
  clear h
  replace H := Option.bind_eq_some_iff.mp H
  obtain ⟨t157, A30, H⟩ := H
  replace H : (kinkeepref04_Vandermonde.l0 k a0 a1 t157 0) = some r := H
  have A3 := Aside0.mk A30
  clear A30
  have H' := Aside0.mk H
  clear H
  go_enter Try.func53, Try.ntmps53
  go_wp2_with (first | ((with_reducible refine gate_callee (f := 26) rfl ?_); refine goesL_ (some 11) rfl rfl Try.func26 (by kernel_rfl) rfl #[.int .i64 a0, .int .i64 a1] rfl (by (try simp only [List.map_toArray, List.map_cons, List.map_nil]); first | done | rfl | (simp only [List.length_drop, List.length_take]; rfl)) ?_; (with_reducible refine (kinkeepref04_Zero.calls k a0 a1 t157 _ A3.out).mono ?_); rintro e w4 ⟨v158, rfl, ho0, hb⟩; refine ⟨_, rfl, ?_⟩; have n0_ := Aside0.mk (Kd.S_lower ho0 (below_size (by repeat (first | (with_reducible first | exact HB.out | apply below_alloc | apply pw_below_drewN | apply below_drew1) | exact HB.out)))); have n1_ := Aside0.mk (below_step (by repeat (first | (with_reducible first | exact HB.out | apply below_alloc | apply pw_below_drewN | apply below_drew1) | exact HB.out)) hb); clear HB; have HO159 := n0_; have HB := n1_; clear n0_ n1_; (try clear hb); (try clear hb2); (try clear hk); (try clear hi); (try clear ho0)))
  go_loopg [6] k (fun kq v6 w' => ∃ (x5_1 : List (List Int)) (x6_1 : Int), v6 = .int .i64 x6_1 ∧ Aside0 (kinkeepref04_Vandermonde.l0 kq a0 a1 x5_1 x6_1 = some r) ∧ Aside0 (kq ≤ k) ∧ Aside0 (Kd.S (Kd.slice 5 (Kd.int .u8)) 34 w' w.heap.size (fun _ => True) v158 x5_1) ∧ Aside0 (Below w.heap.size w w'))
  case atStart => exact ⟨(t157), (0), (by first | rfl | (simp; done) | (simp [*]; done)), H', ⟨Nat.le_refl _⟩, ⟨by (with_reducible repeat (first | apply Kd.S_alloc | apply Kd.S_drewN | apply Kd.S_drew)); exact HO159.out⟩, ⟨by repeat (first | (with_reducible first | exact HB.out | apply below_alloc | apply pw_below_drewN | apply below_drew1) | exact HB.out)⟩⟩
  case round =>
    clear H'
    try clear c2
    try clear p2
    obtain ⟨x5_1, x6_1, rfl, HA, HK1, HO_5, HB⟩ := hrel
    cases gk with
    | zero => exact absurd HA.out (by simp [kinkeepref04_Vandermonde.l0])
    | succ k1 =>
      have H := HA.out
      clear HA
      simp only [kinkeepref04_Vandermonde.l0] at H
      by_cases c5 : x6_1 < a0
      · rw [if_pos c5] at H
        have c5b0 : decide (x6_1 < a0) = true := decide_eq_true c5
        clear c5
        have H' := Aside0.mk H
        clear H
        go_wp2
        go_loopg [7, 8] k1 (fun kq v7 v8 w' => ∃ (x5_2 : List (List Int)) (x7_2 : Int) (x8_2 : Int), v7 = .int .u8 x7_2 ∧ v8 = .int .i64 x8_2 ∧ Aside0 (kinkeepref04_Vandermonde.l1 kq a0 a1 x5_2 x6_1 x7_2 x8_2 = some r) ∧ Aside0 (kq ≤ k1) ∧ Aside0 (Kd.S (Kd.slice 5 (Kd.int .u8)) 34 w' w.heap.size (fun _ => True) v158 x5_2) ∧ Aside0 (Below w.heap.size w w'))
        case atStart => exact ⟨(x5_1), (1), (0), (by first | rfl | (simp; done) | (simp [*]; done)), (by first | rfl | (simp; done) | (simp [*]; done)), H', ⟨Nat.le_refl _⟩, ⟨by (with_reducible repeat (first | apply Kd.S_alloc | apply Kd.S_drewN | apply Kd.S_drew)); exact HO_5.out⟩, ⟨by repeat (first | (with_reducible first | exact HB.out | apply below_alloc | apply pw_below_drewN | apply below_drew1) | exact HB.out)⟩⟩
        case round =>
          clear H'
          try clear c2
          try clear p2
          try clear c5
          try clear c5b0
          try clear p2
          obtain ⟨x5_2, x7_2, x8_2, rfl, rfl, HA, HK2, HO_5, HB⟩ := hrel
          cases gk with
          | zero => exact absurd HA.out (by simp [kinkeepref04_Vandermonde.l1])
          | succ k2 =>
            have H := HA.out
            clear HA
            simp only [kinkeepref04_Vandermonde.l1] at H
            by_cases c6 : x8_2 < a1
            · rw [if_pos c6] at H
              have c6b0 : decide (x8_2 < a1) = true := decide_eq_true c6
              clear c6
              by_cases c7 : 0 ≤ x6_1
              · rw [if_pos c7] at H
                have c7b0 : decide (0 ≤ x6_1) = true := decide_eq_true c7
                clear c7
                by_cases c8 : x6_1 < (x5_2.length : Int)
                · rw [if_pos c8] at H
                  have c8b0 : decide (x6_1 < (x5_2.length : Int)) = true := decide_eq_true c8
                  clear c8
                  by_cases c9 : 0 ≤ x8_2
                  · rw [if_pos c9] at H
                    have c9b0 : decide (0 ≤ x8_2) = true := decide_eq_true c9
                    clear c9
                    by_cases c10 : x8_2 < ((rd_L1 x5_2 x6_1).length : Int)
                    · rw [if_pos c10] at H
                      have c10b0 : decide (x8_2 < ((rd_L1 x5_2 x6_1).length : Int)) = true := decide_eq_true c10
                      clear c10
                      obtain ⟨y161, hy161⟩ : ∃ y_ : List Int, y_ = ((rd_L1 x5_2 x6_1).set (x8_2 : Int).toNat x7_2) := ⟨_, rfl⟩
                      replace H : ((kinkeepref04_Mul.f k2 x7_2 ((x6_1) % 256)).bind fun t164 => (kinkeepref04_Vandermonde.l1 k2 a0 a1 (x5_2.set (x6_1 : Int).toNat y161) x6_1 t164 (wrap64 (x8_2 + 1)))) = some r := by first | (rw [hy161]; with_reducible exact H) | (have H2_ := (Option.bind_some _ _).symm.trans H; rw [hy161]; with_reducible exact H2_) | (have H2_ := (Option.bind_some _ _).symm.trans H; with_reducible exact H2_) | with_reducible exact H | (rw [hy161]; exact H) | exact H
                      have Ny161 := Aside0.mk hy161
                      clear hy161
                      obtain ⟨y163, hy163⟩ : ∃ y_ : List (List Int), y_ = (x5_2.set (x6_1 : Int).toNat y161) := ⟨_, rfl⟩
                      replace H : ((kinkeepref04_Mul.f k2 x7_2 ((x6_1) % 256)).bind fun t164 => (kinkeepref04_Vandermonde.l1 k2 a0 a1 y163 x6_1 t164 (wrap64 (x8_2 + 1)))) = some r := by first | (rw [hy163]; with_reducible exact H) | (have H2_ := (Option.bind_some _ _).symm.trans H; rw [hy163]; with_reducible exact H2_) | (have H2_ := (Option.bind_some _ _).symm.trans H; with_reducible exact H2_) | with_reducible exact H | (rw [hy163]; exact H) | exact H
                      have Ny163 := Aside0.mk hy163
                      clear hy163
                      replace H := Option.bind_eq_some_iff.mp H
                      obtain ⟨t164, A120, H⟩ := H
                      replace H : (kinkeepref04_Vandermonde.l1 k2 a0 a1 y163 x6_1 t164 (wrap64 (x8_2 + 1))) = some r := H
                      have A12 := Aside0.mk A120
                      clear A120
                      have H' := Aside0.mk H
                      clear H
                      obtain ⟨Ao13, co13, eo13⟩ := Kd.S_slice HO_5.out
                      subst eo13
                      have p160 : 0 ≤ (x6_1 : Int) := of_decide_eq_true (by first | (with_reducible assumption) | assumption)
                      have q160 : x6_1 < (x5_2.length : Int) := of_decide_eq_true (by first | (with_reducible assumption) | assumption)
                      obtain ⟨ad160, A160_0, c160_0, e160, hx160_0, hl160_0, hi160_0⟩ := at_L1 (Kd.S_reads' HO_5.out).2.2 x6_1 p160 q160
                      cases e160
                      obtain ⟨ce160, hce160, hMe160, hcc160⟩ := Kd.S_get HO_5.out [] x6_1 p160 (by first | exact q160 | exact of_decide_eq_true (by first | (with_reducible assumption) | assumption) | (have e_ := (Kd.S_reads' HO_5.out).1; omega))
                      obtain ⟨ve160_0, rfl, ge160_0⟩ := hMe160
                      have hv160_0 := hcc160 0 _ rfl
                      rw [Nat.add_zero, show ((Kd.slice 5 (Kd.int .u8))).sz = 1 from rfl, Nat.mul_one] at hv160_0
                      replace hv160_0 := Option.some.inj (hv160_0.symm.trans hx160_0)
                      rw [hv160_0] at ge160_0
                      have HL160_0 := Aside0.mk (show Kd.R (Kd.int .u8) 5 _ _ _ _ (rd_L1 x5_2 x6_1) from ge160_0)
                      clear hv160_0 ge160_0
                      have HX160_0 := Aside0.mk hx160_0
                      clear hcc160 hce160
                      have HR160_0 := Aside0.mk hi160_0
                      have HC160_0 := Aside0.mk hl160_0
                      clear hi160_0 hl160_0
                      replace p160 := eq_true p160
                      replace q160 := eq_true q160
                      have p11 : 0 ≤ (x8_2 : Int) := of_decide_eq_true (by first | (with_reducible assumption) | assumption)
                      have q11 : (x8_2 : Int) < (((rd_L1 x5_2 x6_1).length : Int) : Int) := of_decide_eq_true (by first | (with_reducible assumption) | assumption)
                      obtain ⟨go11, co11, eo11, gb11, gl11, cl11, HG11⟩ := Kd.R_form HL160_0.out (by omega)
                      (first | cases eo11 | (injection eo11 with ea_ en_ ec_; (first | subst ea_ | (injection ea_ with ea_; subst ea_)); subst ec_; clear en_))
                      have GB11 := Aside0.mk gb11
                      have GG11 := Aside0.mk HG11
                      clear gb11 gl11 HG11
                      obtain ⟨hx11_0, hf11_0⟩ := Kd.R_celln 0 HL160_0.out (x8_2 : Int) p11 q11
                      replace p11 := eq_true p11
                      replace q11 := eq_true q11
                      have hq14 : (x6_1 : Int) < (x5_2.length : Int) := (by have h_ : (x6_1 : Int) < ((x5_2.length : Int) : Int) := of_decide_eq_true (by first | (with_reducible assumption) | assumption); first | exact h_ | (have e_ := (Kd.S_reads' HO_5.out).1; omega) | simpa only [List.length_set, List.length_set] using h_)
                      obtain ⟨oki14, ce14, hcl14, hM14, hcc14, hok14, hbk14⟩ := Kd.S_borrow HO_5.out [] (x6_1 : Int) (of_decide_eq_true (by first | (with_reducible assumption) | assumption)) hq14
                      obtain ⟨ve14_0, rfl, ge14_0⟩ := hM14
                      have hv14 := hcc14 0 _ rfl
                      rw [Nat.add_zero, show ((Kd.slice 5 (Kd.int .u8))).sz = 1 from rfl, Nat.mul_one] at hv14
                      replace hv14 := Option.some.inj (hv14.symm.trans HX160_0.out)
                      subst hv14
                      clear hcc14 hcl14
                      replace ge14_0 := (show Kd.R (Kd.int .u8) 5 _ _ _ _ (rd_L1 x5_2 x6_1) from ge14_0)
                      have HP14 := Kd.R_putg ge14_0 (x8_2 : Int) x7_2
                      go_wp2_with (first | ((with_reducible refine gate_store (t := 5) (p := 28) rfl ?_); refine store_event (t := 5) (p := 28) (v := ?vo_w15) (w1 := (wr.setCell ⟨go11, (x8_2 : Int).toNat, none⟩ (.int .u8 x7_2))) ?hg ?ho ?hn ?hr ?_; (case ho => rfl); (case hg => rfl); (case hn => rfl); (case hr => first | (go_simp; done) | (go_simp; rfl)); intro w15 hw; have hg : wr.grownBy w15 (some go11) := (by rw [hw]; exact HP14.2); have hz_ : Kd.R (Kd.int .u8) 5 w15 w.heap.size oki14 (.slice (some ⟨go11, 0, none⟩) (rd_L1 x5_2 x6_1).length c160_0) y161 := (by rw [hw, Ny161.out]; exact HP14.1); have hp_ : Kd.S (Kd.slice 5 (Kd.int .u8)) 34 w15 w.heap.size (fun _ => True) (.slice (some ad160) x5_2.length co13) y163 := (by rw [Ny163.out]; exact hbk14 hg (fun k_ e_ => by injection e_ with e_; subst e_; exact ge14_0.1 _ rfl) (Kd.M_row hz_)); have hm_ := Kd.R_mono hz_ hok14; clear HP14 hbk14; have n0_ := Aside0.mk (hp_); have n1_ := Aside0.mk ((by rw [hw]; exact below_set (HB.out) GB11.out : Below w.heap.size w w15)); have n2_ := Aside0.mk (hm_); have n3_ := Aside0.mk ((Kd.R_reads' hm_).2.1); clear HO_5; clear HB; clear HL160_0; have HO_5 := n0_; have HB := n1_; have HL165 := n2_; have HC162 := n3_; clear n0_ n1_ n2_ n3_; clear hg hw hp_ hz_ hm_ hok14) | ((with_reducible refine gate_callee (f := 35) rfl ?_); refine goesL_ (some 32) rfl rfl Try.func35 (by kernel_rfl) rfl #[.int .u8 x7_2, .int .u8 ((x6_1) % 256)] rfl (by (try simp only [List.map_toArray, List.map_cons, List.map_nil]); first | done | rfl | (simp only [List.length_drop, List.length_take]; rfl)) ?_; (with_reducible refine (kinkeepref04_Mul.calls k2 x7_2 ((x6_1) % 256) t164 _ A12.out).mono ?_); rintro e w' ⟨rfl, ⟨nd, rfl⟩⟩; refine ⟨_, rfl, ?_⟩))
                      go_roundg k2
                      case measure => have := HK1.out; have := HK2.out; omega
                      case rel => exact ⟨(y163), (t164), (wrap64 (x8_2 + 1)), (by first | rfl | (simp; done) | (simp [*]; done)), (by first | rfl | (simp; done) | (simp [*]; done)), H', ⟨by have := HK1.out; have := HK2.out; omega⟩, ⟨by (with_reducible repeat (first | apply Kd.S_alloc | apply Kd.S_drewN | apply Kd.S_drew)); exact HO_5.out⟩, ⟨by repeat (first | (with_reducible first | exact HB.out | apply below_alloc | apply pw_below_drewN | apply below_drew1) | exact HB.out)⟩⟩
                    · rw [if_neg c10] at H
                      exact absurd H (by simp)
                  · rw [if_neg c9] at H
                    exact absurd H (by simp)
                · rw [if_neg c8] at H
                  exact absurd H (by simp)
              · rw [if_neg c7] at H
                exact absurd H (by simp)
            · rw [if_neg c6] at H
              have c6b0 : decide (x8_2 < a1) = false := decide_eq_false c6
              clear c6
              have H' := Aside0.mk H
              clear H
              go_wp2
              go_roundg k2
              case measure => have := HK1.out; have := HK2.out; omega
              case rel => exact ⟨(x5_2), (wrap64 (x6_1 + 1)), (by first | rfl | (simp; done) | (simp [*]; done)), H', ⟨by have := HK1.out; have := HK2.out; omega⟩, ⟨by (with_reducible repeat (first | apply Kd.S_alloc | apply Kd.S_drewN | apply Kd.S_drew)); exact HO_5.out⟩, ⟨by repeat (first | (with_reducible first | exact HB.out | apply below_alloc | apply pw_below_drewN | apply below_drew1) | exact HB.out)⟩⟩
      · rw [if_neg c5] at H
        have c5b0 : decide (x6_1 < a0) = false := decide_eq_false c5
        clear c5
        obtain rfl := Option.some.inj H
        go_wp2
        go_ret
        exact ⟨_, by first | rfl | (simp [errW_none, errW_some] <;> rfl) | (simp [*, errW_none, errW_some] <;> rfl), by (with_reducible repeat (first | apply Kd.S_alloc | apply Kd.S_drewN | apply Kd.S_drew)); exact HO_5.out, by repeat (first | (with_reducible first | exact HB.out | apply below_alloc | apply pw_below_drewN | apply below_drew1) | exact HB.out)⟩

end Go.Proofs.Ytpkghpljgjlmjaa.K
-- Lines of this claim, written by the session's own program kprint.py (it runs print.py).
namespace Go.Proofs.Ytpkghpljgjlmjaa.K
open Go.RowKit Go.Proofs.YtpkghpljgjlmjaaW.PrintWords Go.Proofs.YtpkghpljgjlmjaaW.PrintLast Go.Proofs.YtpkghpljgjlmjaaW.PrintMore
attribute [local go_sem] max2_int min2_int max_two min_two max_three min_three max_four min_four   -- for this text's walks alone
set_option linter.unusedVariables false
set_option linter.unusedSimpArgs false

/-! ### kinkeepref04_Same: function 23 -/
def kinkeepref04_Same.l0 : Nat → List (List Int) → List (List Int) → Int → Option (Bool)
  | 0, _, _, _ => none
  | k + 1, x0, x1, x5 => if x5 < (x0.length : Int) then (if 0 ≤ x5 then (if x5 < (x1.length : Int) then (if (strOfNums (rd_L1 x0 x5)).toList = (strOfNums (rd_L1 x1 x5)).toList then (kinkeepref04_Same.l0 k x0 x1 (wrap64 (x5 + 1))) else (some false)) else (none)) else (none)) else (some true)
def kinkeepref04_Same.f (k : Nat) (l0 : List (List Int)) (l1 : List (List Int)) : Option (Bool) := if (l0.length : Int) = (l1.length : Int) then (kinkeepref04_Same.l0 k l0 l1 0) else (some false)
theorem kinkeepref04_Same.mono_l : ∀ k, (∀ y0 y1 y2, LeO (kinkeepref04_Same.l0 k y0 y1 y2) (kinkeepref04_Same.l0 (k + 1) y0 y1 y2))
  | 0 => fun _ _ _ r h => by simp [kinkeepref04_Same.l0] at h
  | k + 1 => by
    have ih0 := kinkeepref04_Same.mono_l k
    · intro y0 y1 y2
      unfold kinkeepref04_Same.l0
      repeat' first
      | (with_reducible exact ih0 _ _ _)
      | (with_reducible exact LeO.refl _)
      | (with_reducible exact LeO.none _)
      | (with_reducible refine LeO.ite ?_ ?_)
      | (with_reducible refine LeO.bind ?_ (fun _ => ?_))
      | exact ih0 _ _ _
      | exact LeO.none _
      | refine LeO.ite ?_ ?_
      | refine LeO.bind ?_ (fun _ => ?_)
theorem kinkeepref04_Same.mono : ∀ a0 a1 k, LeO (kinkeepref04_Same.f k a0 a1) (kinkeepref04_Same.f (k + 1) a0 a1) := by
  intro a0 a1 k
  have ih0 := kinkeepref04_Same.mono_l k
  unfold kinkeepref04_Same.f
  repeat' first
      | (with_reducible exact ih0 _ _ _)
      | (with_reducible exact LeO.refl _)
      | (with_reducible exact LeO.none _)
      | (with_reducible refine LeO.ite ?_ ?_)
      | (with_reducible refine LeO.bind ?_ (fun _ => ?_))
      | exact ih0 _ _ _
      | exact LeO.none _
      | refine LeO.ite ?_ ?_
      | refine LeO.bind ?_ (fun _ => ?_)
set_option maxHeartbeats 8000000 in
set_option maxRecDepth 100000 in
theorem kinkeepref04_Same.calls (k : Nat) (A0 : Option Addr) (c0 : Nat) (l0 : List (List Int)) (A1 : Option Addr) (c1 : Nat) (l1 : List (List Int)) (r : Bool) (w : World) (hr0 : Kd.C (Kd.slice 5 (Kd.int .u8)) w A0 l0.length l0) (hc0 : l0.length ≤ c0) (hr1 : Kd.C (Kd.slice 5 (Kd.int .u8)) w A1 l1.length l1) (hc1 : l1.length ≤ c1) (h : kinkeepref04_Same.f k l0 l1 = some r) :
    Calls Try.prog 23 #[.slice A0 l0.length c0, .slice A1 l1.length c1] w fun e w' => e = .returned (.bool r) ∧ Drawn0 w w' := by
  have HR0 := Aside0.mk hr0
  have HC0 := Aside0.mk hc0
  clear hr0 hc0
  have HR1 := Aside0.mk hr1
  have HC1 := Aside0.mk hc1
  clear hr1 hc1
  have H : (if (l0.length : Int) = (l1.length : Int) then (kinkeepref04_Same.l0 k l0 l1 0) else (some false)) = some r := h
  clear h
  by_cases c3 : (l0.length : Int) = (l1.length : Int)
  · rw [if_pos c3] at H
    have c3b0 : ((l0.length : Int) == (l1.length : Int)) = true := beq_iff_eq.mpr c3
    have c3b1 : ((l0.length : Int) != (l1.length : Int)) = false := bne_eq_false_iff_eq.mpr c3
    have c3b2 : (l0.length == l1.length) = true := by first | simpa using c3 | (simp at c3 ⊢; omega)
    clear c3
    have H' := Aside0.mk H
    clear H
    go_enter Try.func23, Try.ntmps23
    go_wp2
    repeat (go_quiet (fail); try go_wp2)
    go_loopg [5] k (fun kq v5 w' => ∃ (x5_1 : Int), v5 = .int .i64 x5_1 ∧ Aside0 (kinkeepref04_Same.l0 kq l0 l1 x5_1 = some r) ∧ Aside0 (kq ≤ k) ∧ Drawn0 w w')
    case atStart => exact ⟨(0), (by first | rfl | (simp; done) | (simp [*]; done)), H', ⟨Nat.le_refl _⟩, by repeat (first | exact Drawn0.refl _ | apply Drawn0.step)⟩
    case round =>
      clear H'
      try clear c1
      try clear c2
      try clear p2
      try clear c3
      try clear c3b0
      try clear c3b1
      try clear c3b2
      obtain ⟨x5_1, rfl, HA, HK1, ⟨m1, rfl⟩⟩ := hrel
      cases gk with
      | zero => exact absurd HA.out (by simp [kinkeepref04_Same.l0])
      | succ k1 =>
        have H := HA.out
        clear HA
        simp only [kinkeepref04_Same.l0] at H
        by_cases c4 : x5_1 < (l0.length : Int)
        · rw [if_pos c4] at H
          have c4b0 : decide (x5_1 < (l0.length : Int)) = true := decide_eq_true c4
          clear c4
          by_cases c5 : 0 ≤ x5_1
          · rw [if_pos c5] at H
            have c5b0 : decide (0 ≤ x5_1) = true := decide_eq_true c5
            clear c5
            by_cases c6 : x5_1 < (l1.length : Int)
            · rw [if_pos c6] at H
              have c6b0 : decide (x5_1 < (l1.length : Int)) = true := decide_eq_true c6
              clear c6
              by_cases c7 : (strOfNums (rd_L1 l0 x5_1)).toList = (strOfNums (rd_L1 l1 x5_1)).toList
              · rw [if_pos c7] at H
                have c7b0 : ((strOfNums (rd_L1 l0 x5_1)).toList == (strOfNums (rd_L1 l1 x5_1)).toList) = true := beq_iff_eq.mpr c7
                have c7b1 : ((strOfNums (rd_L1 l0 x5_1)).toList != (strOfNums (rd_L1 l1 x5_1)).toList) = false := bne_eq_false_iff_eq.mpr c7
                clear c7
                have H' := Aside0.mk H
                clear H
                have p208 : 0 ≤ (x5_1 : Int) := of_decide_eq_true (by first | (with_reducible assumption) | assumption)
                have q208 : x5_1 < (l0.length : Int) := of_decide_eq_true (by first | (with_reducible assumption) | assumption)
                obtain ⟨ad208, A208_0, c208_0, e208, hx208_0, hl208_0, hi208_0⟩ := at_L1 HR0.out x5_1 p208 q208
                cases e208
                have HR208_0 := Aside0.mk hi208_0
                have HC208_0 := Aside0.mk hl208_0
                clear hi208_0 hl208_0
                replace p208 := eq_true p208
                replace q208 := eq_true q208
                have hcv8 := Kd.C_string (P := Try.prog) (A := A208_0) (c := c208_0) Try.underlying34 Try.underlying5 Try.underlying9 HR208_0.out
                have hcv8d := fun n_ => Kd.C_string (P := Try.prog) (A := A208_0) (c := c208_0) Try.underlying34 Try.underlying5 Try.underlying9 (Kd.C_drewN HR208_0.out n_)
                have hcv8e := fun n_ m_ => Kd.C_string (P := Try.prog) (A := A208_0) (c := c208_0) Try.underlying34 Try.underlying5 Try.underlying9 (Kd.C_drewN (Kd.C_drewN HR208_0.out n_) m_)
                have p209 : 0 ≤ (x5_1 : Int) := of_decide_eq_true (by first | (with_reducible assumption) | assumption)
                have q209 : x5_1 < (l1.length : Int) := of_decide_eq_true (by first | (with_reducible assumption) | assumption)
                obtain ⟨ad209, A209_0, c209_0, e209, hx209_0, hl209_0, hi209_0⟩ := at_L1 HR1.out x5_1 p209 q209
                cases e209
                have HR209_0 := Aside0.mk hi209_0
                have HC209_0 := Aside0.mk hl209_0
                clear hi209_0 hl209_0
                replace p209 := eq_true p209
                replace q209 := eq_true q209
                have hcv9 := Kd.C_string (P := Try.prog) (A := A209_0) (c := c209_0) Try.underlying34 Try.underlying5 Try.underlying9 HR209_0.out
                have hcv9d := fun n_ => Kd.C_string (P := Try.prog) (A := A209_0) (c := c209_0) Try.underlying34 Try.underlying5 Try.underlying9 (Kd.C_drewN HR209_0.out n_)
                have hcv9e := fun n_ m_ => Kd.C_string (P := Try.prog) (A := A209_0) (c := c209_0) Try.underlying34 Try.underlying5 Try.underlying9 (Kd.C_drewN (Kd.C_drewN HR209_0.out n_) m_)
                go_wp2
                repeat (go_quiet (fail); try go_wp2)
                go_roundg k1
                case measure => have := HK1.out; omega
                case rel => exact ⟨(wrap64 (x5_1 + 1)), (by first | rfl | (simp; done) | (simp [*]; done)), H', ⟨by have := HK1.out; omega⟩, by repeat (first | exact Drawn0.refl _ | apply Drawn0.step)⟩
              · rw [if_neg c7] at H
                have c7b0 : ((strOfNums (rd_L1 l0 x5_1)).toList == (strOfNums (rd_L1 l1 x5_1)).toList) = false := beq_eq_false_iff_ne.mpr c7
                have c7b1 : ((strOfNums (rd_L1 l0 x5_1)).toList != (strOfNums (rd_L1 l1 x5_1)).toList) = true := bne_iff_ne.mpr c7
                obtain rfl := Option.some.inj H
                have p208 : 0 ≤ (x5_1 : Int) := of_decide_eq_true (by first | (with_reducible assumption) | assumption)
                have q208 : x5_1 < (l0.length : Int) := of_decide_eq_true (by first | (with_reducible assumption) | assumption)
                obtain ⟨ad208, A208_0, c208_0, e208, hx208_0, hl208_0, hi208_0⟩ := at_L1 HR0.out x5_1 p208 q208
                cases e208
                have HR208_0 := Aside0.mk hi208_0
                have HC208_0 := Aside0.mk hl208_0
                clear hi208_0 hl208_0
                replace p208 := eq_true p208
                replace q208 := eq_true q208
                have hcv10 := Kd.C_string (P := Try.prog) (A := A208_0) (c := c208_0) Try.underlying34 Try.underlying5 Try.underlying9 HR208_0.out
                have hcv10d := fun n_ => Kd.C_string (P := Try.prog) (A := A208_0) (c := c208_0) Try.underlying34 Try.underlying5 Try.underlying9 (Kd.C_drewN HR208_0.out n_)
                have hcv10e := fun n_ m_ => Kd.C_string (P := Try.prog) (A := A208_0) (c := c208_0) Try.underlying34 Try.underlying5 Try.underlying9 (Kd.C_drewN (Kd.C_drewN HR208_0.out n_) m_)
                have p209 : 0 ≤ (x5_1 : Int) := of_decide_eq_true (by first | (with_reducible assumption) | assumption)
                have q209 : x5_1 < (l1.length : Int) := of_decide_eq_true (by first | (with_reducible assumption) | assumption)
                obtain ⟨ad209, A209_0, c209_0, e209, hx209_0, hl209_0, hi209_0⟩ := at_L1 HR1.out x5_1 p209 q209
                cases e209
                have HR209_0 := Aside0.mk hi209_0
                have HC209_0 := Aside0.mk hl209_0
                clear hi209_0 hl209_0
                replace p209 := eq_true p209
                replace q209 := eq_true q209
                have hcv11 := Kd.C_string (P := Try.prog) (A := A209_0) (c := c209_0) Try.underlying34 Try.underlying5 Try.underlying9 HR209_0.out
                have hcv11d := fun n_ => Kd.C_string (P := Try.prog) (A := A209_0) (c := c209_0) Try.underlying34 Try.underlying5 Try.underlying9 (Kd.C_drewN HR209_0.out n_)
                have hcv11e := fun n_ m_ => Kd.C_string (P := Try.prog) (A := A209_0) (c := c209_0) Try.underlying34 Try.underlying5 Try.underlying9 (Kd.C_drewN (Kd.C_drewN HR209_0.out n_) m_)
                go_wp2
                repeat (go_quiet (fail); try go_wp2)
                go_ret
                exact ⟨by first | rfl | (simp; done) | (simp [*]; done), by repeat (first | exact Drawn0.refl _ | apply Drawn0.step)⟩
            · rw [if_neg c6] at H
              exact absurd H (by simp)
          · rw [if_neg c5] at H
            exact absurd H (by simp)
        · rw [if_neg c4] at H
          have c4b0 : decide (x5_1 < (l0.length : Int)) = false := decide_eq_false c4
          clear c4
          obtain rfl := Option.some.inj H
          go_wp2
          repeat (go_quiet (fail); try go_wp2)
          go_ret
          exact ⟨by first | rfl | (simp; done) | (simp [*]; done), by repeat (first | exact Drawn0.refl _ | apply Drawn0.step)⟩
  · rw [if_neg c3] at H
    have c3b0 : ((l0.length : Int) == (l1.length : Int)) = false := beq_eq_false_iff_ne.mpr c3
    have c3b1 : ((l0.length : Int) != (l1.length : Int)) = true := bne_iff_ne.mpr c3
    have c3b2 : (l0.length == l1.length) = false := by first | simpa using c3 | (simp at c3 ⊢; omega)
    obtain rfl := Option.some.inj H
    go_enter Try.func23, Try.ntmps23
    go_wp2
    repeat (go_quiet (fail); try go_wp2)
    go_ret
    exact ⟨by first | rfl | (simp; done) | (simp [*]; done), by repeat (first | exact Drawn0.refl _ | apply Drawn0.step)⟩

/-! ### kinkeepref04_Ints: function 29 -/
def kinkeepref04_Ints.l0 : Nat → List Int → List Int → Int → Option (Bool)
  | 0, _, _, _ => none
  | k + 1, x0, x1, x5 => if x5 < (x0.length : Int) then (if 0 ≤ x5 then (if x5 < (x1.length : Int) then (if (rd x0 x5) = (rd x1 x5) then (kinkeepref04_Ints.l0 k x0 x1 (wrap64 (x5 + 1))) else (some false)) else (none)) else (none)) else (some true)
def kinkeepref04_Ints.f (k : Nat) (l0 : List Int) (l1 : List Int) : Option (Bool) := if (l0.length : Int) = (l1.length : Int) then (kinkeepref04_Ints.l0 k l0 l1 0) else (some false)
theorem kinkeepref04_Ints.mono_l : ∀ k, (∀ y0 y1 y2, LeO (kinkeepref04_Ints.l0 k y0 y1 y2) (kinkeepref04_Ints.l0 (k + 1) y0 y1 y2))
  | 0 => fun _ _ _ r h => by simp [kinkeepref04_Ints.l0] at h
  | k + 1 => by
    have ih0 := kinkeepref04_Ints.mono_l k
    · intro y0 y1 y2
      unfold kinkeepref04_Ints.l0
      repeat' first
      | (with_reducible exact ih0 _ _ _)
      | (with_reducible exact LeO.refl _)
      | (with_reducible exact LeO.none _)
      | (with_reducible refine LeO.ite ?_ ?_)
      | (with_reducible refine LeO.bind ?_ (fun _ => ?_))
      | exact ih0 _ _ _
      | exact LeO.none _
      | refine LeO.ite ?_ ?_
      | refine LeO.bind ?_ (fun _ => ?_)
theorem kinkeepref04_Ints.mono : ∀ a0 a1 k, LeO (kinkeepref04_Ints.f k a0 a1) (kinkeepref04_Ints.f (k + 1) a0 a1) := by
  intro a0 a1 k
  have ih0 := kinkeepref04_Ints.mono_l k
  unfold kinkeepref04_Ints.f
  repeat' first
      | (with_reducible exact ih0 _ _ _)
      | (with_reducible exact LeO.refl _)
      | (with_reducible exact LeO.none _)
      | (with_reducible refine LeO.ite ?_ ?_)
      | (with_reducible refine LeO.bind ?_ (fun _ => ?_))
      | exact ih0 _ _ _
      | exact LeO.none _
      | refine LeO.ite ?_ ?_
      | refine LeO.bind ?_ (fun _ => ?_)
set_option maxHeartbeats 8000000 in
set_option maxRecDepth 100000 in
theorem kinkeepref04_Ints.calls (k : Nat) (A0 : Option Addr) (c0 : Nat) (l0 : List Int) (A1 : Option Addr) (c1 : Nat) (l1 : List Int) (r : Bool) (w : World) (hr0 : Kd.C (Kd.int .i64) w A0 l0.length l0) (hc0 : l0.length ≤ c0) (hr1 : Kd.C (Kd.int .i64) w A1 l1.length l1) (hc1 : l1.length ≤ c1) (h : kinkeepref04_Ints.f k l0 l1 = some r) :
    Calls Try.prog 29 #[.slice A0 l0.length c0, .slice A1 l1.length c1] w fun e w' => e = .returned (.bool r) ∧ Drawn0 w w' := by
  have HR0 := Aside0.mk hr0
  have HC0 := Aside0.mk hc0
  clear hr0 hc0
  have HR1 := Aside0.mk hr1
  have HC1 := Aside0.mk hc1
  clear hr1 hc1
  have H : (if (l0.length : Int) = (l1.length : Int) then (kinkeepref04_Ints.l0 k l0 l1 0) else (some false)) = some r := h
  clear h
  by_cases c3 : (l0.length : Int) = (l1.length : Int)
  · rw [if_pos c3] at H
    have c3b0 : ((l0.length : Int) == (l1.length : Int)) = true := beq_iff_eq.mpr c3
    have c3b1 : ((l0.length : Int) != (l1.length : Int)) = false := bne_eq_false_iff_eq.mpr c3
    have c3b2 : (l0.length == l1.length) = true := by first | simpa using c3 | (simp at c3 ⊢; omega)
    clear c3
    have H' := Aside0.mk H
    clear H
    go_enter Try.func29, Try.ntmps29
    go_wp2
    repeat (go_quiet (fail); try go_wp2)
    go_loopg [5] k (fun kq v5 w' => ∃ (x5_1 : Int), v5 = .int .i64 x5_1 ∧ Aside0 (kinkeepref04_Ints.l0 kq l0 l1 x5_1 = some r) ∧ Aside0 (kq ≤ k) ∧ Drawn0 w w')
    case atStart => exact ⟨(0), (by first | rfl | (simp; done) | (simp [*]; done)), H', ⟨Nat.le_refl _⟩, by repeat (first | exact Drawn0.refl _ | apply Drawn0.step)⟩
    case round =>
      clear H'
      try clear c1
      try clear c2
      try clear p2
      try clear c3
      try clear c3b0
      try clear c3b1
      try clear c3b2
      obtain ⟨x5_1, rfl, HA, HK1, ⟨m1, rfl⟩⟩ := hrel
      cases gk with
      | zero => exact absurd HA.out (by simp [kinkeepref04_Ints.l0])
      | succ k1 =>
        have H := HA.out
        clear HA
        simp only [kinkeepref04_Ints.l0] at H
        by_cases c4 : x5_1 < (l0.length : Int)
        · rw [if_pos c4] at H
          have c4b0 : decide (x5_1 < (l0.length : Int)) = true := decide_eq_true c4
          clear c4
          by_cases c5 : 0 ≤ x5_1
          · rw [if_pos c5] at H
            have c5b0 : decide (0 ≤ x5_1) = true := decide_eq_true c5
            clear c5
            by_cases c6 : x5_1 < (l1.length : Int)
            · rw [if_pos c6] at H
              have c6b0 : decide (x5_1 < (l1.length : Int)) = true := decide_eq_true c6
              clear c6
              by_cases c7 : (rd l0 x5_1) = (rd l1 x5_1)
              · rw [if_pos c7] at H
                have c7b0 : ((rd l0 x5_1) == (rd l1 x5_1)) = true := beq_iff_eq.mpr c7
                have c7b1 : ((rd l0 x5_1) != (rd l1 x5_1)) = false := bne_eq_false_iff_eq.mpr c7
                clear c7
                have H' := Aside0.mk H
                clear H
                have p210 : 0 ≤ (x5_1 : Int) := of_decide_eq_true (by first | (with_reducible assumption) | assumption)
                have q210 : x5_1 < (l0.length : Int) := of_decide_eq_true (by first | (with_reducible assumption) | assumption)
                obtain ⟨ad210, e210, hx210_0⟩ := Kd.at_int HR0.out x5_1 p210 q210
                cases e210
                replace p210 := eq_true p210
                replace q210 := eq_true q210
                have p211 : 0 ≤ (x5_1 : Int) := of_decide_eq_true (by first | (with_reducible assumption) | assumption)
                have q211 : x5_1 < (l1.length : Int) := of_decide_eq_true (by first | (with_reducible assumption) | assumption)
                obtain ⟨ad211, e211, hx211_0⟩ := Kd.at_int HR1.out x5_1 p211 q211
                cases e211
                replace p211 := eq_true p211
                replace q211 := eq_true q211
                go_wp2
                repeat (go_quiet (fail); try go_wp2)
                go_roundg k1
                case measure => have := HK1.out; omega
                case rel => exact ⟨(wrap64 (x5_1 + 1)), (by first | rfl | (simp; done) | (simp [*]; done)), H', ⟨by have := HK1.out; omega⟩, by repeat (first | exact Drawn0.refl _ | apply Drawn0.step)⟩
              · rw [if_neg c7] at H
                have c7b0 : ((rd l0 x5_1) == (rd l1 x5_1)) = false := beq_eq_false_iff_ne.mpr c7
                have c7b1 : ((rd l0 x5_1) != (rd l1 x5_1)) = true := bne_iff_ne.mpr c7
                obtain rfl := Option.some.inj H
                have p210 : 0 ≤ (x5_1 : Int) := of_decide_eq_true (by first | (with_reducible assumption) | assumption)
                have q210 : x5_1 < (l0.length : Int) := of_decide_eq_true (by first | (with_reducible assumption) | assumption)
                obtain ⟨ad210, e210, hx210_0⟩ := Kd.at_int HR0.out x5_1 p210 q210
                cases e210
                replace p210 := eq_true p210
                replace q210 := eq_true q210
                have p211 : 0 ≤ (x5_1 : Int) := of_decide_eq_true (by first | (with_reducible assumption) | assumption)
                have q211 : x5_1 < (l1.length : Int) := of_decide_eq_true (by first | (with_reducible assumption) | assumption)
                obtain ⟨ad211, e211, hx211_0⟩ := Kd.at_int HR1.out x5_1 p211 q211
                cases e211
                replace p211 := eq_true p211
                replace q211 := eq_true q211
                go_wp2
                repeat (go_quiet (fail); try go_wp2)
                go_ret
                exact ⟨by first | rfl | (simp; done) | (simp [*]; done), by repeat (first | exact Drawn0.refl _ | apply Drawn0.step)⟩
            · rw [if_neg c6] at H
              exact absurd H (by simp)
          · rw [if_neg c5] at H
            exact absurd H (by simp)
        · rw [if_neg c4] at H
          have c4b0 : decide (x5_1 < (l0.length : Int)) = false := decide_eq_false c4
          clear c4
          obtain rfl := Option.some.inj H
          go_wp2
          repeat (go_quiet (fail); try go_wp2)
          go_ret
          exact ⟨by first | rfl | (simp; done) | (simp [*]; done), by repeat (first | exact Drawn0.refl _ | apply Drawn0.step)⟩
  · rw [if_neg c3] at H
    have c3b0 : ((l0.length : Int) == (l1.length : Int)) = false := beq_eq_false_iff_ne.mpr c3
    have c3b1 : ((l0.length : Int) != (l1.length : Int)) = true := bne_iff_ne.mpr c3
    have c3b2 : (l0.length == l1.length) = false := by first | simpa using c3 | (simp at c3 ⊢; omega)
    obtain rfl := Option.some.inj H
    go_enter Try.func29, Try.ntmps29
    go_wp2
    repeat (go_quiet (fail); try go_wp2)
    go_ret
    exact ⟨by first | rfl | (simp; done) | (simp [*]; done), by repeat (first | exact Drawn0.refl _ | apply Drawn0.step)⟩

/-! ### kinkeeplaw04_few: function 15 -/
def kinkeeplaw04_few.l0 : Nat → List (List Int) → Int → Int → Option (Bool)
  | 0, _, _, _ => none
  | k + 1, x0, x1, x5 => if x5 < (x0.length : Int) then (if 0 ≤ x5 then (if ((rd_L1 x0 x5).length : Int) > x1 then (some false) else (kinkeeplaw04_few.l0 k x0 x1 (wrap64 (x5 + 1)))) else (none)) else (some (decide ((x0.length : Int) ≤ x1)))
def kinkeeplaw04_few.f (k : Nat) (l0 : List (List Int)) (a1 : Int) : Option (Bool) := kinkeeplaw04_few.l0 k l0 a1 0
theorem kinkeeplaw04_few.mono_l : ∀ k, (∀ y0 y1 y2, LeO (kinkeeplaw04_few.l0 k y0 y1 y2) (kinkeeplaw04_few.l0 (k + 1) y0 y1 y2))
  | 0 => fun _ _ _ r h => by simp [kinkeeplaw04_few.l0] at h
  | k + 1 => by
    have ih0 := kinkeeplaw04_few.mono_l k
    · intro y0 y1 y2
      unfold kinkeeplaw04_few.l0
      repeat' first
      | (with_reducible exact ih0 _ _ _)
      | (with_reducible exact LeO.refl _)
      | (with_reducible exact LeO.none _)
      | (with_reducible refine LeO.ite ?_ ?_)
      | (with_reducible refine LeO.bind ?_ (fun _ => ?_))
      | exact ih0 _ _ _
      | exact LeO.none _
      | refine LeO.ite ?_ ?_
      | refine LeO.bind ?_ (fun _ => ?_)
theorem kinkeeplaw04_few.mono : ∀ a0 a1 k, LeO (kinkeeplaw04_few.f k a0 a1) (kinkeeplaw04_few.f (k + 1) a0 a1) := by
  intro a0 a1 k
  have ih0 := kinkeeplaw04_few.mono_l k
  unfold kinkeeplaw04_few.f
  repeat' first
      | (with_reducible exact ih0 _ _ _)
      | (with_reducible exact LeO.refl _)
      | (with_reducible exact LeO.none _)
      | (with_reducible refine LeO.ite ?_ ?_)
      | (with_reducible refine LeO.bind ?_ (fun _ => ?_))
      | exact ih0 _ _ _
      | exact LeO.none _
      | refine LeO.ite ?_ ?_
      | refine LeO.bind ?_ (fun _ => ?_)
set_option maxHeartbeats 8000000 in
set_option maxRecDepth 100000 in
theorem kinkeeplaw04_few.calls (k : Nat) (A0 : Option Addr) (c0 : Nat) (l0 : List (List Int)) (a1 : Int) (r : Bool) (w : World) (hr0 : Kd.C (Kd.slice 5 (Kd.int .u8)) w A0 l0.length l0) (hc0 : l0.length ≤ c0) (h : kinkeeplaw04_few.f k l0 a1 = some r) :
    Calls Try.prog 15 #[.slice A0 l0.length c0, .int .i64 a1] w fun e w' => e = .returned (.bool r) ∧ Drawn0 w w' := by
  have HR0 := Aside0.mk hr0
  have HC0 := Aside0.mk hc0
  clear hr0 hc0
  have H : (kinkeeplaw04_few.l0 k l0 a1 0) = some r := h
  clear h
  have H' := Aside0.mk H
  clear H
  go_enter Try.func15, Try.ntmps15
  go_wp2
  go_loopg [5] k (fun kq v5 w' => ∃ (x5_1 : Int), v5 = .int .i64 x5_1 ∧ Aside0 (kinkeeplaw04_few.l0 kq l0 a1 x5_1 = some r) ∧ Aside0 (kq ≤ k) ∧ Drawn0 w w')
  case atStart => exact ⟨(0), (by first | rfl | (simp; done) | (simp [*]; done)), H', ⟨Nat.le_refl _⟩, by repeat (first | exact Drawn0.refl _ | apply Drawn0.step)⟩
  case round =>
    clear H'
    try clear c1
    try clear p2
    obtain ⟨x5_1, rfl, HA, HK1, ⟨m1, rfl⟩⟩ := hrel
    cases gk with
    | zero => exact absurd HA.out (by simp [kinkeeplaw04_few.l0])
    | succ k1 =>
      have H := HA.out
      clear HA
      simp only [kinkeeplaw04_few.l0] at H
      by_cases c3 : x5_1 < (l0.length : Int)
      · rw [if_pos c3] at H
        have c3b0 : decide (x5_1 < (l0.length : Int)) = true := decide_eq_true c3
        clear c3
        by_cases c4 : 0 ≤ x5_1
        · rw [if_pos c4] at H
          have c4b0 : decide (0 ≤ x5_1) = true := decide_eq_true c4
          clear c4
          by_cases c5 : ((rd_L1 l0 x5_1).length : Int) > a1
          · rw [if_pos c5] at H
            have c5b0 : decide (a1 < ((rd_L1 l0 x5_1).length : Int)) = true := decide_eq_true c5
            clear c5
            obtain rfl := Option.some.inj H
            have p212 : 0 ≤ (x5_1 : Int) := of_decide_eq_true (by first | (with_reducible assumption) | assumption)
            have q212 : x5_1 < (l0.length : Int) := of_decide_eq_true (by first | (with_reducible assumption) | assumption)
            obtain ⟨ad212, A212_0, c212_0, e212, hx212_0, hl212_0, hi212_0⟩ := at_L1 HR0.out x5_1 p212 q212
            cases e212
            have HR212_0 := Aside0.mk hi212_0
            have HC212_0 := Aside0.mk hl212_0
            clear hi212_0 hl212_0
            replace p212 := eq_true p212
            replace q212 := eq_true q212
            go_wp2
            go_ret
            exact ⟨by first | rfl | (simp; done) | (simp [*]; done), by repeat (first | exact Drawn0.refl _ | apply Drawn0.step)⟩
          · rw [if_neg c5] at H
            have c5b0 : decide (a1 < ((rd_L1 l0 x5_1).length : Int)) = false := decide_eq_false c5
            clear c5
            have H' := Aside0.mk H
            clear H
            have p212 : 0 ≤ (x5_1 : Int) := of_decide_eq_true (by first | (with_reducible assumption) | assumption)
            have q212 : x5_1 < (l0.length : Int) := of_decide_eq_true (by first | (with_reducible assumption) | assumption)
            obtain ⟨ad212, A212_0, c212_0, e212, hx212_0, hl212_0, hi212_0⟩ := at_L1 HR0.out x5_1 p212 q212
            cases e212
            have HR212_0 := Aside0.mk hi212_0
            have HC212_0 := Aside0.mk hl212_0
            clear hi212_0 hl212_0
            replace p212 := eq_true p212
            replace q212 := eq_true q212
            go_wp2
            go_roundg k1
            case measure => have := HK1.out; omega
            case rel => exact ⟨(wrap64 (x5_1 + 1)), (by first | rfl | (simp; done) | (simp [*]; done)), H', ⟨by have := HK1.out; omega⟩, by repeat (first | exact Drawn0.refl _ | apply Drawn0.step)⟩
        · rw [if_neg c4] at H
          exact absurd H (by simp)
      · rw [if_neg c3] at H
        have c3b0 : decide (x5_1 < (l0.length : Int)) = false := decide_eq_false c3
        clear c3
        obtain rfl := Option.some.inj H
        go_wp2
        go_ret
        exact ⟨by first | rfl | (simp; done) | (simp [*]; done), by repeat (first | exact Drawn0.refl _ | apply Drawn0.step)⟩

/-! ### kinkeeplaw04_column: function 25 -/
def kinkeeplaw04_column.l0 : Nat → List Int → List (List Int) → Int → Option ((List (List Int)))
  | 0, _, _, _ => none
  | k + 1, x0, x3, x4 => if x4 < (x0.length : Int) then (if 0 ≤ x4 then (if x3.length < 5864062014805 then (kinkeeplaw04_column.l0 k x0 (x3 ++ [(([rd x0 x4] : List Int))]) (wrap64 (x4 + 1))) else (none)) else (none)) else (some x3)
def kinkeeplaw04_column.f (k : Nat) (l0 : List Int) : Option ((List (List Int))) := kinkeeplaw04_column.l0 k l0 (([] : List (List Int))) 0
theorem kinkeeplaw04_column.mono_l : ∀ k, (∀ y0 y1 y2, LeO (kinkeeplaw04_column.l0 k y0 y1 y2) (kinkeeplaw04_column.l0 (k + 1) y0 y1 y2))
  | 0 => fun _ _ _ r h => by simp [kinkeeplaw04_column.l0] at h
  | k + 1 => by
    have ih0 := kinkeeplaw04_column.mono_l k
    · intro y0 y1 y2
      unfold kinkeeplaw04_column.l0
      repeat' first
      | (with_reducible exact ih0 _ _ _)
      | (with_reducible exact LeO.refl _)
      | (with_reducible exact LeO.none _)
      | (with_reducible refine LeO.ite ?_ ?_)
      | (with_reducible refine LeO.bind ?_ (fun _ => ?_))
      | exact ih0 _ _ _
      | exact LeO.none _
      | refine LeO.ite ?_ ?_
      | refine LeO.bind ?_ (fun _ => ?_)
theorem kinkeeplaw04_column.mono : ∀ a0 k, LeO (kinkeeplaw04_column.f k a0) (kinkeeplaw04_column.f (k + 1) a0) := by
  intro a0 k
  have ih0 := kinkeeplaw04_column.mono_l k
  unfold kinkeeplaw04_column.f
  repeat' first
      | (with_reducible exact ih0 _ _ _)
      | (with_reducible exact LeO.refl _)
      | (with_reducible exact LeO.none _)
      | (with_reducible refine LeO.ite ?_ ?_)
      | (with_reducible refine LeO.bind ?_ (fun _ => ?_))
      | exact ih0 _ _ _
      | exact LeO.none _
      | refine LeO.ite ?_ ?_
      | refine LeO.bind ?_ (fun _ => ?_)
set_option maxHeartbeats 8000000 in
set_option maxRecDepth 100000 in
theorem kinkeeplaw04_column.calls (k : Nat) (A0 : Option Addr) (c0 : Nat) (l0 : List Int) (r : List (List Int)) (w : World) (hr0 : Kd.C (Kd.int .u8) w A0 l0.length l0) (hc0 : l0.length ≤ c0) (h : kinkeeplaw04_column.f k l0 = some r) :
    Calls Try.prog 25 #[.slice A0 l0.length c0] w fun e w' => ∃ v0_ : Value, e = .returned (v0_) ∧ Kd.S (Kd.slice 5 (Kd.int .u8)) 34 w' w.heap.size (fun _ => True) v0_ r ∧ Below w.heap.size w w' := by
  have HR0 := Aside0.mk hr0
  have HC0 := Aside0.mk hc0
  clear hr0 hc0
  have HB := Aside0.mk (Below.refl w.heap.size w)
  have H : (kinkeeplaw04_column.l0 k l0 (([] : List (List Int))) 0) = some r := h
  clear h
  obtain ⟨y213, hy213⟩ : ∃ y_ : List (List Int), y_ = (([] : List (List Int))) := ⟨_, rfl⟩
  replace H : (kinkeeplaw04_column.l0 k l0 y213 0) = some r := by first | (rw [hy213]; with_reducible exact H) | (have H2_ := (Option.bind_some _ _).symm.trans H; rw [hy213]; with_reducible exact H2_) | (have H2_ := (Option.bind_some _ _).symm.trans H; with_reducible exact H2_) | with_reducible exact H | (rw [hy213]; exact H) | exact H
  have Ny213 := Aside0.mk hy213
  clear hy213
  have H' := Aside0.mk H
  clear H
  go_enter Try.func25, Try.ntmps25
  go_wp2_with (first | ((with_reducible refine gate_dst (N := 5) rfl ?_); refine Kd.S_lit (Kd.slice 5 (Kd.int .u8)) _ 34 ?hg (N := 5) ?hd (xs := ([] : List (List Int))) (inner := []) (ok := fun _ => True) (okp := fun _ => True) ?hr ?hp (fun _ hk => hk) trivial (Below.refl _ _) (Nat.le_refl _) (by simp) ?_; (case hd => rfl); (case hg => rfl); (case hr => first | (go_simp; done) | (go_simp; rfl)); (case hp => exact (Reps.none _ _)); intro v214 w2 ho3 hb hg_ hnew_; clear hg_ hnew_; (first | rw [← Ny213.out] at ho3 | (simp only [Int.reduceToNat] at ho3; rw [← Ny213.out] at ho3)); have n0_ := Aside0.mk (Kd.S_lower ho3 (below_size (by repeat (first | (with_reducible first | exact HB.out | apply below_alloc | apply pw_below_drewN | apply below_drew1) | exact HB.out)))); have n1_ := Aside0.mk (below_step (by repeat (first | (with_reducible first | exact HB.out | apply below_alloc | apply pw_below_drewN | apply below_drew1) | exact HB.out)) hb); clear HB; have HO215 := n0_; have HB := n1_; clear n0_ n1_; clear hb ho3))
  go_loopg [3, 4] k (fun kq v3 v4 w' => ∃ (x3_1 : List (List Int)) (x4_1 : Int), v4 = .int .i64 x4_1 ∧ Aside0 (kinkeeplaw04_column.l0 kq l0 x3_1 x4_1 = some r) ∧ Aside0 (kq ≤ k) ∧ Aside0 (Kd.S (Kd.slice 5 (Kd.int .u8)) 34 w' w.heap.size (fun _ => True) v3 x3_1) ∧ Aside0 (Below w.heap.size w w'))
  case atStart => exact ⟨(y213), (0), (by first | rfl | (simp; done) | (simp [*]; done)), H', ⟨Nat.le_refl _⟩, ⟨by (with_reducible repeat (first | apply Kd.S_alloc | apply Kd.S_drewN | apply Kd.S_drew)); exact HO215.out⟩, ⟨by repeat (first | (with_reducible first | exact HB.out | apply below_alloc | apply pw_below_drewN | apply below_drew1) | exact HB.out)⟩⟩
  case round =>
    clear H'
    try clear c2
    try clear p2
    obtain ⟨x3_1, x4_1, rfl, HA, HK1, HO_3, HB⟩ := hrel
    cases gk with
    | zero => exact absurd HA.out (by simp [kinkeeplaw04_column.l0])
    | succ k1 =>
      have H := HA.out
      clear HA
      simp only [kinkeeplaw04_column.l0] at H
      by_cases c4 : x4_1 < (l0.length : Int)
      · rw [if_pos c4] at H
        have c4b0 : decide (x4_1 < (l0.length : Int)) = true := decide_eq_true c4
        clear c4
        by_cases c5 : 0 ≤ x4_1
        · rw [if_pos c5] at H
          have c5b0 : decide (0 ≤ x4_1) = true := decide_eq_true c5
          clear c5
          obtain ⟨y217, hy217⟩ : ∃ y_ : List Int, y_ = (([rd l0 x4_1] : List Int)) := ⟨_, rfl⟩
          replace H : (if x3_1.length < 5864062014805 then (kinkeeplaw04_column.l0 k1 l0 (x3_1 ++ [y217]) (wrap64 (x4_1 + 1))) else (none)) = some r := by first | (rw [hy217]; with_reducible exact H) | (have H2_ := (Option.bind_some _ _).symm.trans H; rw [hy217]; with_reducible exact H2_) | (have H2_ := (Option.bind_some _ _).symm.trans H; with_reducible exact H2_) | with_reducible exact H | (rw [hy217]; exact H) | exact H
          have Ny217 := Aside0.mk hy217
          clear hy217
          by_cases c6 : x3_1.length < 5864062014805
          · rw [if_pos c6] at H
            have LMc6 := Aside0.mk c6
            clear c6
            obtain ⟨y220, hy220⟩ : ∃ y_ : List (List Int), y_ = (x3_1 ++ [y217]) := ⟨_, rfl⟩
            replace H : (kinkeeplaw04_column.l0 k1 l0 y220 (wrap64 (x4_1 + 1))) = some r := by first | (rw [hy220]; with_reducible exact H) | (have H2_ := (Option.bind_some _ _).symm.trans H; rw [hy220]; with_reducible exact H2_) | (have H2_ := (Option.bind_some _ _).symm.trans H; with_reducible exact H2_) | with_reducible exact H | (rw [hy220]; exact H) | exact H
            have Ny220 := Aside0.mk hy220
            clear hy220
            have H' := Aside0.mk H
            clear H
            have p216 : 0 ≤ (x4_1 : Int) := of_decide_eq_true (by first | (with_reducible assumption) | assumption)
            have q216 : x4_1 < (l0.length : Int) := of_decide_eq_true (by first | (with_reducible assumption) | assumption)
            obtain ⟨ad216, e216, hx216_0⟩ := Kd.at_int HR0.out x4_1 p216 q216
            cases e216
            replace hx216_0 := (HB.out.cell (World.block_lt_of_cell? w _ hx216_0)).trans hx216_0
            replace p216 := eq_true p216
            replace q216 := eq_true q216
            go_wp2_with (first | ((with_reducible refine gate_dst (N := 17) rfl ?_); refine Kd.R_lit (Kd.int .u8) _ 5 ?hg (N := 17) ?hd (xs := ([rd l0 x4_1] : List Int)) (inner := [.int .u8 (rd l0 x4_1)]) (ok := fun _ => True) (okp := fun _ => True) ?hr ?hp (fun _ hk => hk) trivial (Below.refl _ _) (Nat.le_refl _) (by simp) ?_; (case hd => rfl); (case hg => rfl); (case hr => first | (go_simp; done) | (go_simp; rfl)); (case hp => exact (Reps.one (show Kd.M (Kd.int .u8) _ _ _ (rd l0 x4_1) [.int .u8 (rd l0 x4_1)] from rfl) (Reps.none _ _))); intro v218 w7 ho8 hb hg_ hnew_; clear hg_ hnew_; (first | rw [← Ny217.out] at ho8 | (simp only [Int.reduceToNat] at ho8; rw [← Ny217.out] at ho8)); have n0_ := Aside0.mk (Kd.S_elder' (by (with_reducible repeat (first | apply Kd.S_alloc | apply Kd.S_drewN | apply Kd.S_drew)); exact HO_3.out) (Kd.R_base ho8) hb); have n1_ := Aside0.mk (Kd.R_lower ho8 (below_size (by repeat (first | (with_reducible first | exact HB.out | apply below_alloc | apply pw_below_drewN | apply below_drew1) | exact HB.out)))); have n2_ := Aside0.mk (below_step (by repeat (first | (with_reducible first | exact HB.out | apply below_alloc | apply pw_below_drewN | apply below_drew1) | exact HB.out)) hb); clear HO_3; clear HB; have HO_3 := n0_; have HO219 := n1_; have HB := n2_; clear n0_ n1_ n2_; clear hb ho8; obtain ⟨Ao10, co10, eo10⟩ := Kd.R_slice HO219.out; subst eo10) | ((with_reducible refine gate_builtin (b := .append) (xs := #[.tmp 12, .tmp 18]) rfl ?_); at_builtin; refine Kd.S_append (Kd.slice 5 (Kd.int .u8)) (w0 := w) w.heap.size rfl (.tmp 12) (.tmp 18) 22 34 (.slice none 0 0) 24 rfl Try.underlying22 info34 rfl (by decide) (by omega) u3 x3_1 y217 [.slice Ao10 y217.length co10] (fun _ => True) (fun k_ => some k_ = (.slice Ao10 y217.length co10 : Value).ownBlock) rfl rfl ?aP (fun k_ hk_ => ((Kd.R_mono (ok' := fun k_ => ((fun _ => True)) k_ ∧ some k_ ≠ (u3 : Value).ownBlock) (Kd.R_apart' (HO219.out) (Kd.S_typed HO_3.out) (by decide)) (fun k_ hk => ⟨trivial, hk.2⟩))).1 k_ hk_.symm) ?aF ?aO ?aB ?aS ?aL ?_; (case aP => exact Kd.M_row (Kd.R_mono (Kd.R_tight rfl (Kd.R_mono (ok' := fun k_ => ((fun _ => True)) k_ ∧ some k_ ≠ (u3 : Value).ownBlock) (Kd.R_apart' (HO219.out) (Kd.S_typed HO_3.out) (by decide)) (fun k_ hk => ⟨trivial, hk.2⟩))) (fun _ h_ => h_))); (case aB => exact (by repeat (first | (with_reducible first | exact HB.out | apply below_alloc | apply pw_below_drewN | apply below_drew1) | exact HB.out))); (case aF => exact (fun _ _ => trivial)); (case aO => exact (by (with_reducible repeat (first | apply Kd.S_alloc | apply Kd.S_drewN | apply Kd.S_drew)); exact Kd.S_mono HO_3.out (fun k_ hk => ⟨trivial, fun e_ => hk.2 e_⟩))); (case aS => exact (below_size (by repeat (first | (with_reducible first | exact HB.out | apply below_alloc | apply pw_below_drewN | apply below_drew1) | exact HB.out)))); (case aL => have := LMc6.out; omega); intro v221 w9 ho hb hg hat; rw [← Ny220.out] at ho; have n0_ := Aside0.mk (hb); have n1_ := Aside0.mk (ho); clear HB; clear HO_3; clear HO219; have HB := n0_; have HO222 := n1_; clear n0_ n1_; clear ho hb hg hat))
            go_roundg k1
            case measure => have := HK1.out; omega
            case rel => exact ⟨(y220), (wrap64 (x4_1 + 1)), (by first | rfl | (simp; done) | (simp [*]; done)), H', ⟨by have := HK1.out; omega⟩, ⟨by (with_reducible repeat (first | apply Kd.S_alloc | apply Kd.S_drewN | apply Kd.S_drew)); exact HO222.out⟩, ⟨by repeat (first | (with_reducible first | exact HB.out | apply below_alloc | apply pw_below_drewN | apply below_drew1) | exact HB.out)⟩⟩
          · rw [if_neg c6] at H
            exact absurd H (by simp)
        · rw [if_neg c5] at H
          exact absurd H (by simp)
      · rw [if_neg c4] at H
        have c4b0 : decide (x4_1 < (l0.length : Int)) = false := decide_eq_false c4
        clear c4
        obtain rfl := Option.some.inj H
        go_wp2
        go_ret
        exact ⟨_, by first | rfl | (simp [errW_none, errW_some] <;> rfl) | (simp [*, errW_none, errW_some] <;> rfl), by (with_reducible repeat (first | apply Kd.S_alloc | apply Kd.S_drewN | apply Kd.S_drew)); exact HO_3.out, by repeat (first | (with_reducible first | exact HB.out | apply below_alloc | apply pw_below_drewN | apply below_drew1) | exact HB.out)⟩

/-! ### kinkeeplaw04_free: function 22 -/
def kinkeeplaw04_free.l0 : Nat → List Int → Int → Int → Option (Bool)
  | 0, _, _, _ => none
  | k + 1, x0, x1, x5 => if x5 < (x0.length : Int) then (if 0 ≤ x5 then (if (rd x0 x5) = x1 then (some false) else (kinkeeplaw04_free.l0 k x0 x1 (wrap64 (x5 + 1)))) else (none)) else (some true)
def kinkeeplaw04_free.f (k : Nat) (l0 : List Int) (a1 : Int) : Option (Bool) := kinkeeplaw04_free.l0 k l0 a1 0
theorem kinkeeplaw04_free.mono_l : ∀ k, (∀ y0 y1 y2, LeO (kinkeeplaw04_free.l0 k y0 y1 y2) (kinkeeplaw04_free.l0 (k + 1) y0 y1 y2))
  | 0 => fun _ _ _ r h => by simp [kinkeeplaw04_free.l0] at h
  | k + 1 => by
    have ih0 := kinkeeplaw04_free.mono_l k
    · intro y0 y1 y2
      unfold kinkeeplaw04_free.l0
      repeat' first
      | (with_reducible exact ih0 _ _ _)
      | (with_reducible exact LeO.refl _)
      | (with_reducible exact LeO.none _)
      | (with_reducible refine LeO.ite ?_ ?_)
      | (with_reducible refine LeO.bind ?_ (fun _ => ?_))
      | exact ih0 _ _ _
      | exact LeO.none _
      | refine LeO.ite ?_ ?_
      | refine LeO.bind ?_ (fun _ => ?_)
theorem kinkeeplaw04_free.mono : ∀ a0 a1 k, LeO (kinkeeplaw04_free.f k a0 a1) (kinkeeplaw04_free.f (k + 1) a0 a1) := by
  intro a0 a1 k
  have ih0 := kinkeeplaw04_free.mono_l k
  unfold kinkeeplaw04_free.f
  repeat' first
      | (with_reducible exact ih0 _ _ _)
      | (with_reducible exact LeO.refl _)
      | (with_reducible exact LeO.none _)
      | (with_reducible refine LeO.ite ?_ ?_)
      | (with_reducible refine LeO.bind ?_ (fun _ => ?_))
      | exact ih0 _ _ _
      | exact LeO.none _
      | refine LeO.ite ?_ ?_
      | refine LeO.bind ?_ (fun _ => ?_)
set_option maxHeartbeats 8000000 in
set_option maxRecDepth 100000 in
theorem kinkeeplaw04_free.calls (k : Nat) (A0 : Option Addr) (c0 : Nat) (l0 : List Int) (a1 : Int) (r : Bool) (w : World) (hr0 : Kd.C (Kd.int .i64) w A0 l0.length l0) (hc0 : l0.length ≤ c0) (h : kinkeeplaw04_free.f k l0 a1 = some r) :
    Calls Try.prog 22 #[.slice A0 l0.length c0, .int .i64 a1] w fun e w' => e = .returned (.bool r) ∧ Drawn0 w w' := by
  have HR0 := Aside0.mk hr0
  have HC0 := Aside0.mk hc0
  clear hr0 hc0
  have H : (kinkeeplaw04_free.l0 k l0 a1 0) = some r := h
  clear h
  have H' := Aside0.mk H
  clear H
  go_enter Try.func22, Try.ntmps22
  go_wp2
  go_loopg [5] k (fun kq v5 w' => ∃ (x5_1 : Int), v5 = .int .i64 x5_1 ∧ Aside0 (kinkeeplaw04_free.l0 kq l0 a1 x5_1 = some r) ∧ Aside0 (kq ≤ k) ∧ Drawn0 w w')
  case atStart => exact ⟨(0), (by first | rfl | (simp; done) | (simp [*]; done)), H', ⟨Nat.le_refl _⟩, by repeat (first | exact Drawn0.refl _ | apply Drawn0.step)⟩
  case round =>
    clear H'
    try clear c2
    try clear p2
    obtain ⟨x5_1, rfl, HA, HK1, ⟨m1, rfl⟩⟩ := hrel
    cases gk with
    | zero => exact absurd HA.out (by simp [kinkeeplaw04_free.l0])
    | succ k1 =>
      have H := HA.out
      clear HA
      simp only [kinkeeplaw04_free.l0] at H
      by_cases c3 : x5_1 < (l0.length : Int)
      · rw [if_pos c3] at H
        have c3b0 : decide (x5_1 < (l0.length : Int)) = true := decide_eq_true c3
        clear c3
        by_cases c4 : 0 ≤ x5_1
        · rw [if_pos c4] at H
          have c4b0 : decide (0 ≤ x5_1) = true := decide_eq_true c4
          clear c4
          by_cases c5 : (rd l0 x5_1) = a1
          · rw [if_pos c5] at H
            have c5b0 : ((rd l0 x5_1) == a1) = true := beq_iff_eq.mpr c5
            have c5b1 : ((rd l0 x5_1) != a1) = false := bne_eq_false_iff_eq.mpr c5
            clear c5
            obtain rfl := Option.some.inj H
            have p223 : 0 ≤ (x5_1 : Int) := of_decide_eq_true (by first | (with_reducible assumption) | assumption)
            have q223 : x5_1 < (l0.length : Int) := of_decide_eq_true (by first | (with_reducible assumption) | assumption)
            obtain ⟨ad223, e223, hx223_0⟩ := Kd.at_int HR0.out x5_1 p223 q223
            cases e223
            replace p223 := eq_true p223
            replace q223 := eq_true q223
            go_wp2
            go_ret
            exact ⟨by first | rfl | (simp; done) | (simp [*]; done), by repeat (first | exact Drawn0.refl _ | apply Drawn0.step)⟩
          · rw [if_neg c5] at H
            have c5b0 : ((rd l0 x5_1) == a1) = false := beq_eq_false_iff_ne.mpr c5
            have c5b1 : ((rd l0 x5_1) != a1) = true := bne_iff_ne.mpr c5
            have H' := Aside0.mk H
            clear H
            have p223 : 0 ≤ (x5_1 : Int) := of_decide_eq_true (by first | (with_reducible assumption) | assumption)
            have q223 : x5_1 < (l0.length : Int) := of_decide_eq_true (by first | (with_reducible assumption) | assumption)
            obtain ⟨ad223, e223, hx223_0⟩ := Kd.at_int HR0.out x5_1 p223 q223
            cases e223
            replace p223 := eq_true p223
            replace q223 := eq_true q223
            go_wp2
            go_roundg k1
            case measure => have := HK1.out; omega
            case rel => exact ⟨(wrap64 (x5_1 + 1)), (by first | rfl | (simp; done) | (simp [*]; done)), H', ⟨by have := HK1.out; omega⟩, by repeat (first | exact Drawn0.refl _ | apply Drawn0.step)⟩
        · rw [if_neg c4] at H
          exact absurd H (by simp)
      · rw [if_neg c3] at H
        have c3b0 : decide (x5_1 < (l0.length : Int)) = false := decide_eq_false c3
        clear c3
        obtain rfl := Option.some.inj H
        go_wp2
        go_ret
        exact ⟨by first | rfl | (simp; done) | (simp [*]; done), by repeat (first | exact Drawn0.refl _ | apply Drawn0.step)⟩

/-! ### reedsolomon_Valid: function 37 -/
def reedsolomon_Valid.f (a0 : Int) (a1 : Int) : Option (Bool) := if a0 ≥ 1 then (if a0 ≤ 8 then (if a1 ≥ a0 then (some (decide (a1 ≤ 16))) else (some false)) else (some false)) else (some false)
set_option maxHeartbeats 8000000 in
set_option maxRecDepth 100000 in
theorem reedsolomon_Valid.calls (a0 : Int) (a1 : Int) (r : Bool) (w : World) (h : reedsolomon_Valid.f a0 a1 = some r) :
    Calls Try.prog 37 #[.int .i64 a0, .int .i64 a1] w fun e w' => e = .returned (.bool r) ∧ Drawn0 w w' := by
  have H : (if a0 ≥ 1 then (if a0 ≤ 8 then (if a1 ≥ a0 then (some (decide (a1 ≤ 16))) else (some false)) else (some false)) else (some false)) = some r := h
  clear h
  by_cases c3 : a0 ≥ 1
  · rw [if_pos c3] at H
    have c3b0 : decide (1 ≤ a0) = true := decide_eq_true c3
    clear c3
    by_cases c4 : a0 ≤ 8
    · rw [if_pos c4] at H
      have c4b0 : decide (a0 ≤ 8) = true := decide_eq_true c4
      clear c4
      by_cases c5 : a1 ≥ a0
      · rw [if_pos c5] at H
        have c5b0 : decide (a0 ≤ a1) = true := decide_eq_true c5
        clear c5
        obtain rfl := Option.some.inj H
        go_enter Try.func37, Try.ntmps37
        go_wp2
        go_ret
        exact ⟨by first | rfl | (simp; done) | (simp [*]; done), by repeat (first | exact Drawn0.refl _ | apply Drawn0.step)⟩
      · rw [if_neg c5] at H
        have c5b0 : decide (a0 ≤ a1) = false := decide_eq_false c5
        clear c5
        obtain rfl := Option.some.inj H
        go_enter Try.func37, Try.ntmps37
        go_wp2
        go_ret
        exact ⟨by first | rfl | (simp; done) | (simp [*]; done), by repeat (first | exact Drawn0.refl _ | apply Drawn0.step)⟩
    · rw [if_neg c4] at H
      have c4b0 : decide (a0 ≤ 8) = false := decide_eq_false c4
      clear c4
      obtain rfl := Option.some.inj H
      go_enter Try.func37, Try.ntmps37
      go_wp2
      go_ret
      exact ⟨by first | rfl | (simp; done) | (simp [*]; done), by repeat (first | exact Drawn0.refl _ | apply Drawn0.step)⟩
  · rw [if_neg c3] at H
    have c3b0 : decide (1 ≤ a0) = false := decide_eq_false c3
    clear c3
    obtain rfl := Option.some.inj H
    go_enter Try.func37, Try.ntmps37
    go_wp2
    go_ret
    exact ⟨by first | rfl | (simp; done) | (simp [*]; done), by repeat (first | exact Drawn0.refl _ | apply Drawn0.step)⟩

/-! ### kinkeeptop_a04Same: function 44 -/
def kinkeeptop_a04Same.l0 : Nat → List (List Int) → List (List Int) → Int → Int → Option (Bool)
  | 0, _, _, _, _ => none
  | k + 1, x0, x1, x12, x13 => if x13 < x12 then (if 0 ≤ x13 then (if x13 < (x0.length : Int) then (if x13 < (x1.length : Int) then (if (strOfNums (rd_L1 x0 x13)).toList = (strOfNums (rd_L1 x1 x13)).toList then (kinkeeptop_a04Same.l0 k x0 x1 x12 (wrap64 (x13 + 1))) else (some false)) else (none)) else (none)) else (none)) else (some true)
def kinkeeptop_a04Same.f (k : Nat) (l0 : List (List Int)) (l1 : List (List Int)) : Option (Bool) := if (l0.length : Int) = (l1.length : Int) then (kinkeeptop_a04Same.l0 k l0 l1 (l0.length : Int) 0) else (some false)
theorem kinkeeptop_a04Same.mono_l : ∀ k, (∀ y0 y1 y2 y3, LeO (kinkeeptop_a04Same.l0 k y0 y1 y2 y3) (kinkeeptop_a04Same.l0 (k + 1) y0 y1 y2 y3))
  | 0 => fun _ _ _ _ r h => by simp [kinkeeptop_a04Same.l0] at h
  | k + 1 => by
    have ih0 := kinkeeptop_a04Same.mono_l k
    · intro y0 y1 y2 y3
      unfold kinkeeptop_a04Same.l0
      repeat' first
      | (with_reducible exact ih0 _ _ _ _)
      | (with_reducible exact LeO.refl _)
      | (with_reducible exact LeO.none _)
      | (with_reducible refine LeO.ite ?_ ?_)
      | (with_reducible refine LeO.bind ?_ (fun _ => ?_))
      | exact ih0 _ _ _ _
      | exact LeO.none _
      | refine LeO.ite ?_ ?_
      | refine LeO.bind ?_ (fun _ => ?_)
theorem kinkeeptop_a04Same.mono : ∀ a0 a1 k, LeO (kinkeeptop_a04Same.f k a0 a1) (kinkeeptop_a04Same.f (k + 1) a0 a1) := by
  intro a0 a1 k
  have ih0 := kinkeeptop_a04Same.mono_l k
  unfold kinkeeptop_a04Same.f
  repeat' first
      | (with_reducible exact ih0 _ _ _ _)
      | (with_reducible exact LeO.refl _)
      | (with_reducible exact LeO.none _)
      | (with_reducible refine LeO.ite ?_ ?_)
      | (with_reducible refine LeO.bind ?_ (fun _ => ?_))
      | exact ih0 _ _ _ _
      | exact LeO.none _
      | refine LeO.ite ?_ ?_
      | refine LeO.bind ?_ (fun _ => ?_)
set_option maxHeartbeats 8000000 in
set_option maxRecDepth 100000 in
theorem kinkeeptop_a04Same.calls (k : Nat) (A0 : Option Addr) (c0 : Nat) (l0 : List (List Int)) (A1 : Option Addr) (c1 : Nat) (l1 : List (List Int)) (r : Bool) (w : World) (hr0 : Kd.C (Kd.slice 5 (Kd.int .u8)) w A0 l0.length l0) (hc0 : l0.length ≤ c0) (hr1 : Kd.C (Kd.slice 5 (Kd.int .u8)) w A1 l1.length l1) (hc1 : l1.length ≤ c1) (h : kinkeeptop_a04Same.f k l0 l1 = some r) :
    Calls Try.prog 44 #[.slice A0 l0.length c0, .slice A1 l1.length c1] w fun e w' => e = .returned (.bool r) ∧ Drawn0 w w' := by
  have HR0 := Aside0.mk hr0
  have HC0 := Aside0.mk hc0
  clear hr0 hc0
  have HR1 := Aside0.mk hr1
  have HC1 := Aside0.mk hc1
  clear hr1 hc1
  have H : (if (l0.length : Int) = (l1.length : Int) then (kinkeeptop_a04Same.l0 k l0 l1 (l0.length : Int) 0) else (some false)) = some r := h
  clear h
  by_cases c3 : (l0.length : Int) = (l1.length : Int)
  · rw [if_pos c3] at H
    have c3b0 : ((l0.length : Int) == (l1.length : Int)) = true := beq_iff_eq.mpr c3
    have c3b1 : ((l0.length : Int) != (l1.length : Int)) = false := bne_eq_false_iff_eq.mpr c3
    have c3b2 : (l0.length == l1.length) = true := by first | simpa using c3 | (simp at c3 ⊢; omega)
    clear c3
    have H' := Aside0.mk H
    clear H
    go_enter Try.func44, Try.ntmps44
    go_wp2
    repeat (go_quiet (fail); try go_wp2)
    go_loopg [13] k (fun kq v13 w' => ∃ (x13_1 : Int), v13 = .int .i64 x13_1 ∧ Aside0 (kinkeeptop_a04Same.l0 kq l0 l1 (l0.length : Int) x13_1 = some r) ∧ Aside0 (kq ≤ k) ∧ Drawn0 w w')
    case atStart => exact ⟨(0), (by first | rfl | (simp; done) | (simp [*]; done)), H', ⟨Nat.le_refl _⟩, by repeat (first | exact Drawn0.refl _ | apply Drawn0.step)⟩
    case round =>
      clear H'
      try clear c1
      try clear p2
      try clear c3
      try clear c3b0
      try clear c3b1
      try clear c3b2
      obtain ⟨x13_1, rfl, HA, HK1, ⟨m1, rfl⟩⟩ := hrel
      cases gk with
      | zero => exact absurd HA.out (by simp [kinkeeptop_a04Same.l0])
      | succ k1 =>
        have H := HA.out
        clear HA
        simp only [kinkeeptop_a04Same.l0] at H
        by_cases c4 : x13_1 < (l0.length : Int)
        · rw [if_pos c4] at H
          have c4b0 : decide (x13_1 < (l0.length : Int)) = true := decide_eq_true c4
          clear c4
          by_cases c5 : 0 ≤ x13_1
          · rw [if_pos c5] at H
            have c5b0 : decide (0 ≤ x13_1) = true := decide_eq_true c5
            clear c5
            by_cases c6 : x13_1 < (l0.length : Int)
            · rw [if_pos c6] at H
              have c6b0 : decide (x13_1 < (l0.length : Int)) = true := decide_eq_true c6
              clear c6
              by_cases c7 : x13_1 < (l1.length : Int)
              · rw [if_pos c7] at H
                have c7b0 : decide (x13_1 < (l1.length : Int)) = true := decide_eq_true c7
                clear c7
                by_cases c8 : (strOfNums (rd_L1 l0 x13_1)).toList = (strOfNums (rd_L1 l1 x13_1)).toList
                · rw [if_pos c8] at H
                  have c8b0 : ((strOfNums (rd_L1 l0 x13_1)).toList == (strOfNums (rd_L1 l1 x13_1)).toList) = true := beq_iff_eq.mpr c8
                  have c8b1 : ((strOfNums (rd_L1 l0 x13_1)).toList != (strOfNums (rd_L1 l1 x13_1)).toList) = false := bne_eq_false_iff_eq.mpr c8
                  clear c8
                  have H' := Aside0.mk H
                  clear H
                  have p224 : 0 ≤ (x13_1 : Int) := of_decide_eq_true (by first | (with_reducible assumption) | assumption)
                  have q224 : x13_1 < (l0.length : Int) := of_decide_eq_true (by first | (with_reducible assumption) | assumption)
                  obtain ⟨ad224, A224_0, c224_0, e224, hx224_0, hl224_0, hi224_0⟩ := at_L1 HR0.out x13_1 p224 q224
                  cases e224
                  have HR224_0 := Aside0.mk hi224_0
                  have HC224_0 := Aside0.mk hl224_0
                  clear hi224_0 hl224_0
                  replace p224 := eq_true p224
                  replace q224 := eq_true q224
                  have hcv9 := Kd.C_string (P := Try.prog) (A := A224_0) (c := c224_0) Try.underlying34 Try.underlying5 Try.underlying9 HR224_0.out
                  have hcv9d := fun n_ => Kd.C_string (P := Try.prog) (A := A224_0) (c := c224_0) Try.underlying34 Try.underlying5 Try.underlying9 (Kd.C_drewN HR224_0.out n_)
                  have hcv9e := fun n_ m_ => Kd.C_string (P := Try.prog) (A := A224_0) (c := c224_0) Try.underlying34 Try.underlying5 Try.underlying9 (Kd.C_drewN (Kd.C_drewN HR224_0.out n_) m_)
                  have p225 : 0 ≤ (x13_1 : Int) := of_decide_eq_true (by first | (with_reducible assumption) | assumption)
                  have q225 : x13_1 < (l1.length : Int) := of_decide_eq_true (by first | (with_reducible assumption) | assumption)
                  obtain ⟨ad225, A225_0, c225_0, e225, hx225_0, hl225_0, hi225_0⟩ := at_L1 HR1.out x13_1 p225 q225
                  cases e225
                  have HR225_0 := Aside0.mk hi225_0
                  have HC225_0 := Aside0.mk hl225_0
                  clear hi225_0 hl225_0
                  replace p225 := eq_true p225
                  replace q225 := eq_true q225
                  have hcv10 := Kd.C_string (P := Try.prog) (A := A225_0) (c := c225_0) Try.underlying34 Try.underlying5 Try.underlying9 HR225_0.out
                  have hcv10d := fun n_ => Kd.C_string (P := Try.prog) (A := A225_0) (c := c225_0) Try.underlying34 Try.underlying5 Try.underlying9 (Kd.C_drewN HR225_0.out n_)
                  have hcv10e := fun n_ m_ => Kd.C_string (P := Try.prog) (A := A225_0) (c := c225_0) Try.underlying34 Try.underlying5 Try.underlying9 (Kd.C_drewN (Kd.C_drewN HR225_0.out n_) m_)
                  go_wp2
                  repeat (go_quiet (fail); try go_wp2)
                  go_roundg k1
                  case measure => have := HK1.out; omega
                  case rel => exact ⟨(wrap64 (x13_1 + 1)), (by first | rfl | (simp; done) | (simp [*]; done)), H', ⟨by have := HK1.out; omega⟩, by repeat (first | exact Drawn0.refl _ | apply Drawn0.step)⟩
                · rw [if_neg c8] at H
                  have c8b0 : ((strOfNums (rd_L1 l0 x13_1)).toList == (strOfNums (rd_L1 l1 x13_1)).toList) = false := beq_eq_false_iff_ne.mpr c8
                  have c8b1 : ((strOfNums (rd_L1 l0 x13_1)).toList != (strOfNums (rd_L1 l1 x13_1)).toList) = true := bne_iff_ne.mpr c8
                  obtain rfl := Option.some.inj H
                  have p224 : 0 ≤ (x13_1 : Int) := of_decide_eq_true (by first | (with_reducible assumption) | assumption)
                  have q224 : x13_1 < (l0.length : Int) := of_decide_eq_true (by first | (with_reducible assumption) | assumption)
                  obtain ⟨ad224, A224_0, c224_0, e224, hx224_0, hl224_0, hi224_0⟩ := at_L1 HR0.out x13_1 p224 q224
                  cases e224
                  have HR224_0 := Aside0.mk hi224_0
                  have HC224_0 := Aside0.mk hl224_0
                  clear hi224_0 hl224_0
                  replace p224 := eq_true p224
                  replace q224 := eq_true q224
                  have hcv11 := Kd.C_string (P := Try.prog) (A := A224_0) (c := c224_0) Try.underlying34 Try.underlying5 Try.underlying9 HR224_0.out
                  have hcv11d := fun n_ => Kd.C_string (P := Try.prog) (A := A224_0) (c := c224_0) Try.underlying34 Try.underlying5 Try.underlying9 (Kd.C_drewN HR224_0.out n_)
                  have hcv11e := fun n_ m_ => Kd.C_string (P := Try.prog) (A := A224_0) (c := c224_0) Try.underlying34 Try.underlying5 Try.underlying9 (Kd.C_drewN (Kd.C_drewN HR224_0.out n_) m_)
                  have p225 : 0 ≤ (x13_1 : Int) := of_decide_eq_true (by first | (with_reducible assumption) | assumption)
                  have q225 : x13_1 < (l1.length : Int) := of_decide_eq_true (by first | (with_reducible assumption) | assumption)
                  obtain ⟨ad225, A225_0, c225_0, e225, hx225_0, hl225_0, hi225_0⟩ := at_L1 HR1.out x13_1 p225 q225
                  cases e225
                  have HR225_0 := Aside0.mk hi225_0
                  have HC225_0 := Aside0.mk hl225_0
                  clear hi225_0 hl225_0
                  replace p225 := eq_true p225
                  replace q225 := eq_true q225
                  have hcv12 := Kd.C_string (P := Try.prog) (A := A225_0) (c := c225_0) Try.underlying34 Try.underlying5 Try.underlying9 HR225_0.out
                  have hcv12d := fun n_ => Kd.C_string (P := Try.prog) (A := A225_0) (c := c225_0) Try.underlying34 Try.underlying5 Try.underlying9 (Kd.C_drewN HR225_0.out n_)
                  have hcv12e := fun n_ m_ => Kd.C_string (P := Try.prog) (A := A225_0) (c := c225_0) Try.underlying34 Try.underlying5 Try.underlying9 (Kd.C_drewN (Kd.C_drewN HR225_0.out n_) m_)
                  go_wp2
                  repeat (go_quiet (fail); try go_wp2)
                  go_ret
                  exact ⟨by first | rfl | (simp; done) | (simp [*]; done), by repeat (first | exact Drawn0.refl _ | apply Drawn0.step)⟩
              · rw [if_neg c7] at H
                exact absurd H (by simp)
            · rw [if_neg c6] at H
              exact absurd H (by simp)
          · rw [if_neg c5] at H
            exact absurd H (by simp)
        · rw [if_neg c4] at H
          have c4b0 : decide (x13_1 < (l0.length : Int)) = false := decide_eq_false c4
          clear c4
          obtain rfl := Option.some.inj H
          go_wp2
          repeat (go_quiet (fail); try go_wp2)
          go_ret
          exact ⟨by first | rfl | (simp; done) | (simp [*]; done), by repeat (first | exact Drawn0.refl _ | apply Drawn0.step)⟩
  · rw [if_neg c3] at H
    have c3b0 : ((l0.length : Int) == (l1.length : Int)) = false := beq_eq_false_iff_ne.mpr c3
    have c3b1 : ((l0.length : Int) != (l1.length : Int)) = true := bne_iff_ne.mpr c3
    have c3b2 : (l0.length == l1.length) = false := by first | simpa using c3 | (simp at c3 ⊢; omega)
    obtain rfl := Option.some.inj H
    go_enter Try.func44, Try.ntmps44
    go_wp2
    repeat (go_quiet (fail); try go_wp2)
    go_ret
    exact ⟨by first | rfl | (simp; done) | (simp [*]; done), by repeat (first | exact Drawn0.refl _ | apply Drawn0.step)⟩

end Go.Proofs.Ytpkghpljgjlmjaa.K
/- slices.IndexFunc, slices.ContainsFunc over rows of bytes at a closure with one captured variable; matrix.Valid. -/
namespace Go.Proofs.Ytpkghpljgjlmjaa.K
open Go.RowKit Go.Proofs.YtpkghpljgjlmjaaW.PrintWords Go.Proofs.YtpkghpljgjlmjaaW.PrintLast Go.Proofs.YtpkghpljgjlmjaaW.PrintMore
set_option linter.unusedVariables false

/-- What a closure with one captured variable answers of rows of bytes. -/
structure Tests (w : World) (f : Nat) (cap : Value) (p : List Int → Bool) : Prop where
  enters : ∀ (args : Array Value) (w : World), (callFunc f args).run Try.prog w = .ok (.enter f args) w
  calls : ∀ (A : Option Addr) (c : Nat) (x : List Int), (Kd.int .u8).C w A x.length x → x.length ≤ c →
    Calls Try.prog f #[.slice A x.length c, cap] w fun e w' => e = .returned (.bool (p x)) ∧ w = w'
def idxOf (l : List (List Int)) (p : List Int → Bool) : Int := match l.findIdx? p with | some i => i | none => -1
theorem idxOf_none {l : List (List Int)} {p : List Int → Bool} (h : ∀ x ∈ l, p x = false) : idxOf l p = -1 := by
  unfold idxOf
  rw [List.findIdx?_eq_none_iff.2 h]
theorem rd_L1_mem (l : List (List Int)) (k : Nat) (hk : k < l.length) : rd_L1 l (k : Int) = l[k] := by
  simp [rd_L1, List.getD_eq_getElem?_getD, List.getElem?_eq_getElem hk]
theorem idxOf_some {l : List (List Int)} {p : List Int → Bool} {k : Nat} (hk : k < l.length) (h : ∀ j, (hj : j < k) → p (l[j]'(by omega)) = false) (hp : p l[k] = true) : idxOf l p = k := by
  unfold idxOf
  have : l.findIdx? p = some k := by
    rw [List.findIdx?_eq_some_iff_getElem]
    exact ⟨hk, hp, fun j hj => by simp [h j hj]⟩
  rw [this]
theorem idxOf_any (l : List (List Int)) (p : List Int → Bool) : decide (idxOf l p ≥ 0) = l.any p := by
  unfold idxOf
  cases h : l.findIdx? p with
  | none =>
    rw [List.findIdx?_eq_none_iff] at h
    have : l.any p = false := by simpa [List.any_eq_false] using h
    rw [this]; rfl
  | some i =>
    have : l.any p = true := by
      obtain ⟨hi, hp, _⟩ := List.findIdx?_eq_some_iff_getElem.1 h
      exact List.any_eq_true.2 ⟨_, List.getElem_mem hi, hp⟩
    rw [this]; simp

set_option maxRecDepth 100000 in
set_option maxHeartbeats 400000 in
theorem indexFunc_calls (A0 : Option Addr) (c0 : Nat) (l0 : List (List Int)) (f : Nat) (a : Addr) (p : List Int → Bool) (w : World) (hr0 : Kd.C (Kd.slice 5 (Kd.int .u8)) w A0 l0.length l0) (hT : Tests w f (.pointer (some a)) p) :
    Calls Try.prog 84 #[.slice A0 l0.length c0, .func (Fn.func f) #[] #[.pointer (some a)]] w fun e w' => e = .returned (.int .i64 (idxOf l0 p)) ∧ w = w' := by
  have HR0 := Aside0.mk hr0
  have hlen := hr0.2.1
  have hent := hT.enters
  clear hr0
  go_enter Try.func84, Try.ntmps84
  go_wp2
  go_loop [8] (fun v8 => ∃ k : Nat, k ≤ l0.length ∧ v8 = .int .i64 (k : Int) ∧ Aside0 (∀ j, (hj : j < l0.length) → j < k → p l0[j] = false)) (fun v8 => l0.length - (intOf v8).toNat)
  case atStart => exact ⟨0, by omega, rfl, ⟨fun j _ hj => absurd hj (by omega)⟩⟩
  case round =>
    obtain ⟨k, hk, rfl, HA⟩ := hrel
    by_cases hlt : k < l0.length
    · obtain ⟨ad, A1, c1, e, hx, hl, hi⟩ := at_L1 HR0.out (k : Int) (by omega) (by omega)
      subst e
      rw [Int.toNat_natCast] at hx
      generalize hy : rd_L1 l0 (k : Int) = y at hx hl hi
      have HY := Aside0.mk hy
      have HC := Aside0.mk (hT.calls A1 c1 y hi hl)
      clear hl hi hy
      cases hp : p y with
      | true =>
        have HP := Aside0.mk hp
        rw [hp] at HC
        clear hp
        go_wp2_with ((with_reducible refine HC.out.mono ?_); rintro e w' ⟨rfl, rfl⟩)
        go_ret
        have := HA.out
        refine ⟨?_, rfl⟩
        rw [idxOf_some hlt (fun j hj => this j (by omega) hj) (by rw [← rd_L1_mem l0 k hlt, HY.out]; exact HP.out)]
        rfl
      | false =>
        have HP := Aside0.mk hp
        rw [hp] at HC
        clear hp
        go_wp2_with ((with_reducible refine HC.out.mono ?_); rintro e w' ⟨rfl, rfl⟩)
        go_round
        case rel =>
          refine ⟨k + 1, by omega, by go_num, ⟨fun j hj hj2 => ?_⟩⟩
          by_cases hjk : j = k
          · subst hjk
            rw [← rd_L1_mem l0 j hlt, HY.out]
            exact HP.out
          · exact HA.out j hj (by omega)
        case measure => simp [intOf]; omega
    · have := HA.out
      have hE : idxOf l0 p = -1 := idxOf_none (fun x hx => by obtain ⟨j, hj, rfl⟩ := List.getElem_of_mem hx; exact this j hj (by omega))
      have HE := Aside0.mk hE
      clear hE this
      go_wp2
      go_ret
      exact ⟨by rw [HE.out]; rfl, rfl⟩
set_option maxRecDepth 100000 in
set_option maxHeartbeats 400000 in
theorem containsFunc_calls (A0 : Option Addr) (c0 : Nat) (l0 : List (List Int)) (f : Nat) (a : Addr) (p : List Int → Bool) (w : World) (hr0 : Kd.C (Kd.slice 5 (Kd.int .u8)) w A0 l0.length l0) (hT : Tests w f (.pointer (some a)) p) :
    Calls Try.prog 58 #[.slice A0 l0.length c0, .func (Fn.func f) #[] #[.pointer (some a)]] w fun e w' => e = .returned (.bool (l0.any p)) ∧ w = w' := by
  have h := Aside0.mk (indexFunc_calls A0 c0 l0 f a p w hr0 hT)
  have he := Aside0.mk (idxOf_any l0 p)
  generalize idxOf l0 p = i at h he
  go_enter Try.func58, Try.ntmps58
  go_wp2_with (go_at_call 84; (with_reducible refine h.out.mono ?_); rintro e w' ⟨rfl, rfl⟩)
  go_ret
  exact ⟨by rw [← he.out]; rfl, rfl⟩
theorem enters59 (args : Array Value) (w : World) : (callFunc 59 args).run Try.prog w = .ok (.enter 59 args) w := by
  go_simp
/-- 'len(row) != n', n a captured variable. -/
theorem valid1_calls (n : Nat) (hn : n ≤ 9223372036854775807) (a : Addr) (A : Option Addr) (c : Nat) (x : List Int) (w : World) (hc : w.cell? a = some (.int .i64 (n : Int))) (hx : x.length ≤ 9223372036854775807) :
    Calls Try.prog 59 #[.slice A x.length c, .pointer (some a)] w fun e w' => e = .returned (.bool (decide (x.length ≠ n))) ∧ w = w' := by
  by_cases h : x.length = n
  · have h1 : ((x.length : Int) != (n : Int)) = false := by rw [bne_eq_false_iff_eq]; omega
    have h2 : decide (x.length ≠ n) = false := by simp [h]
    have H := Aside0.mk h2
    clear h h2
    go_enter Try.func59, Try.ntmps59
    go_wp2
    go_ret
    exact ⟨by rw [H.out]; rfl, rfl⟩
  · have h1 : ((x.length : Int) != (n : Int)) = true := by rw [bne_iff_ne]; omega
    have h2 : decide (x.length ≠ n) = true := by simp [h]
    have H := Aside0.mk h2
    clear h h2
    go_enter Try.func59, Try.ntmps59
    go_wp2
    go_ret
    exact ⟨by rw [H.out]; rfl, rfl⟩
theorem tests59 (n : Nat) (hn : n ≤ 9223372036854775807) (a : Addr) (w : World) (hc : w.cell? a = some (.int .i64 (n : Int))) : Tests w 59 (.pointer (some a)) (fun x => decide (x.length ≠ n)) :=
  ⟨enters59, fun A c x hx _ => valid1_calls n hn a A c x w hc hx.2.1⟩

/-- P4.1: at most 64 rows of one length, at most 64. -/
def colsN {α : Type} (l : List (List α)) : Nat := (l.headD []).length
def validB {α : Type} (l : List (List α)) : Bool := decide (l.length ≤ 64) && (decide (colsN l ≤ 64) && l.all (fun x => decide (x.length = colsN l)))
def matrix_Valid.f (l0 : List (List Int)) : Option (Bool) := some (validB l0)
theorem columns_eq (l : List (List Int)) : matrix_columns.f l = some (colsN l : Int) := by
  cases l with
  | nil => rfl
  | cons x l =>
    unfold matrix_columns.f
    rw [if_neg (by simp; omega), if_pos (by simp)]
    rfl
theorem size_eq (n : Nat) : matrix_size.f (n : Int) = some (decide (n ≤ 64)) := by
  unfold matrix_size.f
  rw [if_pos (by omega)]
  congr 1
  rw [decide_eq_decide]
  omega
set_option maxRecDepth 100000 in
set_option maxHeartbeats 1000000 in
theorem matrix_Valid.calls (A0 : Option Addr) (c0 : Nat) (l0 : List (List Int)) (r : Bool) (w : World) (hr0 : Kd.C (Kd.slice 5 (Kd.int .u8)) w A0 l0.length l0) (hc0 : l0.length ≤ c0) (h : matrix_Valid.f l0 = some r) :
    Calls Try.prog 17 #[.slice A0 l0.length c0] w fun e w' => e = .returned (.bool r) ∧ Below w.heap.size w w' := by
  have hr := Option.some.inj h
  clear h
  have hmf : ∀ (fn : Fn) (first cap : Array Value) (w : World), (Instr.makeFunc fn first cap).run Try.prog w = .ok (.func fn first cap) w := fun _ _ _ _ => rfl
  have hlen := hr0.2.1
  have HR0 := Aside0.mk hr0
  have HC0 := Aside0.mk hc0
  have HF1 := Aside0.mk (columns_eq l0)
  have HF2 := Aside0.mk (size_eq l0.length)
  have HF3 := Aside0.mk (size_eq (colsN l0))
  clear hr0 hc0
  have HS := Aside0.mk hlen
  have hcols : colsN l0 ≤ 9223372036854775807 := by
    unfold colsN
    cases l0 with
    | nil => simp
    | cons x l =>
      obtain ⟨ad, A1, c1, _, _, _, hi⟩ := at_L1 HR0.out 0 (by omega) (by simp)
      exact hi.2.1
  have HR := Aside0.mk hr
  clear hr
  cases h1 : decide (l0.length ≤ 64) with
  | false =>
    have HF := Aside0.mk (show r = false by rw [← HR.out, validB, h1]; rfl)
    rw [h1] at HF2
    clear h1 HR
    go_enter Try.func17, Try.ntmps17
    go_wp2_with (first | (go_at_call 56; (with_reducible refine (matrix_columns.calls _ _ l0 _ _ HR0.out HC0.out HF1.out).mono ?_); rintro e w' ⟨rfl, ⟨n1, rfl⟩⟩) | ((with_reducible refine gate_dst (N := 3) rfl ?_); refine box_event rfl (N := 3) rfl (cs := #[.int .i64 0]) (t := 3) ?hrun ?_; (case hrun => first | (go_simp; done) | (go_simp; rfl)); intro g hg w1 hb1 hB1; have hx1 : w1.cell? ⟨g, 0, none⟩ = some (.int .i64 0) := (by rw [blk_cell hb1]; rfl); have hf1 := blk_frozen hb1 0; have HB1 := Aside0.mk (below_step (pw_below_drewN (Below.refl w.heap.size w) n1) hB1); have HG := Aside0.mk (show w.heap.size ≤ g by rw [hg]; exact Nat.le_refl _); clear hg hb1 hB1) | (go_at_call 57; (with_reducible refine (matrix_size.calls _ _ _ HF2.out).mono ?_); rintro e w' ⟨rfl, ⟨n2, rfl⟩⟩))
    go_ret
    exact ⟨by rw [HF.out]; rfl, pw_below_drewN (HB1.out.setCell HG.out _) _⟩
  | true =>
    cases h2 : decide (colsN l0 ≤ 64) with
    | false =>
      have HF := Aside0.mk (show r = false by rw [← HR.out, validB, h1, h2]; rfl)
      rw [h1] at HF2
      rw [h2] at HF3
      clear h1 h2 HR
      go_enter Try.func17, Try.ntmps17
      go_wp2_with (first | (go_at_call 56; (with_reducible refine (matrix_columns.calls _ _ l0 _ _ HR0.out HC0.out HF1.out).mono ?_); rintro e w' ⟨rfl, ⟨n1, rfl⟩⟩) | ((with_reducible refine gate_dst (N := 3) rfl ?_); refine box_event rfl (N := 3) rfl (cs := #[.int .i64 0]) (t := 3) ?hrun ?_; (case hrun => first | (go_simp; done) | (go_simp; rfl)); intro g hg w1 hb1 hB1; have hx1 : w1.cell? ⟨g, 0, none⟩ = some (.int .i64 0) := (by rw [blk_cell hb1]; rfl); have hf1 := blk_frozen hb1 0; have HB1 := Aside0.mk (below_step (pw_below_drewN (Below.refl w.heap.size w) n1) hB1); have HG := Aside0.mk (show w.heap.size ≤ g by rw [hg]; exact Nat.le_refl _); clear hg hb1 hB1) | (go_at_call_of 57 (Value.int .i64 (l0.length : Int)); (with_reducible refine (matrix_size.calls _ _ _ HF2.out).mono ?_); rintro e w' ⟨rfl, ⟨n2, rfl⟩⟩) | (go_at_call_of 57 (Value.int .i64 (colsN l0 : Int)); (with_reducible refine (matrix_size.calls _ _ _ HF3.out).mono ?_); rintro e w' ⟨rfl, ⟨n3, rfl⟩⟩))
      go_ret
      exact ⟨by rw [HF.out]; rfl, pw_below_drewN (HB1.out.setCell HG.out _) _⟩
    | true =>
      have HF := Aside0.mk (show r = !(l0.any fun x => !decide (x.length = colsN l0)) by
        rw [← HR.out, validB, h1, h2]
        rw [Bool.eq_iff_iff]
        simp)
      rw [h1] at HF2
      rw [h2] at HF3
      clear h1 h2 HR
      go_enter Try.func17, Try.ntmps17
      go_wp2_with (first | (go_at_call 56; (with_reducible refine (matrix_columns.calls _ _ l0 _ _ HR0.out HC0.out HF1.out).mono ?_); rintro e w' ⟨rfl, ⟨n1, rfl⟩⟩) | ((with_reducible refine gate_dst (N := 3) rfl ?_); refine box_event rfl (N := 3) rfl (cs := #[.int .i64 0]) (t := 3) ?hrun ?_; (case hrun => first | (go_simp; done) | (go_simp; rfl)); intro g hg w1 hb1 hB1; have hx1 : w1.cell? ⟨g, 0, none⟩ = some (.int .i64 0) := (by rw [blk_cell hb1]; rfl); have hf1 := blk_frozen hb1 0; have HB1 := Aside0.mk (below_step (pw_below_drewN (Below.refl w.heap.size w) n1) hB1); have HG := Aside0.mk (show w.heap.size ≤ g by rw [hg]; exact Nat.le_refl _); clear hg hb1 hB1) | (go_at_call_of 57 (Value.int .i64 (l0.length : Int)); (with_reducible refine (matrix_size.calls _ _ _ HF2.out).mono ?_); rintro e w' ⟨rfl, ⟨n2, rfl⟩⟩) | (go_at_call_of 57 (Value.int .i64 (colsN l0 : Int)); (with_reducible refine (matrix_size.calls _ _ _ HF3.out).mono ?_); rintro e w' ⟨rfl, ⟨n3, rfl⟩⟩))
      refine (containsFunc_calls A0 c0 l0 59 ⟨g, 0, none⟩ (fun x => decide (x.length ≠ colsN l0)) _ (Kd.C_below HR0.out (pw_below_drewN (HB1.out.setCell HG.out _) _)) (tests59 _ hcols _ _ ?hc)).mono ?_
      case hc => go_simp
      rintro e w' ⟨rfl, rfl⟩
      go_wp2
      go_ret
      exact ⟨by rw [HF.out]; rfl, pw_below_drewN (HB1.out.setCell HG.out _) _⟩
end Go.Proofs.Ytpkghpljgjlmjaa.K
-- Lines of this claim, written by the session's own program kprint.py (it runs print.py).
namespace Go.Proofs.Ytpkghpljgjlmjaa.K
open Go.RowKit Go.Proofs.YtpkghpljgjlmjaaW.PrintWords Go.Proofs.YtpkghpljgjlmjaaW.PrintLast Go.Proofs.YtpkghpljgjlmjaaW.PrintMore
attribute [local go_sem] max2_int min2_int max_two min_two max_three min_three max_four min_four   -- for this text's walks alone
set_option linter.unusedVariables false
set_option linter.unusedSimpArgs false










end Go.Proofs.Ytpkghpljgjlmjaa.K
namespace Go.Proofs.Ytpkghpljgjlmjaa.K
open Go.RowKit Go.Proofs.YtpkghpljgjlmjaaW.PrintWords Go.Proofs.YtpkghpljgjlmjaaW.PrintLast Go.Proofs.YtpkghpljgjlmjaaW.PrintMore
set_option linter.unusedVariables false

/-- slices.Clone at []byte: a new row with the same bytes (nil for nil). -/
def slices_Clone_byte_byte.f (l0 : List Int) : Option (List Int) := if l0.length ≤ 140737488351232 then some l0 else none
set_option maxRecDepth 100000 in
set_option maxHeartbeats 400000 in
theorem slices_Clone_byte_byte.calls (A0 : Option Addr) (c0 : Nat) (l0 : List Int) (r : List Int) (w : World) (hr0 : Kd.C (Kd.int .u8) w A0 l0.length l0) (hc0 : l0.length ≤ c0) (h : slices_Clone_byte_byte.f l0 = some r) :
    Calls Try.prog 63 #[.slice A0 l0.length c0] w fun e w' => ∃ v0_ : Value, e = .returned (v0_) ∧ Kd.R (Kd.int .u8) 5 w' w.heap.size (fun _ => True) v0_ r ∧ Below w.heap.size w w' := by
  unfold slices_Clone_byte_byte.f at h
  split at h
  · rename_i hlen
    obtain rfl := Option.some.inj h
    clear h
    have HB := Aside0.mk (Below.refl w.heap.size w)
    have HL := Aside0.mk hlen
    clear hlen
    cases A0 with
    | none =>
      have h0 : l0 = [] := by
        rcases hr0 with ⟨_, _, h3⟩
        cases l0 with
        | nil => rfl
        | cons x l => obtain ⟨ad, e, _⟩ := h3 (by simp); cases e
      subst h0
      clear hr0
      have heq := fun W => Lib.run_eql_slice_nil (P := Try.prog) W 34 5 none 0 c0 0 0 Try.underlying34
      go_enter Try.func63, Try.ntmps63
      go_wp2
      go_ret
      exact ⟨_, rfl, Kd.R_nil _ _ _ _ _, HB.out⟩
    | some ad =>
      have heq := fun W => Lib.run_eql_slice_nil (P := Try.prog) W 34 5 (some ad) l0.length c0 0 0 Try.underlying34
      have HR0 := Aside0.mk hr0
      clear hr0
      go_enter Try.func63, Try.ntmps63
      go_wp2_with (first | ((with_reducible refine gate_dst (N := 5) rfl ?_); refine Kd.R_lit (Kd.int .u8) (w0 := w) w.heap.size 5 rfl (N := 5) rfl (xs := ([] : List Int)) (inner := []) (ok := fun _ => True) (okp := fun _ => False) ?hrun (Reps.none _ _) (fun _ _ => trivial) trivial HB.out (Nat.le_refl _) (by simp) ?_; (case hrun => first | (go_simp; done) | (go_simp; rfl)); intro v1 w1 hv1 hb1 hg1 hat1; have HV1 := Aside0.mk hv1; have HB1 := Aside0.mk hb1; clear hv1 hb1 hg1 hat1) | ((with_reducible refine gate_dst (N := 7) rfl ?_); refine Kd.R_append_row (Value.int .u8) (0 : Int) (h1 := fun _ => rfl) (w0 := w) w.heap.size rfl (.tmp 5) (.tmp 6) 34 5 (.int .u8 0) 1 rfl Try.underlying34 info5 rfl (by decide) v1 [] l0 (some ad) l0.length c0 (fun _ => True) rfl rfl (fun _ _ => trivial) HV1.out (Kd.C_below HR0.out HB1.out) HB1.out HB1.out.size ?hl ?_; (case hl => have := HL.out; simp only [List.length_nil]; omega); intro v2 w2 hv2 hb2 hg2 hat2; have HV2 := Aside0.mk hv2; have HB2 := Aside0.mk hb2; clear hv2 hb2 hg2 hat2))
      go_ret
      exact ⟨_, rfl, HV2.out, HB2.out⟩
  · cases h
end Go.Proofs.Ytpkghpljgjlmjaa.K
/- The field of 256 elements on bytes: the product bit by bit, its laws, inverses. No program in sight. -/
namespace Kin

abbrev B := UInt8

/-- 2 times a. -/
def gdbl (a : B) : B := if 128 ≤ a then (a <<< 1) ^^^ 0x1d else a <<< 1
def gbit (b : B) (i : Nat) : Bool := b.toNat.testBit i
/-- The part of a product that the bits of b from i on give, a already doubled i times; n of them. -/
def gmulFrom : Nat → Nat → B → B → B
  | 0, _, _, _ => 0
  | n + 1, i, a, b => (if gbit b i then a else 0) ^^^ gmulFrom n (i + 1) (gdbl a) b
def gmul (a b : B) : B := gmulFrom 8 0 a b

theorem bx_comm (a b : B) : a ^^^ b = b ^^^ a := UInt8.xor_comm a b
theorem bx_assoc (a b c : B) : a ^^^ b ^^^ c = a ^^^ (b ^^^ c) := UInt8.xor_assoc a b c
theorem bx_zero (a : B) : a ^^^ 0 = a := UInt8.xor_zero
theorem zero_bx (a : B) : 0 ^^^ a = a := UInt8.zero_xor
theorem bx_self (a : B) : a ^^^ a = 0 := UInt8.xor_self
theorem bx_left_comm (a b c : B) : a ^^^ (b ^^^ c) = b ^^^ (a ^^^ c) := by rw [← bx_assoc, bx_comm a b, bx_assoc]
theorem bx_cancel_left (a b : B) : a ^^^ (a ^^^ b) = b := by rw [← bx_assoc, bx_self, zero_bx]
theorem bx_cancel_right (a b : B) : a ^^^ b ^^^ b = a := by rw [bx_assoc, bx_self, bx_zero]
theorem bx_eq_zero {a b : B} : a ^^^ b = 0 ↔ a = b := by
  constructor
  · intro h
    have : a ^^^ b ^^^ b = 0 ^^^ b := by rw [h]
    rwa [bx_cancel_right, zero_bx] at this
  · rintro rfl
    exact bx_self a
theorem bx_swap4 (a b c d : B) : (a ^^^ b) ^^^ (c ^^^ d) = (a ^^^ c) ^^^ (b ^^^ d) := by
  rw [bx_assoc, bx_assoc, bx_left_comm b c d]

theorem all_bytes {p : B → Prop} [DecidablePred p] (h : ∀ n : Fin 256, p (UInt8.ofNat n.val)) : ∀ a, p a := by
  intro a
  have := h ⟨a.toNat, a.toNat_lt⟩
  simpa using this

/-- A function that keeps sums. -/
def Additive (f : B → B) : Prop := ∀ a b, f (a ^^^ b) = f a ^^^ f b
theorem Additive.zero {f : B → B} (h : Additive f) : f 0 = 0 := by
  have := h 0 0
  rw [bx_self] at this
  rw [this, bx_self]

theorem byte_bits : ∀ a : B, a = (if gbit a 0 then 1 else 0) ^^^ ((if gbit a 1 then 2 else 0) ^^^ ((if gbit a 2 then 4 else 0) ^^^ ((if gbit a 3 then 8 else 0) ^^^ ((if gbit a 4 then 16 else 0) ^^^ ((if gbit a 5 then 32 else 0) ^^^ ((if gbit a 6 then 64 else 0) ^^^ (if gbit a 7 then 128 else 0))))))) :=
  all_bytes (by decide +kernel)
theorem Additive.ite {f : B → B} (h : Additive f) (c : Bool) (x : B) : f (if c then x else 0) = if c then f x else 0 := by
  cases c
  · exact h.zero
  · rfl
theorem Additive.ext {f g : B → B} (hf : Additive f) (hg : Additive g) (h : ∀ i : Fin 8, f (1 <<< UInt8.ofNat i.val) = g (1 <<< UInt8.ofNat i.val)) : ∀ a, f a = g a := by
  intro a
  have h0 : f 1 = g 1 := h 0
  have h1 : f 2 = g 2 := h 1
  have h2 : f 4 = g 4 := h 2
  have h3 : f 8 = g 8 := h 3
  have h4 : f 16 = g 16 := h 4
  have h5 : f 32 = g 32 := h 5
  have h6 : f 64 = g 64 := h 6
  have h7 : f 128 = g 128 := h 7
  rw [byte_bits a]
  simp only [hf _ _, hg _ _, hf.ite, hg.ite, h0, h1, h2, h3, h4, h5, h6, h7]

theorem gbit_xor (a b : B) (i : Nat) : gbit (a ^^^ b) i = (gbit a i ^^ gbit b i) := by
  simp [gbit, UInt8.toNat_xor, Nat.testBit_xor]
theorem ite_xor (x y : Bool) (a : B) : (if (x ^^ y) then a else 0) = (if x then a else 0) ^^^ (if y then a else 0) := by
  cases x <;> cases y <;> simp
theorem gmulFrom_add_right (n : Nat) : ∀ (i : Nat) (a b c : B), gmulFrom n i a (b ^^^ c) = gmulFrom n i a b ^^^ gmulFrom n i a c := by
  induction n with
  | zero => intro i a b c; simp [gmulFrom]
  | succ n ih =>
    intro i a b c
    simp only [gmulFrom, ih, gbit_xor, ite_xor]
    rw [bx_swap4]
theorem gmul_add_right (a b c : B) : gmul a (b ^^^ c) = gmul a b ^^^ gmul a c := gmulFrom_add_right 8 0 a b c

theorem gdbl_eq (a : B) : gdbl a = (a <<< 1) ^^^ (if gbit a 7 then 0x1d else 0) := by
  revert a
  exact all_bytes (by decide +kernel)
theorem shl_xor (a b : B) : (a ^^^ b) <<< 1 = (a <<< 1) ^^^ (b <<< 1) := by
  exact UInt8.shiftLeft_xor
theorem gdbl_additive : Additive gdbl := by
  intro a b
  rw [gdbl_eq, gdbl_eq, gdbl_eq, gbit_xor, ite_xor, shl_xor, bx_swap4]
theorem gmulFrom_add_left (n : Nat) : ∀ (i : Nat) (a a' b : B), gmulFrom n i (a ^^^ a') b = gmulFrom n i a b ^^^ gmulFrom n i a' b := by
  induction n with
  | zero => intro i a b c; simp [gmulFrom]
  | succ n ih =>
    intro i a a' b
    have e : (if gbit b i then a ^^^ a' else 0) = (if gbit b i then a else 0) ^^^ (if gbit b i then a' else 0) := by
      cases gbit b i <;> simp
    simp only [gmulFrom, gdbl_additive a a', ih, e]
    rw [bx_swap4]
theorem gmul_add_left (a b c : B) : gmul (a ^^^ b) c = gmul a c ^^^ gmul b c := gmulFrom_add_left 8 0 a b c

theorem gmul_zero (a : B) : gmul a 0 = 0 := Additive.zero (f := fun b => gmul a b) (gmul_add_right a)
theorem zero_gmul (a : B) : gmul 0 a = 0 := Additive.zero (f := fun b => gmul b a) (fun x y => gmul_add_left x y a)
theorem gmul_one : ∀ a : B, gmul a 1 = a := all_bytes (by decide +kernel)

theorem gmul_comm (a b : B) : gmul a b = gmul b a := by
  revert b
  refine Additive.ext (f := fun b => gmul a b) (g := fun b => gmul b a) (gmul_add_right a) (fun x y => gmul_add_left x y a) ?_
  intro j
  revert a
  refine Additive.ext (f := fun a => gmul a (1 <<< UInt8.ofNat j.val)) (g := fun a => gmul (1 <<< UInt8.ofNat j.val) a) (fun x y => gmul_add_left x y _) (gmul_add_right _) ?_
  intro i
  revert i j
  decide +kernel
theorem one_gmul (a : B) : gmul 1 a = a := by rw [gmul_comm, gmul_one]

theorem gmul_assoc (a b c : B) : gmul (gmul a b) c = gmul a (gmul b c) := by
  revert c
  refine Additive.ext (f := fun c => gmul (gmul a b) c) (g := fun c => gmul a (gmul b c)) (gmul_add_right _) (fun x y => by simp only [gmul_add_right]) ?_
  intro k
  revert b
  refine Additive.ext (f := fun b => gmul (gmul a b) (1 <<< UInt8.ofNat k.val)) (g := fun b => gmul a (gmul b (1 <<< UInt8.ofNat k.val))) (fun x y => by simp only [gmul_add_right, gmul_add_left]) (fun x y => by simp only [gmul_add_right, gmul_add_left]) ?_
  intro j
  revert a
  refine Additive.ext (f := fun a => gmul (gmul a (1 <<< UInt8.ofNat j.val)) (1 <<< UInt8.ofNat k.val)) (g := fun a => gmul a (gmul (1 <<< UInt8.ofNat j.val) (1 <<< UInt8.ofNat k.val))) (fun x y => by simp only [gmul_add_left]) (fun x y => by simp only [gmul_add_left]) ?_
  intro i
  revert i j k
  decide +kernel
theorem gmul_left_comm (a b c : B) : gmul a (gmul b c) = gmul b (gmul a c) := by rw [← gmul_assoc, gmul_comm a b, gmul_assoc]

/-- Powers by squaring: the bits of n from the lowest on; f of them. -/
def graise : Nat → B → B → Nat → B
  | 0, out, _, _ => out
  | f + 1, out, a, n => if n = 0 then out else graise f (if n % 2 = 1 then gmul out a else out) (gmul a a) (n / 2)
def gpow (a : B) : Nat → B
  | 0 => 1
  | n + 1 => gmul (gpow a n) a
def ginv (a : B) : B := graise 8 1 a 254
theorem ginv_zero : ginv 0 = 0 := by decide +kernel
theorem gmul_ginv : ∀ a : B, a ≠ 0 → gmul a (ginv a) = 1 := all_bytes (by decide +kernel)
theorem ginv_gmul (a : B) (h : a ≠ 0) : gmul (ginv a) a = 1 := by rw [gmul_comm, gmul_ginv a h]
theorem gmul_eq_zero {a b : B} : gmul a b = 0 ↔ a = 0 ∨ b = 0 := by
  constructor
  · intro h
    by_cases ha : a = 0
    · exact .inl ha
    · right
      have : gmul (ginv a) (gmul a b) = gmul (ginv a) 0 := by rw [h]
      rwa [← gmul_assoc, ginv_gmul a ha, one_gmul, gmul_zero] at this
  · rintro (rfl | rfl)
    · exact zero_gmul b
    · exact gmul_zero a
theorem gmul_ne_zero {a b : B} (ha : a ≠ 0) (hb : b ≠ 0) : gmul a b ≠ 0 := fun h => (gmul_eq_zero.1 h).elim ha hb
theorem ginv_ne_zero {a : B} (h : a ≠ 0) : ginv a ≠ 0 := by
  intro e
  have := gmul_ginv a h
  rw [e, gmul_zero] at this
  exact absurd this (by decide)
theorem gmul_cancel_left {a b c : B} (h : a ≠ 0) (e : gmul a b = gmul a c) : b = c := by
  have : gmul (ginv a) (gmul a b) = gmul (ginv a) (gmul a c) := by rw [e]
  rwa [← gmul_assoc, ← gmul_assoc, ginv_gmul a h, one_gmul, one_gmul] at this
theorem ginv_unique {a b : B} (h : gmul a b = 1) : b = ginv a := by
  by_cases ha : a = 0
  · subst ha
    rw [zero_gmul] at h
    exact absurd h (by decide)
  · exact gmul_cancel_left ha (by rw [h, gmul_ginv a ha])

theorem gpow_add (a : B) (m n : Nat) : gpow a (m + n) = gmul (gpow a m) (gpow a n) := by
  induction n with
  | zero => rw [Nat.add_zero, gpow, gmul_one]
  | succ n ih => rw [← Nat.add_assoc, gpow, ih, gpow, gmul_assoc]
theorem gpow_sq (a : B) (n : Nat) : gpow (gmul a a) n = gpow a (2 * n) := by
  induction n with
  | zero => rfl
  | succ n ih => rw [gpow, ih, Nat.mul_succ, gpow_add a (2 * n) 2]; simp only [gpow, one_gmul]
theorem graise_eq (f : Nat) : ∀ (out a : B) (n : Nat), n < 2 ^ f → graise f out a n = gmul out (gpow a n) := by
  induction f with
  | zero => intro out a n h; obtain rfl : n = 0 := by omega
            rw [graise, gpow, gmul_one]
  | succ f ih =>
    intro out a n h
    rw [graise]
    split
    · next h0 => subst h0; rw [gpow, gmul_one]
    · rw [ih _ _ _ (by rw [Nat.pow_succ] at h; omega), gpow_sq]
      split
      · next h1 =>
        have : n = 1 + 2 * (n / 2) := by omega
        conv => rhs; rw [this, gpow_add]
        rw [gpow, gpow, one_gmul, gmul_assoc]
      · next h1 =>
        have : n = 2 * (n / 2) := by omega
        conv => rhs; rw [this]
theorem ginv_eq_gpow (a : B) : ginv a = gpow a 254 := by
  unfold ginv
  rw [graise_eq 8 1 a 254 (by decide), one_gmul]
end Kin
/- The printed functions of the field (Add, double, Mul, raise, Inv) compute what Gf.lean defines. -/
namespace Go.Proofs.Ytpkghpljgjlmjaa.K
open Go.RowKit Go.Proofs.YtpkghpljgjlmjaaW.PrintWords Kin
set_option linter.unusedVariables false

def b2i (x : B) : Int := (x.toNat : Int)
def up (l : List B) : List Int := l.map b2i
def up2 (m : List (List B)) : List (List Int) := m.map up
def isB (x : Int) : Bool := decide (0 ≤ x) && decide (x < 256)
def toB (x : Int) : B := UInt8.ofNat x.toNat
theorem b2i_nonneg (x : B) : 0 ≤ b2i x := Int.natCast_nonneg _
theorem b2i_lt (x : B) : b2i x < 256 := by have := x.toNat_lt; unfold b2i; omega
theorem b2i_inj {x y : B} (h : b2i x = b2i y) : x = y := UInt8.toNat_inj.1 (by unfold b2i at h; omega)
theorem b2i_eq {x y : B} : b2i x = b2i y ↔ x = y := ⟨b2i_inj, fun h => by rw [h]⟩
theorem b2i_zero : b2i 0 = 0 := rfl
theorem b2i_one : b2i 1 = 1 := rfl
theorem toNat_b2i (x : B) : (b2i x).toNat = x.toNat := by simp [b2i]
theorem toB_b2i (x : B) : toB (b2i x) = x := by simp [toB, b2i]
theorem b2i_toB {x : Int} (h : isB x = true) : b2i (toB x) = x := by
  simp only [isB, Bool.and_eq_true, decide_eq_true_eq] at h
  obtain ⟨n, rfl⟩ := Int.eq_ofNat_of_zero_le h.1
  have : n < 256 := by omega
  simp [toB, b2i, Nat.mod_eq_of_lt this]
theorem isB_b2i (x : B) : isB (b2i x) = true := by
  have h1 := b2i_nonneg x
  have h2 := b2i_lt x
  simp [isB, h1, h2]
theorem b2i_eq_zero {x : B} : b2i x = 0 ↔ x = 0 := by rw [← b2i_zero, b2i_eq]
theorem up_length (l : List B) : (up l).length = l.length := by simp [up]
theorem up2_length (l : List (List B)) : (up2 l).length = l.length := by simp [up2]
theorem up_nil : up [] = [] := rfl
theorem up2_nil : up2 [] = [] := rfl
theorem up_cons (x : B) (l : List B) : up (x :: l) = b2i x :: up l := rfl
theorem up2_cons (x : List B) (l : List (List B)) : up2 (x :: l) = up x :: up2 l := rfl
theorem up_append (a b : List B) : up (a ++ b) = up a ++ up b := by simp [up]
theorem up2_append (a b : List (List B)) : up2 (a ++ b) = up2 a ++ up2 b := by simp [up2]
theorem up_inj {a b : List B} (h : up a = up b) : a = b := by
  induction a generalizing b with
  | nil => cases b with
    | nil => rfl
    | cons y b => simp [up] at h
  | cons x a ih =>
    cases b with
    | nil => simp [up] at h
    | cons y b =>
      simp only [up_cons, List.cons.injEq] at h
      rw [b2i_inj h.1, ih h.2]
theorem up2_inj {a b : List (List B)} (h : up2 a = up2 b) : a = b := by
  induction a generalizing b with
  | nil => cases b with
    | nil => rfl
    | cons y b => simp [up2] at h
  | cons x a ih =>
    cases b with
    | nil => simp [up2] at h
    | cons y b =>
      simp only [up2_cons, List.cons.injEq] at h
      rw [up_inj h.1, ih h.2]
theorem exists_up {l : List Int} (h : ∀ x ∈ l, isB x = true) : ∃ m : List B, l = up m := by
  induction l with
  | nil => exact ⟨[], rfl⟩
  | cons x l ih =>
    obtain ⟨m, rfl⟩ := ih (fun y hy => h y (List.mem_cons_of_mem _ hy))
    exact ⟨toB x :: m, by rw [up_cons, b2i_toB (h x List.mem_cons_self)]⟩
theorem isB_of_wf {x : Int} (h : (Lit.int .u8 x).wf = true) : isB x = true := by
  have : 0 ≤ x ∧ x ≤ 255 := by
    simp [Lit.wf, IntKind.min, IntKind.max, IntKind.signed, IntKind.bits] at h
    omega
  simp [isB]; omega
theorem rd_up (l : List B) (i : Int) : rd (up l) i = b2i (l.getD i.toNat 0) := by
  unfold rd up
  rw [List.getD_eq_getElem?_getD, List.getElem?_map, List.getD_eq_getElem?_getD]
  cases l[i.toNat]? <;> rfl
theorem set_up (l : List B) (i : Nat) (x : B) : (up l).set i (b2i x) = up (l.set i x) := by simp [up, List.map_set]
theorem set_up2 (l : List (List B)) (i : Nat) (x : List B) : (up2 l).set i (up x) = up2 (l.set i x) := by simp [up2, List.map_set]
theorem up_replicate (n : Nat) (x : B) : List.replicate n (b2i x) = up (List.replicate n x) := by simp [up]
theorem up_zeros (n : Nat) : List.replicate n (0 : Int) = up (List.replicate n 0) := by rw [← up_replicate]; rfl
theorem up2_replicate (n : Nat) (x : List B) : List.replicate n (up x) = up2 (List.replicate n x) := by simp [up2]
theorem up_take (l : List B) (n : Nat) : (up l).take n = up (l.take n) := by simp [up, List.map_take]
theorem up_drop (l : List B) (n : Nat) : (up l).drop n = up (l.drop n) := by simp [up, List.map_drop]
theorem up2_take (l : List (List B)) (n : Nat) : (up2 l).take n = up2 (l.take n) := by simp [up2, List.map_take]
theorem up2_drop (l : List (List B)) (n : Nat) : (up2 l).drop n = up2 (l.drop n) := by simp [up2, List.map_drop]

/-! the field's functions -/
theorem xor_b2i (a b : B) : Go.bits .xor .u8 (b2i a) (b2i b) = b2i (a ^^^ b) := by
  unfold b2i
  rw [u8_xor_nat _ _ a.toNat_lt b.toNat_lt, UInt8.toNat_xor]
theorem add_b (a b : B) : gf256_Add.f (b2i a) (b2i b) = some (b2i (a ^^^ b)) := by rw [gf256_Add.f, xor_b2i]
theorem double_b (a : B) : gf256_double.f (b2i a) = some (b2i (gdbl a)) := by
  revert a
  exact all_bytes (by decide +kernel)
def gmulN : Nat → B → Nat → B
  | 0, _, _ => 0
  | n + 1, a, m => (if m % 2 = 1 then a else 0) ^^^ gmulN n (gdbl a) (m / 2)
theorem gmulFrom_eq (n : Nat) : ∀ (i : Nat) (a b : B), gmulFrom n i a b = gmulN n a (b.toNat / 2 ^ i) := by
  induction n with
  | zero => intro i a b; rfl
  | succ n ih =>
    intro i a b
    rw [gmulFrom, gmulN, ih, Nat.div_div_eq_div_mul, ← Nat.pow_succ]
    congr 1
    simp [gbit, Nat.testBit_eq_decide_div_mod_eq]
theorem gmul_eq (a b : B) : gmul a b = gmulN 8 a b.toNat := by rw [gmul, gmulFrom_eq, Nat.pow_zero, Nat.div_one]
theorem gmulN_zero (n : Nat) : ∀ a, gmulN n a 0 = 0 := by
  induction n with
  | zero => intro a; rfl
  | succ n ih => intro a; simp [gmulN, ih]
theorem and_one (k : IntKind) (m : Nat) (h : Go.bits .and k (m : Int) 1 = ((m &&& 1 : Nat) : Int)) : (Go.bits .and k (m : Int) 1 = 1) ↔ m % 2 = 1 := by
  rw [h, Nat.and_one_is_mod]
  omega
theorem mul_l0 (n : Nat) : ∀ (k : Nat) (a out : B) (m : Nat), m < 2 ^ n → m < 256 → n < k → gf256_Mul.l0 k (b2i a) (m : Int) (b2i out) = some (b2i (out ^^^ gmulN n a m)) := by
  induction n with
  | zero =>
    intro k a out m hm _ hk
    obtain ⟨k, rfl⟩ : ∃ j, k = j + 1 := ⟨k - 1, by omega⟩
    have h0 : m = 0 := by omega
    subst h0
    simp [gf256_Mul.l0, gmulN]
  | succ n ih =>
    intro k a out m hm h256 hk
    obtain ⟨k, rfl⟩ : ∃ j, k = j + 1 := ⟨k - 1, by omega⟩
    by_cases h0 : m = 0
    · subst h0
      simp [gf256_Mul.l0, gmulN_zero]
    · have hd : ((m : Int) / 2) = ((m / 2 : Nat) : Int) := by omega
      simp only [gf256_Mul.l0]
      rw [if_pos (by omega)]
      have hand := and_one .u8 m (by have := u8_and_nat m 1 h256 (by decide); exact_mod_cast this)
      by_cases h1 : m % 2 = 1
      · rw [if_pos (hand.2 h1), add_b, double_b]
        simp only [Option.bind_some]
        rw [hd, ih _ _ _ _ (by rw [Nat.pow_succ] at hm; omega) (by omega) (by omega)]
        simp only [gmulN, if_pos h1, bx_assoc]
      · rw [if_neg (fun h => h1 (hand.1 h)), double_b]
        simp only [Option.bind_some]
        rw [hd, ih _ _ _ _ (by rw [Nat.pow_succ] at hm; omega) (by omega) (by omega)]
        simp only [gmulN, if_neg h1, zero_bx]
theorem mul_b (a b : B) {k : Nat} (hk : 9 ≤ k) : gf256_Mul.f k (b2i a) (b2i b) = some (b2i (gmul a b)) := by
  have := mul_l0 8 k a 0 b.toNat b.toNat_lt b.toNat_lt (by omega)
  rw [gf256_Mul.f, gmul_eq]
  rw [zero_bx] at this
  exact this
theorem i64_and1 (n : Nat) : Go.bits .and .i64 (n : Int) 1 = ((n &&& 1 : Nat) : Int) := by
  have h1 : (BitVec.ofInt 64 1).toNat = 2 ^ 1 - 1 := by decide
  have key : (BitVec.ofInt 64 (n : Int) &&& BitVec.ofInt 64 1).toNat = ((n : Int) % ((2 ^ 64 : Nat) : Int)).toNat % 2 ^ 1 := by
    rw [BitVec.toNat_and, BitVec.toNat_ofInt, h1, Nat.and_two_pow_sub_one_eq_mod]
  rw [Nat.and_one_is_mod]
  show IntKind.i64.wrap ((BitVec.ofInt 64 (n : Int) &&& BitVec.ofInt 64 1).toNat : Nat) = _
  rw [key, IntKind.wrap_i64]
  omega
theorem raise_l0 (f : Nat) : ∀ (k : Nat) (a out : B) (n : Nat), n < 2 ^ f → n < 9223372036854775808 → f + 10 ≤ k → gf256_raise.l0 k (b2i a) (n : Int) (b2i out) = some (b2i (gmul out (gpow a n))) := by
  induction f with
  | zero =>
    intro k a out n hn _ hk
    obtain ⟨k, rfl⟩ : ∃ j, k = j + 1 := ⟨k - 1, by omega⟩
    have h0 : n = 0 := by omega
    subst h0
    simp [gf256_raise.l0, gpow, gmul_one]
  | succ f ih =>
    intro k a out n hn h63 hk
    obtain ⟨k, rfl⟩ : ∃ j, k = j + 1 := ⟨k - 1, by omega⟩
    by_cases h0 : n = 0
    · subst h0
      simp [gf256_raise.l0, gpow, gmul_one]
    · have hd : ((n : Int) / 2) = ((n / 2 : Nat) : Int) := by omega
      simp only [gf256_raise.l0]
      rw [if_pos (by omega)]
      have hand := and_one .i64 n (i64_and1 n)
      by_cases h1 : n % 2 = 1
      · rw [if_pos (hand.2 h1), mul_b _ _ (by omega), mul_b _ _ (by omega)]
        simp only [Option.bind_some]
        rw [hd, ih _ _ _ _ (by rw [Nat.pow_succ] at hn; omega) (by omega) (by omega), gpow_sq, gmul_assoc]
        congr 3
        have : n = 1 + 2 * (n / 2) := by omega
        conv => rhs; rw [this, gpow_add]
        rw [gpow, gpow, one_gmul]
      · rw [if_neg (fun h => h1 (hand.1 h)), mul_b _ _ (by omega)]
        simp only [Option.bind_some]
        rw [hd, ih _ _ _ _ (by rw [Nat.pow_succ] at hn; omega) (by omega) (by omega), gpow_sq]
        congr 3
        have : n = 2 * (n / 2) := by omega
        conv => rhs; rw [this]
theorem raise_b (a : B) (n : Nat) (hn : n < 256) {k : Nat} (hk : 18 ≤ k) : gf256_raise.f k (b2i a) (n : Int) = some (b2i (gpow a n)) := by
  rw [gf256_raise.f, show (1 : Int) = b2i 1 from rfl, raise_l0 8 k a 1 n hn (by omega) (by omega), one_gmul]
theorem inv_b (a : B) {k : Nat} (hk : 18 ≤ k) : gf256_Inv.f k (b2i a) = some (b2i (ginv a), if a = 0 then 1 else 0) := by
  rw [gf256_Inv.f]
  by_cases h : a = 0
  · subst h
    rw [if_pos b2i_zero, if_pos rfl, ginv_zero]
    rfl
  · rw [if_neg (fun e => h (b2i_eq_zero.1 e)), if_neg h]
    have := raise_b a 254 (by decide) hk
    rw [show ((254 : Nat) : Int) = 254 from rfl] at this
    rw [this, ginv_eq_gpow]
    rfl
end Go.Proofs.Ytpkghpljgjlmjaa.K
/- gf256.by and gf256.Scale: products of all bytes of a slice by one byte. -/
namespace Go.Proofs.Ytpkghpljgjlmjaa.K
open Go.RowKit Go.Proofs.YtpkghpljgjlmjaaW.PrintWords Go.Proofs.YtpkghpljgjlmjaaW.PrintLast Go.Proofs.YtpkghpljgjlmjaaW.PrintMore Kin
set_option linter.unusedVariables false

/-- The table that gf256.by makes: block g holds the products by c. -/
def IsTab (w : World) (g : Nat) (c : B) : Prop := ∀ x : B, w.cell? ⟨g, x.toNat, none⟩ = some (.int .u8 (b2i (gmul x c)))
theorem IsTab.below {w w1 : World} {g : Nat} {c : B} (h : IsTab w g c) (hb : Below w.heap.size w w1) : IsTab w1 g c := fun x => pw_cell_below hb (h x)

set_option maxRecDepth 100000 in
set_option maxHeartbeats 400000 in
theorem by1_calls (g : Nat) (c x : B) (w : World) (ht : IsTab w g c) :
    Calls Try.prog 117 #[.int .u8 (b2i x), .pointer (some ⟨g, 0, none⟩)] w fun e w' => e = .returned (.int .u8 (b2i (gmul x c))) ∧ w = w' := by
  have hx := ht x
  have h0 := b2i_nonneg x
  have h1 := b2i_lt x
  have h2 := toNat_b2i x
  generalize b2i (gmul x c) = y at hx ⊢
  generalize hbx : b2i x = bx at h0 h1 h2 ⊢
  rw [← h2] at hx
  clear h2 hbx ht
  go_enter Try.func117, Try.ntmps117
  go_wp2
  go_ret
  exact ⟨rfl, rfl⟩
set_option maxRecDepth 100000 in
set_option maxHeartbeats 400000 in
theorem by_calls (c : B) (w : World) :
    Calls Try.prog 105 #[.int .u8 (b2i c)] w fun e w' => ∃ g, e = .returned (.func (Fn.func 117) #[] #[.pointer (some ⟨g, 0, none⟩)]) ∧ w.heap.size ≤ g ∧ IsTab w' g c ∧ Below w.heap.size w w' := by
  have hmf : ∀ (fn : Fn) (first cap : Array Value) (w : World), (Instr.makeFunc fn first cap).run Try.prog w = .ok (.func fn first cap) w := fun _ _ _ _ => rfl
  go_enter Try.func105, Try.ntmps105
  go_wp2
  go_loopw [5] (fun v5 wr => ∃ (k : Nat) (cs : Array Value), k ≤ 256 ∧ v5 = .int .i64 (k : Int) ∧ Aside0 (wr.heap[w.heap.size]? = some (.cells cs 129 (0, 0)) ∧ cs.size = 256 ∧ (∀ x : B, x.toNat < k → cs[x.toNat]? = some (.int .u8 (b2i (gmul x c)))) ∧ Below w.heap.size w wr)) (fun v5 _ => 256 - (intOf v5).toNat)
  case atStart => exact ⟨0, Try.zeroCells129, by omega, rfl, ⟨blk_new w _, by kernel_rfl, fun x hx => absurd hx (by omega), below_alloc (Below.refl _ _) _⟩⟩
  case round =>
    obtain ⟨k, cs, hk, rfl, HA⟩ := hrel
    by_cases hlt : k < 256
    · have hm : gf256_Mul.f 9 (k : Int) (b2i c) = some (b2i (gmul (UInt8.ofNat k) c)) := by
        have := mul_b (UInt8.ofNat k) c (k := 9) (by omega)
        rw [show b2i (UInt8.ofNat k) = (k : Int) by simp [b2i, Nat.mod_eq_of_lt hlt]] at this
        exact this
      have HM := Aside0.mk hm
      clear hm
      obtain ⟨hb, hs, hc, hB⟩ := HA.out
      have hcell : wr.cell? ⟨w.heap.size, k, none⟩ = some (cs[k]'(by omega)) := by rw [blk_cell hb, Array.getElem?_eq_getElem (by omega)]
      have hfr : wr.frozen? ⟨w.heap.size, k, none⟩ = false := blk_frozen hb k
      generalize cs[k]'(by omega) = old at hcell
      clear hb hs hc hB
      go_wp2_with (go_at_call 68; (with_reducible refine (gf256_Mul.calls 9 _ _ _ _ HM.out).mono ?_); rintro e w' ⟨rfl, ⟨nd, rfl⟩⟩)
      obtain ⟨hb, hs, hc, hB⟩ := HA.out
      go_roundw
      case rel =>
        refine ⟨k + 1, cs.setIfInBounds k (.int .u8 (b2i (gmul (UInt8.ofNat k) c))), by omega, by go_num, ⟨blk_set (w := wr.drewN nd) hb k _, by simpa using hs, fun x hx => ?_, (pw_below_drewN hB nd).setCell (Nat.le_refl _) _⟩⟩
        by_cases hxk : x.toNat = k
        · have hx2 : UInt8.ofNat k = x := by rw [← hxk]; simp
          rw [hxk, hx2, Array.getElem?_setIfInBounds_self_of_lt (by omega)]
        · rw [Array.getElem?_setIfInBounds_ne (by omega)]
          exact hc x (by omega)
      case measure => simp [intOf]; omega
    · obtain rfl : k = 256 := by omega
      obtain ⟨hb, hs, hc, hB⟩ := HA.out
      go_wp2
      go_ret
      exact ⟨w.heap.size, rfl, Nat.le_refl _, fun x => by rw [blk_cell hb]; exact hc x x.toNat_lt, hB⟩

theorem IsTab.set {w : World} {g : Nat} {c : B} (h : IsTab w g c) {p : Addr} (hne : g ≠ p.block) (v : Value) : IsTab (w.setCell p v) g c :=
  fun x => (World.cell?_of_block (a := ⟨g, x.toNat, none⟩) (Below.heap_setCell w p v g hne)).trans (h x)
theorem IsTab.lt {w : World} {g : Nat} {c : B} (h : IsTab w g c) : g < w.heap.size := World.block_lt_of_cell? w _ (h 0)

theorem IsTab.grown {w w1 : World} {g : Nat} {c : B} (h : IsTab w g c) {row : Option Nat} (hg : w.grownBy w1 row) (hne : some g ≠ row) : IsTab w1 g c := fun x => hg.cell (h x) hne

/-- gf256.Scale: all bytes by one; of bytes, not too many. -/
def gf256_Scale.f (l0 : List Int) (a1 : Int) : Option (List Int) :=
  if (l0.all isB && isB a1) && decide (l0.length ≤ 140737488351232) then some (l0.map fun x => b2i (gmul (toB x) (toB a1))) else none
theorem scale_up (l : List B) (c : B) (h : l.length ≤ 140737488351232) : gf256_Scale.f (up l) (b2i c) = some (up (l.map fun x => gmul x c)) := by
  have h1 : (up l).all isB = true := by simp [up, isB_b2i]
  rw [gf256_Scale.f, if_pos (by simp [h1, isB_b2i, up_length, h])]
  simp [up, toB_b2i]
/-- What the loop has made after k rounds. -/
def scaled (m : List B) (c : B) (k : Nat) : List B := (m.take k).map (fun x => gmul x c) ++ List.replicate (m.length - k) 0
theorem scaled_zero (m : List B) (c : B) : scaled m c 0 = List.replicate m.length 0 := by simp [scaled]
theorem scaled_all (m : List B) (c : B) : scaled m c m.length = m.map fun x => gmul x c := by simp [scaled]
theorem scaled_length (m : List B) (c : B) (k : Nat) (hk : k ≤ m.length) : (scaled m c k).length = m.length := by simp [scaled]; omega
theorem scaled_succ (m : List B) (c : B) (k : Nat) (hk : k < m.length) : (scaled m c k).set k (gmul (m.getD k 0) c) = scaled m c (k + 1) := by
  unfold scaled
  have h1 : ((m.take k).map fun x => gmul x c).length = k := by simp; omega
  rw [List.set_append_right _ _ (by omega), h1, Nat.sub_self, show m.length - k = (m.length - (k + 1)) + 1 by omega, List.replicate_succ, List.set_cons_zero,
    List.take_succ_eq_append_getElem hk, List.map_append, List.append_assoc]
  simp [List.getD_eq_getElem?_getD, List.getElem?_eq_getElem hk]

set_option maxRecDepth 100000 in
set_option maxHeartbeats 1000000 in
theorem scale_calls (A0 : Option Addr) (c0 : Nat) (m : List B) (c : B) (w : World) (hr0 : Kd.C (Kd.int .u8) w A0 m.length (up m)) (hlen : m.length ≤ 140737488351232) :
    Calls Try.prog 88 #[.slice A0 m.length c0, .int .u8 (b2i c)] w fun e w' => ∃ v0_ : Value, e = .returned (v0_) ∧ Kd.R (Kd.int .u8) 5 w' w.heap.size (fun _ => True) v0_ (up (m.map fun x => gmul x c)) ∧ Below w.heap.size w w' := by
  have HR0 := Aside0.mk hr0
  have HL := Aside0.mk hlen
  clear hr0
  go_enter Try.func88, Try.ntmps88
  go_wp2_with (first | (go_at_call 105; (with_reducible refine (by_calls c _).mono ?_); rintro e w1 ⟨gt, rfl, hgt, ht, hb⟩; have HT := Aside0.mk ht; have HB := Aside0.mk hb; clear ht hb) | ((with_reducible refine gate_dst (N := 13) rfl ?_); refine Kd.R_make (Kd.int .u8) (w0 := w) w.heap.size 5 rfl (N := 13) rfl 34 _ _ rfl (m.length : Int) rfl rfl Try.underlying34 (.int .u8 0) 1 info5 rfl (by decide) (by omega) 0 (ok := fun k => w1.heap.size ≤ k) (okp := fun _ => False) rfl (fun _ hk => hk.elim) (Nat.le_refl _) (by omega) (by have := HL.out; omega) HB.out HB.out.size ?_; intro v2 w2 hv2 hb2 hg2 hat2; have HV := Aside0.mk hv2; have HB2 := Aside0.mk hb2; have HT2 := Aside0.mk (HT.out.grown hg2 (by simp)); have HLT := Aside0.mk HT.out.lt; clear hv2 hb2 hg2 hat2))
  obtain ⟨Av, cv, ev⟩ := Kd.R_slice HV.out
  rw [List.length_replicate, Int.toNat_natCast] at ev
  subst ev
  rw [Int.toNat_natCast] at HV
  go_loopw [16] (fun v16 wr => ∃ (k : Nat), k ≤ m.length ∧ v16 = .int .i64 (k : Int) ∧ Aside0 (Kd.R (Kd.int .u8) 5 wr w.heap.size (fun k => w1.heap.size ≤ k) (.slice Av m.length cv) (up (scaled m c k)) ∧ IsTab wr gt c ∧ Below w.heap.size w wr)) (fun v16 _ => m.length - (intOf v16).toNat)
  case atStart => exact ⟨0, by omega, rfl, ⟨by rw [scaled_zero, ← up_zeros]; exact HV.out, HT2.out, HB2.out⟩⟩
  case round =>
    obtain ⟨k, hk, rfl, HA⟩ := hrel
    by_cases hlt : k < m.length
    · obtain ⟨hv, ht, hB⟩ := HA.out
      obtain ⟨ad, e, hx⟩ := Kd.at_int HR0.out (k : Int) (by omega) (by omega)
      subst e
      rw [Int.toNat_natCast, rd_up, Int.toNat_natCast] at hx
      replace hx := (hB.cell (World.block_lt_of_cell? w _ hx)).trans hx
      obtain ⟨g, cap, ev, hg1, hg2, _⟩ := Kd.R_form hv (by rw [up_length, scaled_length m c k hk]; omega)
      injection ev with ea en ec
      clear en ec
      subst ea
      obtain ⟨hcell, hfr⟩ := Kd.R_celln 0 hv (k : Int) (by omega) (by omega)
      rw [Int.toNat_natCast] at hcell hfr
      generalize Value.int .u8 (rdOf 0 (up (scaled m c k)) ↑k) = old at hcell
      generalize hy : m.getD k 0 = y at hx
      have HY := Aside0.mk hy
      have HT3 := Aside0.mk ht
      clear hv ht hB hy
      go_wp2_with (go_at_call 117; (with_reducible refine (by1_calls gt c y _ HT3.out).mono ?_); rintro e w' ⟨rfl, rfl⟩)
      obtain ⟨hv, ht, hB⟩ := HA.out
      go_roundw
      case rel =>
        have hp := Kd.R_putn hv (k : Int) (b2i (gmul y c))
        rw [Int.toNat_natCast, set_up, ← HY.out, scaled_succ m c k hlt, HY.out] at hp
        have hgt : gt ≠ g := by have := HLT.out; have := hv.1 g rfl; omega
        exact ⟨k + 1, by omega, by go_num, ⟨hp, ht.set hgt _, hB.setCell hg1 _⟩⟩
      case measure => simp [intOf]; omega
    · obtain rfl : k = m.length := by omega
      obtain ⟨hv, ht, hB⟩ := HA.out
      rw [scaled_all] at hv
      have HV3 := Aside0.mk hv
      clear hv ht
      go_wp2
      go_ret
      exact ⟨_, rfl, Kd.R_mono HV3.out (fun _ _ => trivial), hB⟩
theorem gf256_Scale.calls (A0 : Option Addr) (c0 : Nat) (l0 : List Int) (a1 : Int) (r : List Int) (w : World) (hr0 : Kd.C (Kd.int .u8) w A0 l0.length l0) (hc0 : l0.length ≤ c0) (h : gf256_Scale.f l0 a1 = some r) :
    Calls Try.prog 88 #[.slice A0 l0.length c0, .int .u8 a1] w fun e w' => ∃ v0_ : Value, e = .returned (v0_) ∧ Kd.R (Kd.int .u8) 5 w' w.heap.size (fun _ => True) v0_ r ∧ Below w.heap.size w w' := by
  unfold gf256_Scale.f at h
  split at h
  · rename_i hc
    simp only [Bool.and_eq_true, List.all_eq_true, decide_eq_true_eq] at hc
    obtain ⟨m, rfl⟩ := exists_up hc.1.1
    obtain rfl := Option.some.inj h
    have h1 := scale_calls A0 c0 m (toB a1) w (by rw [up_length] at hr0; exact hr0) (by have := hc.2; rw [up_length] at this; exact this)
    rw [b2i_toB hc.1.2] at h1
    rw [up_length]
    have e : (up m).map (fun x => b2i (gmul (toB x) (toB a1))) = up (m.map fun x => gmul x (toB a1)) := by simp [up, toB_b2i]
    rw [e]
    exact h1
  · cases h
end Go.Proofs.Ytpkghpljgjlmjaa.K
