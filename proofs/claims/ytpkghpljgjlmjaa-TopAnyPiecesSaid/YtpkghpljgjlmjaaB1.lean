/- Walks and plain facts behind the laws of package matrix. No conditions. -/
import Derived.Test.YtpkghpljgjlmjaaProg
import Derived.Below
import Derived.Deep.Draws
import Derived.Deep.AppendLies
import Derived.Maps.AppendAt
import Derived.OwnWalk
import Derived.Laws.BytesArg
import Derived.Laws.MakeOwn
import Derived.Laws.OwnMore
import Derived.Deep.OwnRows
import Derived.Tactics
import Derived.Lib.ConvBytes
import Derived.Laws.Slices
import Derived.WalkKit
import Derived.KernelRfl
import Derived.RowKit3
import Derived.Deep.LoopGhost
import Derived.Deep.QuietTactic
import Derived.BigQuiet
import Derived.WideLaws
import Derived.Deep.DeepCutAuto
import Derived.Deep.CutBlock
import Derived.Deep.RegionHeld3
import Derived.Laws.Rows
import Derived.Lib.AppendStr
import Derived.ArgAppend
import Derived.Laws.IdiomCopy
import Derived.OrdersHeld
import Derived.Laws.BitsLemmas
import Derived.RowKit
import Derived.Test.YtpkghpljgjlmjaaU1
import Derived.Laws.BitsAllLaws
import Derived.WalkSpells
import Derived.IntWalk
import Derived.Laws.CopyOwn
import Derived.Outline
import Derived.Deep.RegionWith
import Derived.StillTactics
-- Lines of this claim, written by the session's own program kprint.py (it runs print.py).
namespace Go.Proofs.Ytpkghpljgjlmjaa.K
open Go.RowKit Go.Proofs.YtpkghpljgjlmjaaW.PrintWords Go.Proofs.YtpkghpljgjlmjaaW.PrintLast Go.Proofs.YtpkghpljgjlmjaaW.PrintMore
attribute [local go_sem] max2_int min2_int max_two min_two max_three min_three max_four min_four   -- for this text's walks alone
set_option linter.unusedVariables false
set_option linter.unusedSimpArgs false



def errW : Option Int → Value
  | none => .nilIface
  | some c => .iface 0 (.int .i64 c)
theorem errW_none : errW none = .nilIface := rfl
theorem errW_some (c : Int) : errW (some c) = .iface 0 (.int .i64 c) := rfl
theorem info5 : (Try.prog.info? 5).map (fun i => (i.zero, i.size, i.bytes)) = some (some (.int .u8 0), 1, 1) := by kernel_rfl
theorem info34 : (Try.prog.info? 34).map (fun i => (i.zero, i.size, i.bytes)) = some (some (.slice none 0 0), 1, 24) := by kernel_rfl
-- the values' own types
def rd_L1 (xs : List (List Int)) (i : Int) : (List Int) := xs.getD i.toNat ([] : List Int)
theorem at_L1 {w : World} {A : Option Addr} {n : Nat} {xs : List (List Int)} (h : Kd.C (Kd.slice 5 (Kd.int .u8)) w A n xs) (i : Int) (h0 : 0 ≤ i) (h1 : i < n) : ∃ ad A0 c0, A = some ad ∧ w.cell? (ad.add i.toNat) = some (.slice A0 (rd_L1 xs i).length c0) ∧ (rd_L1 xs i).length ≤ c0 ∧ (Kd.int .u8).C w A0 (rd_L1 xs i).length (rd_L1 xs i) := by
  obtain ⟨ad, c, e, _, hK, hc0⟩ := Kd.C_get h ([] : List Int) i h0 h1
  have hc : ∀ j u, c[j]? = some u → w.cell? (ad.add (i.toNat * 1 + j)) = some u := hc0
  obtain ⟨A0, c0, rfl, l0, g0⟩ := hK
  exact ⟨ad, A0, c0, e, by have hq := hc 0 _ rfl; rwa [Nat.mul_one, Nat.add_zero] at hq, l0, g0⟩
end Go.Proofs.Ytpkghpljgjlmjaa.K
-- Lines of this claim, written by the session's own program kprint.py (it runs print.py).
namespace Go.Proofs.Ytpkghpljgjlmjaa.K
open Go.RowKit Go.Proofs.YtpkghpljgjlmjaaW.PrintWords Go.Proofs.YtpkghpljgjlmjaaW.PrintLast Go.Proofs.YtpkghpljgjlmjaaW.PrintMore
attribute [local go_sem] max2_int min2_int max_two min_two max_three min_three max_four min_four   -- for this text's walks alone
set_option linter.unusedVariables false
set_option linter.unusedSimpArgs false

/-! ### gf256_Add: function 89 -/
def gf256_Add.f (a0 : Int) (a1 : Int) : Option (Int) := some (Go.bits .xor .u8 a0 a1)
set_option maxHeartbeats 8000000 in
set_option maxRecDepth 100000 in
theorem gf256_Add.calls (a0 : Int) (a1 : Int) (r : Int) (w : World) (h : gf256_Add.f a0 a1 = some r) :
    Calls Try.prog 89 #[.int .u8 a0, .int .u8 a1] w fun e w' => e = .returned (.int .u8 r) ∧ Drawn0 w w' := by
  have H : (some (Go.bits .xor .u8 a0 a1)) = some r := h
  clear h
  obtain rfl := Option.some.inj H
  go_enter Try.func89, Try.ntmps89
  go_wp2
  go_ret
  exact ⟨by first | rfl | (simp; done) | (simp [*]; done), by repeat (first | exact Drawn0.refl _ | apply Drawn0.step)⟩
/-! ### gf256_double: function 90 -/
def gf256_double.f (a0 : Int) : Option (Int) := if a0 ≥ 128 then (some (Go.bits .xor .u8 ((a0 * 2) % 256) 29)) else (some ((a0 * 2) % 256))
set_option maxHeartbeats 8000000 in
set_option maxRecDepth 100000 in
theorem gf256_double.calls (a0 : Int) (r : Int) (w : World) (h : gf256_double.f a0 = some r) :
    Calls Try.prog 90 #[.int .u8 a0] w fun e w' => e = .returned (.int .u8 r) ∧ Drawn0 w w' := by
  have H : (if a0 ≥ 128 then (some (Go.bits .xor .u8 ((a0 * 2) % 256) 29)) else (some ((a0 * 2) % 256))) = some r := h
  clear h
  by_cases c2 : a0 ≥ 128
  · rw [if_pos c2] at H
    have c2b0 : decide (128 ≤ a0) = true := decide_eq_true c2
    clear c2
    obtain rfl := Option.some.inj H
    go_enter Try.func90, Try.ntmps90
    go_wp2
    go_ret
    exact ⟨by first | rfl | (simp; done) | (simp [*]; done), by repeat (first | exact Drawn0.refl _ | apply Drawn0.step)⟩
  · rw [if_neg c2] at H
    have c2b0 : decide (128 ≤ a0) = false := decide_eq_false c2
    clear c2
    obtain rfl := Option.some.inj H
    go_enter Try.func90, Try.ntmps90
    go_wp2
    go_ret
    exact ⟨by first | rfl | (simp; done) | (simp [*]; done), by repeat (first | exact Drawn0.refl _ | apply Drawn0.step)⟩
/-! ### gf256_Mul: function 68 -/
def gf256_Mul.l0 : Nat → Int → Int → Int → Option (Int)
  | 0, _, _, _ => none
  | k + 1, x0, x1, x5 => if x1 > 0 then (if (Go.bits .and .u8 x1 1) = 1 then ((gf256_Add.f x5 x0).bind fun t101 => ((gf256_double.f x0).bind fun t102 => (gf256_Mul.l0 k t102 (x1 / 2) t101))) else ((gf256_double.f x0).bind fun t103 => (gf256_Mul.l0 k t103 (x1 / 2) x5))) else (some x5)
def gf256_Mul.f (k : Nat) (a0 : Int) (a1 : Int) : Option (Int) := gf256_Mul.l0 k a0 a1 0
set_option maxHeartbeats 8000000 in
set_option maxRecDepth 100000 in
theorem gf256_Mul.calls (k : Nat) (a0 : Int) (a1 : Int) (r : Int) (w : World) (h : gf256_Mul.f k a0 a1 = some r) :
    Calls Try.prog 68 #[.int .u8 a0, .int .u8 a1] w fun e w' => e = .returned (.int .u8 r) ∧ Drawn0 w w' := by
  have H : (gf256_Mul.l0 k a0 a1 0) = some r := h
  clear h
  have H' := Aside0.mk H
  clear H
  go_enter Try.func68, Try.ntmps68
  go_wp2
  go_loopg [0, 1, 5] k (fun kq v0 v1 v5 w' => ∃ (x0_1 : Int) (x1_1 : Int) (x5_1 : Int), v0 = .int .u8 x0_1 ∧ v1 = .int .u8 x1_1 ∧ v5 = .int .u8 x5_1 ∧ Aside0 (gf256_Mul.l0 kq x0_1 x1_1 x5_1 = some r) ∧ Aside0 (kq ≤ k) ∧ Drawn0 w w')
  case atStart => exact ⟨(a0), (a1), (0), (by first | rfl | (simp; done) | (simp [*]; done)), (by first | rfl | (simp; done) | (simp [*]; done)), (by first | rfl | (simp; done) | (simp [*]; done)), H', ⟨Nat.le_refl _⟩, by repeat (first | exact Drawn0.refl _ | apply Drawn0.step)⟩
  case round =>
    clear H'
    try clear p2
    obtain ⟨x0_1, x1_1, x5_1, rfl, rfl, rfl, HA, HK1, ⟨m1, rfl⟩⟩ := hrel
    cases gk with
    | zero => exact absurd HA.out (by simp [gf256_Mul.l0])
    | succ k1 =>
      have H := HA.out
      clear HA
      simp only [gf256_Mul.l0] at H
      by_cases c3 : x1_1 > 0
      · rw [if_pos c3] at H
        have c3b0 : decide (0 < x1_1) = true := decide_eq_true c3
        clear c3
        by_cases c4 : (Go.bits .and .u8 x1_1 1) = 1
        · rw [if_pos c4] at H
          have c4b0 : ((Go.bits .and .u8 x1_1 1) == 1) = true := beq_iff_eq.mpr c4
          have c4b1 : ((Go.bits .and .u8 x1_1 1) != 1) = false := bne_eq_false_iff_eq.mpr c4
          clear c4
          replace H := Option.bind_eq_some_iff.mp H
          obtain ⟨t101, A50, H⟩ := H
          replace H : ((gf256_double.f x0_1).bind fun t102 => (gf256_Mul.l0 k1 t102 (x1_1 / 2) t101)) = some r := H
          have A5 := Aside0.mk A50
          clear A50
          replace H := Option.bind_eq_some_iff.mp H
          obtain ⟨t102, A60, H⟩ := H
          replace H : (gf256_Mul.l0 k1 t102 (x1_1 / 2) t101) = some r := H
          have A6 := Aside0.mk A60
          clear A60
          have H' := Aside0.mk H
          clear H
          go_wp2_with (first | ((with_reducible refine gate_callee (f := 89) rfl ?_); refine goesL_ (some 13) rfl rfl Try.func89 (by kernel_rfl) rfl #[.int .u8 x5_1, .int .u8 x0_1] rfl (by (try simp only [List.map_toArray, List.map_cons, List.map_nil]); first | done | rfl | (simp only [List.length_drop, List.length_take]; rfl)) ?_; (with_reducible refine (gf256_Add.calls x5_1 x0_1 t101 _ A5.out).mono ?_); rintro e w' ⟨rfl, ⟨nd, rfl⟩⟩; refine ⟨_, rfl, ?_⟩) | ((with_reducible refine gate_callee (f := 90) rfl ?_); refine goesL_ (some 15) rfl rfl Try.func90 (by kernel_rfl) rfl #[.int .u8 x0_1] rfl (by (try simp only [List.map_toArray, List.map_cons, List.map_nil]); first | done | rfl | (simp only [List.length_drop, List.length_take]; rfl)) ?_; (with_reducible refine (gf256_double.calls x0_1 t102 _ A6.out).mono ?_); rintro e w' ⟨rfl, ⟨nd, rfl⟩⟩; refine ⟨_, rfl, ?_⟩))
          go_roundg k1
          case measure => have := HK1.out; omega
          case rel => exact ⟨(t102), (x1_1 / 2), (t101), (by first | rfl | (simp; done) | (simp [*]; done)), (by first | rfl | (simp; done) | (simp [*]; done)), (by first | rfl | (simp; done) | (simp [*]; done)), H', ⟨by have := HK1.out; omega⟩, by repeat (first | exact Drawn0.refl _ | apply Drawn0.step)⟩
        · rw [if_neg c4] at H
          have c4b0 : ((Go.bits .and .u8 x1_1 1) == 1) = false := beq_eq_false_iff_ne.mpr c4
          have c4b1 : ((Go.bits .and .u8 x1_1 1) != 1) = true := bne_iff_ne.mpr c4
          replace H := Option.bind_eq_some_iff.mp H
          obtain ⟨t103, A70, H⟩ := H
          replace H : (gf256_Mul.l0 k1 t103 (x1_1 / 2) x5_1) = some r := H
          have A7 := Aside0.mk A70
          clear A70
          have H' := Aside0.mk H
          clear H
          go_wp2_with (first | ((with_reducible refine gate_callee (f := 90) rfl ?_); refine goesL_ (some 15) rfl rfl Try.func90 (by kernel_rfl) rfl #[.int .u8 x0_1] rfl (by (try simp only [List.map_toArray, List.map_cons, List.map_nil]); first | done | rfl | (simp only [List.length_drop, List.length_take]; rfl)) ?_; (with_reducible refine (gf256_double.calls x0_1 t103 _ A7.out).mono ?_); rintro e w' ⟨rfl, ⟨nd, rfl⟩⟩; refine ⟨_, rfl, ?_⟩))
          go_roundg k1
          case measure => have := HK1.out; omega
          case rel => exact ⟨(t103), (x1_1 / 2), (x5_1), (by first | rfl | (simp; done) | (simp [*]; done)), (by first | rfl | (simp; done) | (simp [*]; done)), (by first | rfl | (simp; done) | (simp [*]; done)), H', ⟨by have := HK1.out; omega⟩, by repeat (first | exact Drawn0.refl _ | apply Drawn0.step)⟩
      · rw [if_neg c3] at H
        have c3b0 : decide (0 < x1_1) = false := decide_eq_false c3
        clear c3
        obtain rfl := Option.some.inj H
        go_wp2
        go_ret
        exact ⟨by first | rfl | (simp; done) | (simp [*]; done), by repeat (first | exact Drawn0.refl _ | apply Drawn0.step)⟩
/-! ### gf256_raise: function 96 -/
def gf256_raise.l0 : Nat → Int → Int → Int → Option (Int)
  | 0, _, _, _ => none
  | k + 1, x0, x1, x5 => if x1 > 0 then (if (Go.bits .and .i64 x1 1) = 1 then ((gf256_Mul.f k x5 x0).bind fun t104 => ((gf256_Mul.f k x0 x0).bind fun t105 => (gf256_raise.l0 k t105 (x1 / 2) t104))) else ((gf256_Mul.f k x0 x0).bind fun t106 => (gf256_raise.l0 k t106 (x1 / 2) x5))) else (some x5)
def gf256_raise.f (k : Nat) (a0 : Int) (a1 : Int) : Option (Int) := gf256_raise.l0 k a0 a1 1
set_option maxHeartbeats 8000000 in
set_option maxRecDepth 100000 in
theorem gf256_raise.calls (k : Nat) (a0 : Int) (a1 : Int) (r : Int) (w : World) (h : gf256_raise.f k a0 a1 = some r) :
    Calls Try.prog 96 #[.int .u8 a0, .int .i64 a1] w fun e w' => e = .returned (.int .u8 r) ∧ Drawn0 w w' := by
  have H : (gf256_raise.l0 k a0 a1 1) = some r := h
  clear h
  have H' := Aside0.mk H
  clear H
  go_enter Try.func96, Try.ntmps96
  go_wp2
  go_loopg [0, 1, 5] k (fun kq v0 v1 v5 w' => ∃ (x0_1 : Int) (x1_1 : Int) (x5_1 : Int), v0 = .int .u8 x0_1 ∧ v1 = .int .i64 x1_1 ∧ v5 = .int .u8 x5_1 ∧ Aside0 (gf256_raise.l0 kq x0_1 x1_1 x5_1 = some r) ∧ Aside0 (kq ≤ k) ∧ Drawn0 w w')
  case atStart => exact ⟨(a0), (a1), (1), (by first | rfl | (simp; done) | (simp [*]; done)), (by first | rfl | (simp; done) | (simp [*]; done)), (by first | rfl | (simp; done) | (simp [*]; done)), H', ⟨Nat.le_refl _⟩, by repeat (first | exact Drawn0.refl _ | apply Drawn0.step)⟩
  case round =>
    clear H'
    try clear p2
    obtain ⟨x0_1, x1_1, x5_1, rfl, rfl, rfl, HA, HK1, ⟨m1, rfl⟩⟩ := hrel
    cases gk with
    | zero => exact absurd HA.out (by simp [gf256_raise.l0])
    | succ k1 =>
      have H := HA.out
      clear HA
      simp only [gf256_raise.l0] at H
      by_cases c3 : x1_1 > 0
      · rw [if_pos c3] at H
        have c3b0 : decide (0 < x1_1) = true := decide_eq_true c3
        clear c3
        by_cases c4 : (Go.bits .and .i64 x1_1 1) = 1
        · rw [if_pos c4] at H
          have c4b0 : ((Go.bits .and .i64 x1_1 1) == 1) = true := beq_iff_eq.mpr c4
          have c4b1 : ((Go.bits .and .i64 x1_1 1) != 1) = false := bne_eq_false_iff_eq.mpr c4
          clear c4
          replace H := Option.bind_eq_some_iff.mp H
          obtain ⟨t104, A50, H⟩ := H
          replace H : ((gf256_Mul.f k1 x0_1 x0_1).bind fun t105 => (gf256_raise.l0 k1 t105 (x1_1 / 2) t104)) = some r := H
          have A5 := Aside0.mk A50
          clear A50
          replace H := Option.bind_eq_some_iff.mp H
          obtain ⟨t105, A60, H⟩ := H
          replace H : (gf256_raise.l0 k1 t105 (x1_1 / 2) t104) = some r := H
          have A6 := Aside0.mk A60
          clear A60
          have H' := Aside0.mk H
          clear H
          go_wp2_with (first | ((with_reducible refine gate_callee (f := 68) rfl ?_); refine goesL_ (some 13) rfl rfl Try.func68 (by kernel_rfl) rfl #[.int .u8 x5_1, .int .u8 x0_1] rfl (by (try simp only [List.map_toArray, List.map_cons, List.map_nil]); first | done | rfl | (simp only [List.length_drop, List.length_take]; rfl)) ?_; (with_reducible refine (gf256_Mul.calls k1 x5_1 x0_1 t104 _ A5.out).mono ?_); rintro e w' ⟨rfl, ⟨nd, rfl⟩⟩; refine ⟨_, rfl, ?_⟩) | ((with_reducible refine gate_callee (f := 68) rfl ?_); refine goesL_ (some 16) rfl rfl Try.func68 (by kernel_rfl) rfl #[.int .u8 x0_1, .int .u8 x0_1] rfl (by (try simp only [List.map_toArray, List.map_cons, List.map_nil]); first | done | rfl | (simp only [List.length_drop, List.length_take]; rfl)) ?_; (with_reducible refine (gf256_Mul.calls k1 x0_1 x0_1 t105 _ A6.out).mono ?_); rintro e w' ⟨rfl, ⟨nd, rfl⟩⟩; refine ⟨_, rfl, ?_⟩))
          go_roundg k1
          case measure => have := HK1.out; omega
          case rel => exact ⟨(t105), (x1_1 / 2), (t104), (by first | rfl | (simp; done) | (simp [*]; done)), (by first | rfl | (simp; done) | (simp [*]; done)), (by first | rfl | (simp; done) | (simp [*]; done)), H', ⟨by have := HK1.out; omega⟩, by repeat (first | exact Drawn0.refl _ | apply Drawn0.step)⟩
        · rw [if_neg c4] at H
          have c4b0 : ((Go.bits .and .i64 x1_1 1) == 1) = false := beq_eq_false_iff_ne.mpr c4
          have c4b1 : ((Go.bits .and .i64 x1_1 1) != 1) = true := bne_iff_ne.mpr c4
          replace H := Option.bind_eq_some_iff.mp H
          obtain ⟨t106, A70, H⟩ := H
          replace H : (gf256_raise.l0 k1 t106 (x1_1 / 2) x5_1) = some r := H
          have A7 := Aside0.mk A70
          clear A70
          have H' := Aside0.mk H
          clear H
          go_wp2_with (first | ((with_reducible refine gate_callee (f := 68) rfl ?_); refine goesL_ (some 16) rfl rfl Try.func68 (by kernel_rfl) rfl #[.int .u8 x0_1, .int .u8 x0_1] rfl (by (try simp only [List.map_toArray, List.map_cons, List.map_nil]); first | done | rfl | (simp only [List.length_drop, List.length_take]; rfl)) ?_; (with_reducible refine (gf256_Mul.calls k1 x0_1 x0_1 t106 _ A7.out).mono ?_); rintro e w' ⟨rfl, ⟨nd, rfl⟩⟩; refine ⟨_, rfl, ?_⟩))
          go_roundg k1
          case measure => have := HK1.out; omega
          case rel => exact ⟨(t106), (x1_1 / 2), (x5_1), (by first | rfl | (simp; done) | (simp [*]; done)), (by first | rfl | (simp; done) | (simp [*]; done)), (by first | rfl | (simp; done) | (simp [*]; done)), H', ⟨by have := HK1.out; omega⟩, by repeat (first | exact Drawn0.refl _ | apply Drawn0.step)⟩
      · rw [if_neg c3] at H
        have c3b0 : decide (0 < x1_1) = false := decide_eq_false c3
        clear c3
        obtain rfl := Option.some.inj H
        go_wp2
        go_ret
        exact ⟨by first | rfl | (simp; done) | (simp [*]; done), by repeat (first | exact Drawn0.refl _ | apply Drawn0.step)⟩
/-! ### gf256_Inv: function 78 -/
def gf256_Inv.f (k : Nat) (a0 : Int) : Option (Int × Int) := if a0 = 0 then (some (0, 1)) else ((gf256_raise.f k a0 254).bind fun t107 => (some (t107, 0)))
set_option maxHeartbeats 8000000 in
set_option maxRecDepth 100000 in
theorem gf256_Inv.calls (k : Nat) (a0 : Int) (r1 : Int) (r2 : Int) (w : World) (h : gf256_Inv.f k a0 = some (r1, r2)) :
    Calls Try.prog 78 #[.int .u8 a0] w fun e w' => e = .returned (.tuple #[.int .u8 r1, .int .i64 r2]) ∧ Drawn0 w w' := by
  have H : (if a0 = 0 then (some (0, 1)) else ((gf256_raise.f k a0 254).bind fun t107 => (some (t107, 0)))) = some (r1, r2) := h
  clear h
  by_cases c2 : a0 = 0
  · rw [if_pos c2] at H
    have c2b0 : (a0 == 0) = true := beq_iff_eq.mpr c2
    have c2b1 : (a0 != 0) = false := bne_eq_false_iff_eq.mpr c2
    clear c2
    simp only [Option.some.injEq, Prod.mk.injEq] at H
    obtain ⟨rfl, rfl⟩ := H
    go_enter Try.func78, Try.ntmps78
    go_wp2
    go_ret2
    exact ⟨by first | rfl | (simp; done) | (simp [*]; done), by repeat (first | exact Drawn0.refl _ | apply Drawn0.step)⟩
  · rw [if_neg c2] at H
    have c2b0 : (a0 == 0) = false := beq_eq_false_iff_ne.mpr c2
    have c2b1 : (a0 != 0) = true := bne_iff_ne.mpr c2
    replace H := Option.bind_eq_some_iff.mp H
    obtain ⟨t107, A30, H⟩ := H
    replace H : (some (t107, 0)) = some (r1, r2) := H
    have A3 := Aside0.mk A30
    clear A30
    simp only [Option.some.injEq, Prod.mk.injEq] at H
    obtain ⟨rfl, rfl⟩ := H
    go_enter Try.func78, Try.ntmps78
    go_wp2_with (first | ((with_reducible refine gate_callee (f := 96) rfl ?_); refine goesL_ (some 7) rfl rfl Try.func96 (by kernel_rfl) rfl #[.int .u8 a0, .int .i64 254] rfl (by (try simp only [List.map_toArray, List.map_cons, List.map_nil]); first | done | rfl | (simp only [List.length_drop, List.length_take]; rfl)) ?_; (with_reducible refine (gf256_raise.calls k a0 254 t107 _ A3.out).mono ?_); rintro e w' ⟨rfl, ⟨nd, rfl⟩⟩; refine ⟨_, rfl, ?_⟩))
    go_ret2
    exact ⟨by first | rfl | (simp; done) | (simp [*]; done), by repeat (first | exact Drawn0.refl _ | apply Drawn0.step)⟩
/-! ### matrix_zero: function 64 -/
def matrix_zero.l0 : Nat → Int → List (List Int) → Int → Int → Option ((List (List Int)))
  | 0, _, _, _, _ => none
  | k + 1, x1, x5, x10, x11 => if x11 < x10 then (if 0 ≤ x1 then (if (x1 : Int).toNat ≤ 281474976710656 then (if 0 ≤ x11 then (if x11 < (x5.length : Int) then (matrix_zero.l0 k x1 (x5.set (x11 : Int).toNat (List.replicate (x1 : Int).toNat 0)) x10 (wrap64 (x11 + 1))) else (none)) else (none)) else (none)) else (none)) else (some x5)
def matrix_zero.f (k : Nat) (a0 : Int) (a1 : Int) : Option ((List (List Int))) := if 0 ≤ a0 then (if (a0 : Int).toNat ≤ 11728124029610 then ((some (List.replicate (a0 : Int).toNat [] : List (List Int))).bind fun y110 => (matrix_zero.l0 k a1 y110 (y110.length : Int) 0)) else (none)) else (none)
set_option maxHeartbeats 8000000 in
set_option maxRecDepth 100000 in
theorem matrix_zero.calls (k : Nat) (a0 : Int) (a1 : Int) (r : List (List Int)) (w : World) (h : matrix_zero.f k a0 a1 = some r) :
    Calls Try.prog 64 #[.int .i64 a0, .int .i64 a1] w fun e w' => ∃ v0_ : Value, e = .returned (v0_) ∧ Kd.S (Kd.slice 5 (Kd.int .u8)) 34 w' w.heap.size (fun _ => True) v0_ r ∧ Below w.heap.size w w' := by
  have HB := Aside0.mk (Below.refl w.heap.size w)
  have H : (if 0 ≤ a0 then (if (a0 : Int).toNat ≤ 11728124029610 then ((some (List.replicate (a0 : Int).toNat [] : List (List Int))).bind fun y110 => (matrix_zero.l0 k a1 y110 (y110.length : Int) 0)) else (none)) else (none)) = some r := h
  clear h
  by_cases c3 : 0 ≤ a0
  · rw [if_pos c3] at H
    have c3b0 := eq_true c3
    have c3b1 : decide (0 ≤ a0) = true := decide_eq_true c3
    clear c3
    by_cases c4 : (a0 : Int).toNat ≤ 11728124029610
    · rw [if_pos c4] at H
      have c4b0 := eq_true c4
      have c4b1 : decide ((a0 : Int).toNat ≤ 11728124029610) = true := decide_eq_true c4
      clear c4
      obtain ⟨y110, hy110⟩ : ∃ y_ : List (List Int), y_ = (List.replicate (a0 : Int).toNat []) := ⟨_, rfl⟩
      replace H : (matrix_zero.l0 k a1 y110 (y110.length : Int) 0) = some r := by first | (rw [hy110]; with_reducible exact H) | (have H2_ := (Option.bind_some _ _).symm.trans H; rw [hy110]; with_reducible exact H2_) | (have H2_ := (Option.bind_some _ _).symm.trans H; with_reducible exact H2_) | with_reducible exact H | (rw [hy110]; exact H) | exact H
      have Ny110 := Aside0.mk hy110
      clear hy110
      have H' := Aside0.mk H
      clear H
      go_enter Try.func64, Try.ntmps64
      go_wp2_with (first | ((with_reducible refine gate_dst (N := 8) rfl ?_); refine Kd.S_make (Kd.slice 5 (Kd.int .u8)) _ 34 rfl (N := 8) rfl 22 _ _ rfl a0 rfl rfl Try.underlying22 (.slice none 0 0) 24 info34 rfl (by decide) (by omega) [] (ok := fun _ => True) (okp := fun _ => True) ⟨_, rfl, Kd.R_nil _ _ _ _ _⟩ (fun _ hk => hk) trivial (of_decide_eq_true (by first | (with_reducible assumption) | assumption)) (Nat.le_trans (Nat.mul_le_mul_right _ (of_decide_eq_true (by first | (with_reducible assumption) | assumption) : a0.toNat ≤ 11728124029610)) (by omega)) (Below.refl _ _) (Nat.le_refl _) ?_; intro v111 w5 ho6 hb hg_ hnew_; clear hg_ hnew_; (first | rw [← Ny110.out] at ho6 | (simp only [Int.reduceToNat] at ho6; rw [← Ny110.out] at ho6)); have n0_ := Aside0.mk (Kd.S_lower ho6 (below_size (by repeat (first | (with_reducible first | exact HB.out | apply below_alloc | apply pw_below_drewN | apply below_drew1) | exact HB.out)))); have n1_ := Aside0.mk (below_step (by repeat (first | (with_reducible first | exact HB.out | apply below_alloc | apply pw_below_drewN | apply below_drew1) | exact HB.out)) hb); clear HB; have HO112 := n0_; have HB := n1_; clear n0_ n1_; clear hb ho6; obtain ⟨Ao7, co7, eo7⟩ := Kd.S_slice HO112.out; subst eo7))
      go_loopg [11] k (fun kq v11 w' => ∃ (x5_1 : List (List Int)) (x11_1 : Int), v11 = .int .i64 x11_1 ∧ Aside0 (matrix_zero.l0 kq a1 x5_1 (y110.length : Int) x11_1 = some r) ∧ Aside0 (kq ≤ k) ∧ Aside0 (Kd.S (Kd.slice 5 (Kd.int .u8)) 34 w' w.heap.size (fun _ => True) (.slice Ao7 y110.length co7) x5_1) ∧ Aside0 (Below w.heap.size w w'))
      case atStart => exact ⟨(y110), (0), (by first | rfl | (simp; done) | (simp [*]; done)), H', ⟨Nat.le_refl _⟩, ⟨by (with_reducible repeat (first | apply Kd.S_alloc | apply Kd.S_drewN | apply Kd.S_drew)); exact HO112.out⟩, ⟨by repeat (first | (with_reducible first | exact HB.out | apply below_alloc | apply pw_below_drewN | apply below_drew1) | exact HB.out)⟩⟩
      case round =>
        clear H'
        try clear p2
        try clear c3
        try clear c3b0
        try clear c3b1
        try clear c4
        try clear c4b0
        try clear c4b1
        try clear c6
        obtain ⟨x5_1, x11_1, rfl, HA, HK1, HO_5, HB⟩ := hrel
        have hl5_1 := (Kd.S_reads' HO_5.out).1
        rw [hl5_1] at HO_5
        (try simp only [hl5_1])
        cases gk with
        | zero => exact absurd HA.out (by simp [matrix_zero.l0])
        | succ k1 =>
          have H := HA.out
          clear HA
          simp only [matrix_zero.l0] at H
          by_cases c8 : x11_1 < (y110.length : Int)
          · rw [if_pos c8] at H
            have c8b0 : decide (x11_1 < (y110.length : Int)) = true := decide_eq_true c8
            (try (have c8b0x := c8b0; rw [hl5_1] at c8b0x))
            clear c8
            by_cases c9 : 0 ≤ a1
            · rw [if_pos c9] at H
              have c9b0 := eq_true c9
              (try (have c9b0x := c9b0; rw [hl5_1] at c9b0x))
              have c9b1 : decide (0 ≤ a1) = true := decide_eq_true c9
              (try (have c9b1x := c9b1; rw [hl5_1] at c9b1x))
              clear c9
              by_cases c10 : (a1 : Int).toNat ≤ 281474976710656
              · rw [if_pos c10] at H
                have c10b0 := eq_true c10
                (try (have c10b0x := c10b0; rw [hl5_1] at c10b0x))
                have c10b1 : decide ((a1 : Int).toNat ≤ 281474976710656) = true := decide_eq_true c10
                (try (have c10b1x := c10b1; rw [hl5_1] at c10b1x))
                clear c10
                obtain ⟨y113, hy113⟩ : ∃ y_ : List Int, y_ = (List.replicate (a1 : Int).toNat 0) := ⟨_, rfl⟩
                replace H : (if 0 ≤ x11_1 then (if x11_1 < (x5_1.length : Int) then (matrix_zero.l0 k1 a1 (x5_1.set (x11_1 : Int).toNat y113) (y110.length : Int) (wrap64 (x11_1 + 1))) else (none)) else (none)) = some r := by first | (rw [hy113]; with_reducible exact H) | (have H2_ := (Option.bind_some _ _).symm.trans H; rw [hy113]; with_reducible exact H2_) | (have H2_ := (Option.bind_some _ _).symm.trans H; with_reducible exact H2_) | with_reducible exact H | (rw [hy113]; exact H) | exact H
                have Ny113 := Aside0.mk hy113
                clear hy113
                by_cases c11 : 0 ≤ x11_1
                · rw [if_pos c11] at H
                  have c11b0 : decide (0 ≤ x11_1) = true := decide_eq_true c11
                  (try (have c11b0x := c11b0; rw [hl5_1] at c11b0x))
                  clear c11
                  by_cases c12 : x11_1 < (x5_1.length : Int)
                  · rw [if_pos c12] at H
                    have c12b0 : decide (x11_1 < (x5_1.length : Int)) = true := decide_eq_true c12
                    (try (have c12b0x := c12b0; rw [hl5_1] at c12b0x))
                    clear c12
                    obtain ⟨y116, hy116⟩ : ∃ y_ : List (List Int), y_ = (x5_1.set (x11_1 : Int).toNat y113) := ⟨_, rfl⟩
                    replace H : (matrix_zero.l0 k1 a1 y116 (y110.length : Int) (wrap64 (x11_1 + 1))) = some r := by first | (rw [hy116]; with_reducible exact H) | (have H2_ := (Option.bind_some _ _).symm.trans H; rw [hy116]; with_reducible exact H2_) | (have H2_ := (Option.bind_some _ _).symm.trans H; with_reducible exact H2_) | with_reducible exact H | (rw [hy116]; exact H) | exact H
                    have Ny116 := Aside0.mk hy116
                    clear hy116
                    have H' := Aside0.mk H
                    clear H
                    go_wp2_with (first | ((with_reducible refine gate_dst (N := 17) rfl ?_); refine Kd.R_make (Kd.int .u8) _ 5 rfl (N := 17) rfl 34 _ _ rfl a1 rfl rfl Try.underlying34 (.int .u8 0) 1 info5 rfl (by decide) (by omega) 0 (ok := fun _ => True) (okp := fun _ => True) rfl (fun _ hk => hk) trivial (of_decide_eq_true (by first | (with_reducible assumption) | assumption)) (Nat.le_trans (Nat.mul_le_mul_right _ (of_decide_eq_true (by first | (with_reducible assumption) | assumption) : a1.toNat ≤ 281474976710656)) (by omega)) (Below.refl _ _) (Nat.le_refl _) ?_; intro v114 w14 ho15 hb hg_ hnew_; clear hg_ hnew_; (first | rw [← Ny113.out] at ho15 | (simp only [Int.reduceToNat] at ho15; rw [← Ny113.out] at ho15)); have n0_ := Aside0.mk (Kd.S_elder' (by (with_reducible repeat (first | apply Kd.S_alloc | apply Kd.S_drewN | apply Kd.S_drew)); exact HO_5.out) (Kd.R_base ho15) hb); have n1_ := Aside0.mk (Kd.R_lower ho15 (below_size (by repeat (first | (with_reducible first | exact HB.out | apply below_alloc | apply pw_below_drewN | apply below_drew1) | exact HB.out)))); have n2_ := Aside0.mk (below_step (by repeat (first | (with_reducible first | exact HB.out | apply below_alloc | apply pw_below_drewN | apply below_drew1) | exact HB.out)) hb); clear HO_5; clear HB; have HO_5 := n0_; have HO115 := n1_; have HB := n2_; clear n0_ n1_ n2_; clear hb ho15; have p13 : 0 ≤ (x11_1 : Int) := of_decide_eq_true (by first | (with_reducible assumption) | assumption); have q13 : (x11_1 : Int) < ((x5_1.length : Int) : Int) := of_decide_eq_true (by first | (with_reducible assumption) | assumption); obtain ⟨go13, co13, eo13, gb13, gl13, cl13, HG13⟩ := Kd.S_form HO_5.out (by omega); (first | cases eo13 | (injection eo13 with ea_ en_ ec_; (first | subst ea_ | (injection ea_ with ea_; subst ea_)); subst ec_; clear en_)); have GB13 := Aside0.mk gb13; have GG13 := Aside0.mk HG13; clear gb13 gl13 HG13; obtain ⟨_, ce13, hcl13, hM13, hcc13, hfr13, _, _⟩ := Kd.S_elem HO_5.out [] (x11_1 : Int) p13 q13; obtain ⟨ve13_0, rfl, ge13_0⟩ := hM13; have hx13_0 := hcc13 0 _ rfl; have hf13_0 := hfr13 0; (try simp only [show ((Kd.slice 5 (Kd.int .u8))).sz = 1 from rfl, Nat.mul_one, Nat.add_zero] at hx13_0); (try simp only [show ((Kd.slice 5 (Kd.int .u8))).sz = 1 from rfl, Nat.mul_one, Nat.add_zero] at hf13_0); clear hcl13 hcc13 hfr13; (try clear hM13); replace p13 := eq_true p13; replace q13 := eq_true q13; have n_ := Aside0.mk (Kd.S_mono (ok' := (fun k_ => some k_ ≠ (v114 : Value).ownBlock)) HO_5.out (fun k_ hk => hk.2)); clear HO_5; have HO_5 := n_; clear n_; have HX16 := Aside0.mk (show Kd.S (Kd.slice 5 (Kd.int .u8)) 34 w14 w.heap.size (fun k_ => ((fun _ => True)) k_ ∧ ¬ ((fun k_ => some k_ = (v114 : Value).ownBlock)) k_) (.slice (some ⟨go13, 0, none⟩) x5_1.length co7) x5_1 from (by (with_reducible repeat (first | apply Kd.S_alloc | apply Kd.S_drewN | apply Kd.S_drew)); exact Kd.S_mono HO_5.out (fun k_ hk => ⟨trivial, fun e_ => hk e_⟩))); obtain ⟨oki16, ce16, hcl16, hM16, hcc16, hfr16, hoki16, hH16⟩ := Kd.S_elem HX16.out [] (x11_1 : Int) (of_decide_eq_true (by first | (with_reducible assumption) | assumption)) (by have h_ : (x11_1 : Int) < ((x5_1.length : Int) : Int) := of_decide_eq_true (by first | (with_reducible assumption) | assumption); first | exact h_ | (have e_ := (Kd.S_reads' HO_5.out).1; omega) | simpa using h_); obtain ⟨ve16_0, rfl, ge16_0⟩ := hM16; have HP16 := Kd.S_seg hH16 (of_decide_eq_true (by first | (with_reducible assumption) | assumption)) (by have h_ : (x11_1 : Int) < ((x5_1.length : Int) : Int) := of_decide_eq_true (by first | (with_reducible assumption) | assumption); first | exact h_ | (have e_ := (Kd.S_reads' HO_5.out).1; omega) | simpa using h_) (seg := [v114]) (j := 0) (show 1 ≤ 1 from by decide) (x' := y113) (Kd.M_row (Kd.R_mono (Kd.R_tight rfl (Kd.R_mono (ok' := fun k_ => ((fun _ => True)) k_ ∧ k_ ≠ go13) (Kd.R_apart' (HO115.out) (Kd.S_typed HO_5.out) (by decide)) (fun k_ hk => ⟨trivial, fun e_ => (hk.2) (by rw [e_]; rfl)⟩))) (fun _ h_ => Or.inr (h_)))) (fun _ hk => hk) (fun k_ hk_ => ((Kd.R_mono (ok' := fun k_ => ((fun _ => True)) k_ ∧ k_ ≠ go13) (Kd.R_apart' (HO115.out) (Kd.S_typed HO_5.out) (by decide)) (fun k_ hk => ⟨trivial, fun e_ => (hk.2) (by rw [e_]; rfl)⟩))).1 k_ hk_.symm); have hx16_0 := hcc16 0 _ rfl; (try simp only [show ((Kd.slice 5 (Kd.int .u8))).sz = 1 from rfl, Nat.mul_one, Nat.add_zero] at hx16_0); have hf16_0 := hfr16 0; (try simp only [show ((Kd.slice 5 (Kd.int .u8))).sz = 1 from rfl, Nat.mul_one, Nat.add_zero] at hf16_0); clear hcl16 hcc16 hfr16 hoki16 hH16; (try clear hM16); (try simp only [show ((Kd.slice 5 (Kd.int .u8))).sz = 1 from rfl, Nat.mul_one, Nat.add_zero] at HP16)) | ((with_reducible refine gate_store (t := 34) (p := 18) rfl ?_); refine store_event (t := 34) (p := 18) (v := ?vo_w17) (w1 := (w14.setCell ⟨go13, (x11_1 : Int).toNat, none⟩ (v114))) ?hg ?ho ?hn ?hr ?_; (case ho => rfl); (case hg => rfl); (case hn => rfl); (case hr => first | (go_simp; done) | (go_simp; rfl) | (obtain ⟨A_, c_, e_⟩ : ∃ A_ c_, v114 = .slice A_ _ c_ := Kd.R_slice (Aside0.out (by assumption)); rw [e_]; go_simp; done) | (obtain ⟨A_, c_, e_⟩ : ∃ A_ c_, v114 = .slice A_ _ c_ := Kd.R_slice (Aside0.out (by assumption)); rw [e_]; go_simp; rfl)); intro w17 hw; have hg : w14.grownBy w17 (some go13) := (by rw [hw]; exact HP16.2); have hp_ : Kd.S (Kd.slice 5 (Kd.int .u8)) 34 w17 w.heap.size (fun _ => True) (.slice (some ⟨go13, 0, none⟩) x5_1.length co7) y116 := (by rw [hw, Ny116.out]; exact HP16.1); clear HP16; have n0_ := Aside0.mk (hp_); have n1_ := Aside0.mk ((by rw [hw]; exact below_set (HB.out) GB13.out : Below w.heap.size w w17)); clear HO_5; clear HB; clear HO115; have HO_5 := n0_; have HB := n1_; clear n0_ n1_; clear hg hw hp_))
                    (try simp only [← hl5_1])
                    go_roundg k1
                    case measure => have := HK1.out; omega
                    case rel => exact ⟨(y116), (wrap64 (x11_1 + 1)), (by first | rfl | (simp; done) | (simp [*]; done)), H', ⟨by have := HK1.out; omega⟩, ⟨by (try simp only [hl5_1]); (with_reducible repeat (first | apply Kd.S_alloc | apply Kd.S_drewN | apply Kd.S_drew)); exact HO_5.out⟩, ⟨by repeat (first | (with_reducible first | exact HB.out | apply below_alloc | apply pw_below_drewN | apply below_drew1) | exact HB.out)⟩⟩
                  · rw [if_neg c12] at H
                    exact absurd H (by simp)
                · rw [if_neg c11] at H
                  exact absurd H (by simp)
              · rw [if_neg c10] at H
                exact absurd H (by simp)
            · rw [if_neg c9] at H
              exact absurd H (by simp)
          · rw [if_neg c8] at H
            have c8b0 : decide (x11_1 < (y110.length : Int)) = false := decide_eq_false c8
            (try (have c8b0x := c8b0; rw [hl5_1] at c8b0x))
            clear c8
            obtain rfl := Option.some.inj H
            go_wp2
            go_ret
            exact ⟨_, by first | rfl | (simp [errW_none, errW_some] <;> rfl) | (simp [*, errW_none, errW_some] <;> rfl), by (with_reducible repeat (first | apply Kd.S_alloc | apply Kd.S_drewN | apply Kd.S_drew)); exact HO_5.out, by repeat (first | (with_reducible first | exact HB.out | apply below_alloc | apply pw_below_drewN | apply below_drew1) | exact HB.out)⟩
    · rw [if_neg c4] at H
      exact absurd H (by simp)
  · rw [if_neg c3] at H
    exact absurd H (by simp)
/-! ### matrix_columns: function 56 -/
def matrix_columns.f (l0 : List (List Int)) : Option (Int) := if (l0.length : Int) = 0 then (some 0) else (if 0 < (l0.length : Int) then (some ((rd_L1 l0 0).length : Int)) else (none))
set_option maxHeartbeats 8000000 in
set_option maxRecDepth 100000 in
theorem matrix_columns.calls (A0 : Option Addr) (c0 : Nat) (l0 : List (List Int)) (r : Int) (w : World) (hr0 : Kd.C (Kd.slice 5 (Kd.int .u8)) w A0 l0.length l0) (hc0 : l0.length ≤ c0) (h : matrix_columns.f l0 = some r) :
    Calls Try.prog 56 #[.slice A0 l0.length c0] w fun e w' => e = .returned (.int .i64 r) ∧ Drawn0 w w' := by
  have HR0 := Aside0.mk hr0
  have HC0 := Aside0.mk hc0
  clear hr0 hc0
  have H : (if (l0.length : Int) = 0 then (some 0) else (if 0 < (l0.length : Int) then (some ((rd_L1 l0 0).length : Int)) else (none))) = some r := h
  clear h
  by_cases c2 : (l0.length : Int) = 0
  · rw [if_pos c2] at H
    have c2b0 : ((l0.length : Int) == 0) = true := beq_iff_eq.mpr c2
    have c2b1 : ((l0.length : Int) != 0) = false := bne_eq_false_iff_eq.mpr c2
    clear c2
    obtain rfl := Option.some.inj H
    go_enter Try.func56, Try.ntmps56
    go_wp2
    go_ret
    exact ⟨by first | rfl | (simp; done) | (simp [*]; done), by repeat (first | exact Drawn0.refl _ | apply Drawn0.step)⟩
  · rw [if_neg c2] at H
    have c2b0 : ((l0.length : Int) == 0) = false := beq_eq_false_iff_ne.mpr c2
    have c2b1 : ((l0.length : Int) != 0) = true := bne_iff_ne.mpr c2
    have c2b2 : ¬ (l0 = []) := fun h_ => c2 (by rw [h_]; rfl)
    by_cases c3 : 0 < (l0.length : Int)
    · rw [if_pos c3] at H
      have c3b0 : decide (0 < (l0.length : Int)) = true := decide_eq_true c3
      have c3b1 : decide (0 < l0.length) = true := decide_eq_true (by omega)
      clear c3
      obtain rfl := Option.some.inj H
      have p117 : 0 ≤ (0 : Int) := (by omega)
      have q117 : 0 < (l0.length : Int) := of_decide_eq_true (by first | (with_reducible assumption) | assumption)
      obtain ⟨ad117, A117_0, c117_0, e117, hx117_0, hl117_0, hi117_0⟩ := at_L1 HR0.out 0 p117 q117
      cases e117
      have qi117 : (0 < l0.length) = True := eq_true (by omega)
      (try rw [show ((0 : Int)).toNat = 0 from rfl] at hx117_0)
      (try rw [Addr.add_zero'] at hx117_0)
      have HR117_0 := Aside0.mk hi117_0
      have HC117_0 := Aside0.mk hl117_0
      clear hi117_0 hl117_0
      replace p117 := eq_true p117
      replace q117 := eq_true q117
      go_enter Try.func56, Try.ntmps56
      go_wp2
      go_ret
      exact ⟨by first | rfl | (simp; done) | (simp [*]; done), by repeat (first | exact Drawn0.refl _ | apply Drawn0.step)⟩
    · rw [if_neg c3] at H
      exact absurd H (by simp)
/-! ### matrix_size: function 57 -/
def matrix_size.f (a0 : Int) : Option (Bool) := if a0 ≥ 0 then (some (decide (a0 ≤ 64))) else (some false)
set_option maxHeartbeats 8000000 in
set_option maxRecDepth 100000 in
theorem matrix_size.calls (a0 : Int) (r : Bool) (w : World) (h : matrix_size.f a0 = some r) :
    Calls Try.prog 57 #[.int .i64 a0] w fun e w' => e = .returned (.bool r) ∧ Drawn0 w w' := by
  have H : (if a0 ≥ 0 then (some (decide (a0 ≤ 64))) else (some false)) = some r := h
  clear h
  by_cases c2 : a0 ≥ 0
  · rw [if_pos c2] at H
    have c2b0 : decide (0 ≤ a0) = true := decide_eq_true c2
    clear c2
    obtain rfl := Option.some.inj H
    go_enter Try.func57, Try.ntmps57
    go_wp2
    go_ret
    exact ⟨by first | rfl | (simp; done) | (simp [*]; done), by repeat (first | exact Drawn0.refl _ | apply Drawn0.step)⟩
  · rw [if_neg c2] at H
    have c2b0 : decide (0 ≤ a0) = false := decide_eq_false c2
    clear c2
    obtain rfl := Option.some.inj H
    go_enter Try.func57, Try.ntmps57
    go_wp2
    go_ret
    exact ⟨by first | rfl | (simp; done) | (simp [*]; done), by repeat (first | exact Drawn0.refl _ | apply Drawn0.step)⟩
/-! ### matrix_Identity: function 48 -/
def matrix_Identity.l0 : Nat → List (List Int) → Int → Int → Option ((List (List Int)))
  | 0, _, _, _ => none
  | k + 1, x3, x12, x13 => if x13 < x12 then (if 0 ≤ x13 then (if x13 < (x3.length : Int) then (if x13 < ((rd_L1 x3 x13).length : Int) then (matrix_Identity.l0 k (x3.set (x13 : Int).toNat ((rd_L1 x3 x13).set (x13 : Int).toNat 1)) x12 (wrap64 (x13 + 1))) else (none)) else (none)) else (none)) else (some x3)
def matrix_Identity.f (k : Nat) (a0 : Int) : Option ((List (List Int))) := (matrix_size.f a0).bind fun t118 => (if t118 = true then ((matrix_zero.f k a0 a0).bind fun t119 => (matrix_Identity.l0 k t119 (t119.length : Int) 0)) else (some ([] : List (List Int))))
set_option maxHeartbeats 8000000 in
set_option maxRecDepth 100000 in
theorem matrix_Identity.calls (k : Nat) (a0 : Int) (r : List (List Int)) (w : World) (h : matrix_Identity.f k a0 = some r) :
    Calls Try.prog 48 #[.int .i64 a0] w fun e w' => ∃ v0_ : Value, e = .returned (v0_) ∧ Kd.S (Kd.slice 5 (Kd.int .u8)) 34 w' w.heap.size (fun _ => True) v0_ r ∧ Below w.heap.size w w' := by
  have HB := Aside0.mk (Below.refl w.heap.size w)
  have H : ((matrix_size.f a0).bind fun t118 => (if t118 = true then ((matrix_zero.f k a0 a0).bind fun t119 => (matrix_Identity.l0 k t119 (t119.length : Int) 0)) else (some ([] : List (List Int))))) = some r := h
  clear h
  replace H := Option.bind_eq_some_iff.mp H
  obtain ⟨t118, A20, H⟩ := H
  replace H : (if t118 = true then ((matrix_zero.f k a0 a0).bind fun t119 => (matrix_Identity.l0 k t119 (t119.length : Int) 0)) else (some ([] : List (List Int)))) = some r := H
  have A2 := Aside0.mk A20
  clear A20
  by_cases c3 : t118 = true
  · subst c3
    have H1 : ((matrix_zero.f k a0 a0).bind fun t119 => (matrix_Identity.l0 k t119 (t119.length : Int) 0)) = some r := by rw [if_pos rfl] at H; exact H
    clear H
    have H := H1
    clear H1
    replace H := Option.bind_eq_some_iff.mp H
    obtain ⟨t119, A40, H⟩ := H
    replace H : (matrix_Identity.l0 k t119 (t119.length : Int) 0) = some r := H
    have A4 := Aside0.mk A40
    clear A40
    have H' := Aside0.mk H
    clear H
    go_enter Try.func48, Try.ntmps48
    go_wp2_with (first | ((with_reducible refine gate_callee (f := 57) rfl ?_); refine goesL_ (some 6) rfl rfl Try.func57 (by kernel_rfl) rfl #[.int .i64 a0] rfl (by (try simp only [List.map_toArray, List.map_cons, List.map_nil]); first | done | rfl | (simp only [List.length_drop, List.length_take]; rfl)) ?_; (with_reducible refine (matrix_size.calls a0 true _ A2.out).mono ?_); rintro e w' ⟨rfl, ⟨nd, rfl⟩⟩; refine ⟨_, rfl, ?_⟩) | ((with_reducible refine gate_callee (f := 64) rfl ?_); refine goesL_ (some 10) rfl rfl Try.func64 (by kernel_rfl) rfl #[.int .i64 a0, .int .i64 a0] rfl (by (try simp only [List.map_toArray, List.map_cons, List.map_nil]); first | done | rfl | (simp only [List.length_drop, List.length_take]; rfl)) ?_; (with_reducible refine (matrix_zero.calls k a0 a0 t119 _ A4.out).mono ?_); rintro e w5 ⟨v120, rfl, ho0, hb⟩; refine ⟨_, rfl, ?_⟩; have n0_ := Aside0.mk (Kd.S_lower ho0 (below_size (by repeat (first | (with_reducible first | exact HB.out | apply below_alloc | apply pw_below_drewN | apply below_drew1) | exact HB.out)))); have n1_ := Aside0.mk (below_step (by repeat (first | (with_reducible first | exact HB.out | apply below_alloc | apply pw_below_drewN | apply below_drew1) | exact HB.out)) hb); clear HB; have HO121 := n0_; have HB := n1_; clear n0_ n1_; (try clear hb); (try clear hb2); (try clear hk); (try clear hi); (try clear ho0); obtain ⟨Ao6, co6, eo6⟩ := Kd.S_slice HO121.out; subst eo6))
    go_loopg [13] k (fun kq v13 w' => ∃ (x3_1 : List (List Int)) (x13_1 : Int), v13 = .int .i64 x13_1 ∧ Aside0 (matrix_Identity.l0 kq x3_1 (t119.length : Int) x13_1 = some r) ∧ Aside0 (kq ≤ k) ∧ Aside0 (Kd.S (Kd.slice 5 (Kd.int .u8)) 34 w' w.heap.size (fun _ => True) (.slice Ao6 t119.length co6) x3_1) ∧ Aside0 (Below w.heap.size w w'))
    case atStart => exact ⟨(t119), (0), (by first | rfl | (simp; done) | (simp [*]; done)), H', ⟨Nat.le_refl _⟩, ⟨by (with_reducible repeat (first | apply Kd.S_alloc | apply Kd.S_drewN | apply Kd.S_drew)); exact HO121.out⟩, ⟨by repeat (first | (with_reducible first | exact HB.out | apply below_alloc | apply pw_below_drewN | apply below_drew1) | exact HB.out)⟩⟩
    case round =>
      clear H'
      try clear p2
      try clear c3
      try clear c4
      try clear c5
      try clear c6
      obtain ⟨x3_1, x13_1, rfl, HA, HK1, HO_3, HB⟩ := hrel
      have hl3_1 := (Kd.S_reads' HO_3.out).1
      rw [hl3_1] at HO_3
      (try simp only [hl3_1])
      cases gk with
      | zero => exact absurd HA.out (by simp [matrix_Identity.l0])
      | succ k1 =>
        have H := HA.out
        clear HA
        simp only [matrix_Identity.l0] at H
        by_cases c7 : x13_1 < (t119.length : Int)
        · rw [if_pos c7] at H
          have c7b0 : decide (x13_1 < (t119.length : Int)) = true := decide_eq_true c7
          (try (have c7b0x := c7b0; rw [hl3_1] at c7b0x))
          clear c7
          by_cases c8 : 0 ≤ x13_1
          · rw [if_pos c8] at H
            have c8b0 : decide (0 ≤ x13_1) = true := decide_eq_true c8
            (try (have c8b0x := c8b0; rw [hl3_1] at c8b0x))
            clear c8
            by_cases c9 : x13_1 < (x3_1.length : Int)
            · rw [if_pos c9] at H
              have c9b0 : decide (x13_1 < (x3_1.length : Int)) = true := decide_eq_true c9
              (try (have c9b0x := c9b0; rw [hl3_1] at c9b0x))
              clear c9
              by_cases c10 : x13_1 < ((rd_L1 x3_1 x13_1).length : Int)
              · rw [if_pos c10] at H
                have c10b0 : decide (x13_1 < ((rd_L1 x3_1 x13_1).length : Int)) = true := decide_eq_true c10
                (try (have c10b0x := c10b0; rw [hl3_1] at c10b0x))
                clear c10
                obtain ⟨y123, hy123⟩ : ∃ y_ : List Int, y_ = ((rd_L1 x3_1 x13_1).set (x13_1 : Int).toNat 1) := ⟨_, rfl⟩
                replace H : (matrix_Identity.l0 k1 (x3_1.set (x13_1 : Int).toNat y123) (t119.length : Int) (wrap64 (x13_1 + 1))) = some r := by first | (rw [hy123]; with_reducible exact H) | (have H2_ := (Option.bind_some _ _).symm.trans H; rw [hy123]; with_reducible exact H2_) | (have H2_ := (Option.bind_some _ _).symm.trans H; with_reducible exact H2_) | with_reducible exact H | (rw [hy123]; exact H) | exact H
                have Ny123 := Aside0.mk hy123
                clear hy123
                obtain ⟨y125, hy125⟩ : ∃ y_ : List (List Int), y_ = (x3_1.set (x13_1 : Int).toNat y123) := ⟨_, rfl⟩
                replace H : (matrix_Identity.l0 k1 y125 (t119.length : Int) (wrap64 (x13_1 + 1))) = some r := by first | (rw [hy125]; with_reducible exact H) | (have H2_ := (Option.bind_some _ _).symm.trans H; rw [hy125]; with_reducible exact H2_) | (have H2_ := (Option.bind_some _ _).symm.trans H; with_reducible exact H2_) | with_reducible exact H | (rw [hy125]; exact H) | exact H
                have Ny125 := Aside0.mk hy125
                clear hy125
                have H' := Aside0.mk H
                clear H
                have p122 : 0 ≤ (x13_1 : Int) := of_decide_eq_true (by first | (with_reducible assumption) | assumption)
                have q122 : x13_1 < (x3_1.length : Int) := of_decide_eq_true (by first | (with_reducible assumption) | assumption)
                obtain ⟨ad122, A122_0, c122_0, e122, hx122_0, hl122_0, hi122_0⟩ := at_L1 (Kd.S_reads' HO_3.out).2.2 x13_1 p122 q122
                cases e122
                obtain ⟨ce122, hce122, hMe122, hcc122⟩ := Kd.S_get HO_3.out [] x13_1 p122 (by first | exact q122 | exact of_decide_eq_true (by first | (with_reducible assumption) | assumption) | (have e_ := (Kd.S_reads' HO_3.out).1; omega))
                obtain ⟨ve122_0, rfl, ge122_0⟩ := hMe122
                have hv122_0 := hcc122 0 _ rfl
                rw [Nat.add_zero, show ((Kd.slice 5 (Kd.int .u8))).sz = 1 from rfl, Nat.mul_one] at hv122_0
                replace hv122_0 := Option.some.inj (hv122_0.symm.trans hx122_0)
                rw [hv122_0] at ge122_0
                have HL122_0 := Aside0.mk (show Kd.R (Kd.int .u8) 5 _ _ _ _ (rd_L1 x3_1 x13_1) from ge122_0)
                clear hv122_0 ge122_0
                have HX122_0 := Aside0.mk hx122_0
                clear hcc122 hce122
                have HR122_0 := Aside0.mk hi122_0
                have HC122_0 := Aside0.mk hl122_0
                clear hi122_0 hl122_0
                replace p122 := eq_true p122
                replace q122 := eq_true q122
                have p11 : 0 ≤ (x13_1 : Int) := of_decide_eq_true (by first | (with_reducible assumption) | assumption)
                have q11 : (x13_1 : Int) < (((rd_L1 x3_1 x13_1).length : Int) : Int) := of_decide_eq_true (by first | (with_reducible assumption) | assumption)
                obtain ⟨go11, co11, eo11, gb11, gl11, cl11, HG11⟩ := Kd.R_form HL122_0.out (by omega)
                (first | cases eo11 | (injection eo11 with ea_ en_ ec_; (first | subst ea_ | (injection ea_ with ea_; subst ea_)); subst ec_; clear en_))
                have GB11 := Aside0.mk gb11
                have GG11 := Aside0.mk HG11
                clear gb11 gl11 HG11
                obtain ⟨hx11_0, hf11_0⟩ := Kd.R_celln 0 HL122_0.out (x13_1 : Int) p11 q11
                replace p11 := eq_true p11
                replace q11 := eq_true q11
                have hq12 : (x13_1 : Int) < (x3_1.length : Int) := (by have h_ : (x13_1 : Int) < ((x3_1.length : Int) : Int) := of_decide_eq_true (by first | (with_reducible assumption) | assumption); first | exact h_ | (have e_ := (Kd.S_reads' HO_3.out).1; omega) | simpa only [List.length_set, List.length_set] using h_)
                obtain ⟨oki12, ce12, hcl12, hM12, hcc12, hok12, hbk12⟩ := Kd.S_borrow HO_3.out [] (x13_1 : Int) (of_decide_eq_true (by first | (with_reducible assumption) | assumption)) hq12
                obtain ⟨ve12_0, rfl, ge12_0⟩ := hM12
                have hv12 := hcc12 0 _ rfl
                rw [Nat.add_zero, show ((Kd.slice 5 (Kd.int .u8))).sz = 1 from rfl, Nat.mul_one] at hv12
                replace hv12 := Option.some.inj (hv12.symm.trans HX122_0.out)
                subst hv12
                clear hcc12 hcl12
                replace ge12_0 := (show Kd.R (Kd.int .u8) 5 _ _ _ _ (rd_L1 x3_1 x13_1) from ge12_0)
                have HP12 := Kd.R_putg ge12_0 (x13_1 : Int) 1
                go_wp2_with (first | ((with_reducible refine gate_store (t := 5) (p := 21) rfl ?_); refine store_event (t := 5) (p := 21) (v := ?vo_w13) (w1 := (wr.setCell ⟨go11, (x13_1 : Int).toNat, none⟩ (.int .u8 1))) ?hg ?ho ?hn ?hr ?_; (case ho => rfl); (case hg => rfl); (case hn => rfl); (case hr => first | (go_simp; done) | (go_simp; rfl)); intro w13 hw; have hg : wr.grownBy w13 (some go11) := (by rw [hw]; exact HP12.2); have hz_ : Kd.R (Kd.int .u8) 5 w13 w.heap.size oki12 (.slice (some ⟨go11, 0, none⟩) (rd_L1 x3_1 x13_1).length c122_0) y123 := (by rw [hw, Ny123.out]; exact HP12.1); have hp_ : Kd.S (Kd.slice 5 (Kd.int .u8)) 34 w13 w.heap.size (fun _ => True) (.slice (some ad122) x3_1.length co6) y125 := (by rw [Ny125.out]; exact hbk12 hg (fun k_ e_ => by injection e_ with e_; subst e_; exact ge12_0.1 _ rfl) (Kd.M_row hz_)); have hm_ := Kd.R_mono hz_ hok12; clear HP12 hbk12; have n0_ := Aside0.mk (hp_); have n1_ := Aside0.mk ((by rw [hw]; exact below_set (HB.out) GB11.out : Below w.heap.size w w13)); have n2_ := Aside0.mk (hm_); have n3_ := Aside0.mk ((Kd.R_reads' hm_).2.1); clear HO_3; clear HB; clear HL122_0; have HO_3 := n0_; have HB := n1_; have HL126 := n2_; have HC124 := n3_; clear n0_ n1_ n2_ n3_; clear hg hw hp_ hz_ hm_ hok12))
                (try simp only [← hl3_1])
                go_roundg k1
                case measure => have := HK1.out; omega
                case rel => exact ⟨(y125), (wrap64 (x13_1 + 1)), (by first | rfl | (simp; done) | (simp [*]; done)), H', ⟨by have := HK1.out; omega⟩, ⟨by (try simp only [hl3_1]); (with_reducible repeat (first | apply Kd.S_alloc | apply Kd.S_drewN | apply Kd.S_drew)); exact HO_3.out⟩, ⟨by repeat (first | (with_reducible first | exact HB.out | apply below_alloc | apply pw_below_drewN | apply below_drew1) | exact HB.out)⟩⟩
              · rw [if_neg c10] at H
                exact absurd H (by simp)
            · rw [if_neg c9] at H
              exact absurd H (by simp)
          · rw [if_neg c8] at H
            exact absurd H (by simp)
        · rw [if_neg c7] at H
          have c7b0 : decide (x13_1 < (t119.length : Int)) = false := decide_eq_false c7
          (try (have c7b0x := c7b0; rw [hl3_1] at c7b0x))
          clear c7
          obtain rfl := Option.some.inj H
          go_wp2
          go_ret
          exact ⟨_, by first | rfl | (simp [errW_none, errW_some] <;> rfl) | (simp [*, errW_none, errW_some] <;> rfl), by (with_reducible repeat (first | apply Kd.S_alloc | apply Kd.S_drewN | apply Kd.S_drew)); exact HO_3.out, by repeat (first | (with_reducible first | exact HB.out | apply below_alloc | apply pw_below_drewN | apply below_drew1) | exact HB.out)⟩
  · replace c3 := Bool.eq_false_iff.mpr c3
    subst c3
    have H1 : (some ([] : List (List Int))) = some r := by rw [if_neg (show ¬ (false = true) by decide)] at H; exact H
    clear H
    have H := H1
    clear H1
    obtain rfl := Option.some.inj H
    go_enter Try.func48, Try.ntmps48
    go_wp2_with (first | ((with_reducible refine gate_callee (f := 57) rfl ?_); refine goesL_ (some 6) rfl rfl Try.func57 (by kernel_rfl) rfl #[.int .i64 a0] rfl (by (try simp only [List.map_toArray, List.map_cons, List.map_nil]); first | done | rfl | (simp only [List.length_drop, List.length_take]; rfl)) ?_; (with_reducible refine (matrix_size.calls a0 false _ A2.out).mono ?_); rintro e w' ⟨rfl, ⟨nd, rfl⟩⟩; refine ⟨_, rfl, ?_⟩))
    go_ret
    exact ⟨_, by first | rfl | (simp [errW_none, errW_some] <;> rfl) | (simp [*, errW_none, errW_some] <;> rfl), by first | exact Kd.S_nil _ _ _ _ _ | exact Kd.N_nil _ _ _ _ _ | exact Kd.V_nil _ _ _ _ _ | exact Kd.Q_nil _ _ _ _ _ | exact Kd.R_nil _ _ _ _ _, by repeat (first | (with_reducible first | exact HB.out | apply below_alloc | apply pw_below_drewN | apply below_drew1) | exact HB.out)⟩
end Go.Proofs.Ytpkghpljgjlmjaa.K
/- The field of 256 elements on bytes: the product bit by bit, its laws, inverses. No program in sight. -/
namespace Kin
set_option linter.unusedSimpArgs false
set_option linter.unusedVariables false

abbrev B := UInt8
/-- 2 times a. -/
def gdbl (a : B) : B := if 128 ≤ a then (a <<< 1) ^^^ 0x1d else a <<< 1
def gbit (b : B) (i : Nat) : Bool := b.toNat.testBit i
/-- The part of a product that the bits of b from i on give, a already doubled i times; n of them. -/
def gmulFrom : Nat → Nat → B → B → B
  | 0, _, _, _ => 0
  | n + 1, i, a, b => (if gbit b i then a else 0) ^^^ gmulFrom n (i + 1) (gdbl a) b
def gmul (a b : B) : B := gmulFrom 8 0 a b
theorem bx_comm (a b : B) : a ^^^ b = b ^^^ a := UInt8.xor_comm a b
theorem bx_assoc (a b c : B) : a ^^^ b ^^^ c = a ^^^ (b ^^^ c) := UInt8.xor_assoc a b c
theorem bx_zero (a : B) : a ^^^ 0 = a := UInt8.xor_zero
theorem zero_bx (a : B) : 0 ^^^ a = a := UInt8.zero_xor
theorem bx_self (a : B) : a ^^^ a = 0 := UInt8.xor_self
theorem bx_left_comm (a b c : B) : a ^^^ (b ^^^ c) = b ^^^ (a ^^^ c) := by rw [← bx_assoc, bx_comm a b, bx_assoc]
theorem bx_cancel_left (a b : B) : a ^^^ (a ^^^ b) = b := by rw [← bx_assoc, bx_self, zero_bx]
theorem bx_cancel_right (a b : B) : a ^^^ b ^^^ b = a := by rw [bx_assoc, bx_self, bx_zero]
theorem bx_eq_zero {a b : B} : a ^^^ b = 0 ↔ a = b := by
  constructor
  · intro h
    have : a ^^^ b ^^^ b = 0 ^^^ b := by rw [h]
    rwa [bx_cancel_right, zero_bx] at this
  · rintro rfl
    exact bx_self a
theorem bx_swap4 (a b c d : B) : (a ^^^ b) ^^^ (c ^^^ d) = (a ^^^ c) ^^^ (b ^^^ d) := by
  rw [bx_assoc, bx_assoc, bx_left_comm b c d]
theorem all_bytes {p : B → Prop} [DecidablePred p] (h : ∀ n : Fin 256, p (UInt8.ofNat n.val)) : ∀ a, p a := by
  intro a
  have := h ⟨a.toNat, a.toNat_lt⟩
  simpa using this
/-- A function that keeps sums. -/
def Additive (f : B → B) : Prop := ∀ a b, f (a ^^^ b) = f a ^^^ f b
theorem Additive.zero {f : B → B} (h : Additive f) : f 0 = 0 := by
  have := h 0 0
  rw [bx_self] at this
  rw [this, bx_self]
theorem byte_bits : ∀ a : B, a = (if gbit a 0 then 1 else 0) ^^^ ((if gbit a 1 then 2 else 0) ^^^ ((if gbit a 2 then 4 else 0) ^^^ ((if gbit a 3 then 8 else 0) ^^^ ((if gbit a 4 then 16 else 0) ^^^ ((if gbit a 5 then 32 else 0) ^^^ ((if gbit a 6 then 64 else 0) ^^^ (if gbit a 7 then 128 else 0))))))) :=
  all_bytes (by decide +kernel)
theorem Additive.ite {f : B → B} (h : Additive f) (c : Bool) (x : B) : f (if c then x else 0) = if c then f x else 0 := by
  cases c
  · exact h.zero
  · rfl
theorem Additive.ext {f g : B → B} (hf : Additive f) (hg : Additive g) (h : ∀ i : Fin 8, f (1 <<< UInt8.ofNat i.val) = g (1 <<< UInt8.ofNat i.val)) : ∀ a, f a = g a := by
  intro a
  have h0 : f 1 = g 1 := h 0
  have h1 : f 2 = g 2 := h 1
  have h2 : f 4 = g 4 := h 2
  have h3 : f 8 = g 8 := h 3
  have h4 : f 16 = g 16 := h 4
  have h5 : f 32 = g 32 := h 5
  have h6 : f 64 = g 64 := h 6
  have h7 : f 128 = g 128 := h 7
  rw [byte_bits a]
  simp only [hf _ _, hg _ _, hf.ite, hg.ite, h0, h1, h2, h3, h4, h5, h6, h7]
theorem gbit_xor (a b : B) (i : Nat) : gbit (a ^^^ b) i = (gbit a i ^^ gbit b i) := by
  simp [gbit, UInt8.toNat_xor, Nat.testBit_xor]
theorem ite_xor (x y : Bool) (a : B) : (if (x ^^ y) then a else 0) = (if x then a else 0) ^^^ (if y then a else 0) := by
  cases x <;> cases y <;> simp
theorem gmulFrom_add_right (n : Nat) : ∀ (i : Nat) (a b c : B), gmulFrom n i a (b ^^^ c) = gmulFrom n i a b ^^^ gmulFrom n i a c := by
  induction n with
  | zero => intro i a b c; simp [gmulFrom]
  | succ n ih =>
    intro i a b c
    simp only [gmulFrom, ih, gbit_xor, ite_xor]
    rw [bx_swap4]
theorem gmul_add_right (a b c : B) : gmul a (b ^^^ c) = gmul a b ^^^ gmul a c := gmulFrom_add_right 8 0 a b c
theorem gdbl_eq (a : B) : gdbl a = (a <<< 1) ^^^ (if gbit a 7 then 0x1d else 0) := by
  revert a
  exact all_bytes (by decide +kernel)
theorem shl_xor (a b : B) : (a ^^^ b) <<< 1 = (a <<< 1) ^^^ (b <<< 1) := by
  exact UInt8.shiftLeft_xor
theorem gdbl_additive : Additive gdbl := by
  intro a b
  rw [gdbl_eq, gdbl_eq, gdbl_eq, gbit_xor, ite_xor, shl_xor, bx_swap4]
theorem gmulFrom_add_left (n : Nat) : ∀ (i : Nat) (a a' b : B), gmulFrom n i (a ^^^ a') b = gmulFrom n i a b ^^^ gmulFrom n i a' b := by
  induction n with
  | zero => intro i a b c; simp [gmulFrom]
  | succ n ih =>
    intro i a a' b
    have e : (if gbit b i then a ^^^ a' else 0) = (if gbit b i then a else 0) ^^^ (if gbit b i then a' else 0) := by
      cases gbit b i <;> simp
    simp only [gmulFrom, gdbl_additive a a', ih, e]
    rw [bx_swap4]
theorem gmul_add_left (a b c : B) : gmul (a ^^^ b) c = gmul a c ^^^ gmul b c := gmulFrom_add_left 8 0 a b c
theorem gmul_zero (a : B) : gmul a 0 = 0 := Additive.zero (f := fun b => gmul a b) (gmul_add_right a)
theorem zero_gmul (a : B) : gmul 0 a = 0 := Additive.zero (f := fun b => gmul b a) (fun x y => gmul_add_left x y a)
theorem gmul_one : ∀ a : B, gmul a 1 = a := all_bytes (by decide +kernel)
theorem gmul_comm (a b : B) : gmul a b = gmul b a := by
  revert b
  refine Additive.ext (f := fun b => gmul a b) (g := fun b => gmul b a) (gmul_add_right a) (fun x y => gmul_add_left x y a) ?_
  intro j
  revert a
  refine Additive.ext (f := fun a => gmul a (1 <<< UInt8.ofNat j.val)) (g := fun a => gmul (1 <<< UInt8.ofNat j.val) a) (fun x y => gmul_add_left x y _) (gmul_add_right _) ?_
  intro i
  revert i j
  decide +kernel
theorem one_gmul (a : B) : gmul 1 a = a := by rw [gmul_comm, gmul_one]
theorem gmul_assoc (a b c : B) : gmul (gmul a b) c = gmul a (gmul b c) := by
  revert c
  refine Additive.ext (f := fun c => gmul (gmul a b) c) (g := fun c => gmul a (gmul b c)) (gmul_add_right _) (fun x y => by simp only [gmul_add_right]) ?_
  intro k
  revert b
  refine Additive.ext (f := fun b => gmul (gmul a b) (1 <<< UInt8.ofNat k.val)) (g := fun b => gmul a (gmul b (1 <<< UInt8.ofNat k.val))) (fun x y => by simp only [gmul_add_right, gmul_add_left]) (fun x y => by simp only [gmul_add_right, gmul_add_left]) ?_
  intro j
  revert a
  refine Additive.ext (f := fun a => gmul (gmul a (1 <<< UInt8.ofNat j.val)) (1 <<< UInt8.ofNat k.val)) (g := fun a => gmul a (gmul (1 <<< UInt8.ofNat j.val) (1 <<< UInt8.ofNat k.val))) (fun x y => by simp only [gmul_add_left]) (fun x y => by simp only [gmul_add_left]) ?_
  intro i
  revert i j k
  decide +kernel
theorem gmul_left_comm (a b c : B) : gmul a (gmul b c) = gmul b (gmul a c) := by rw [← gmul_assoc, gmul_comm a b, gmul_assoc]
/-- Powers by squaring: the bits of n from the lowest on; f of them. -/
def graise : Nat → B → B → Nat → B
  | 0, out, _, _ => out
  | f + 1, out, a, n => if n = 0 then out else graise f (if n % 2 = 1 then gmul out a else out) (gmul a a) (n / 2)
def gpow (a : B) : Nat → B
  | 0 => 1
  | n + 1 => gmul (gpow a n) a
def ginv (a : B) : B := graise 8 1 a 254
theorem ginv_zero : ginv 0 = 0 := by decide +kernel
theorem gmul_ginv : ∀ a : B, a ≠ 0 → gmul a (ginv a) = 1 := all_bytes (by decide +kernel)
theorem ginv_gmul (a : B) (h : a ≠ 0) : gmul (ginv a) a = 1 := by rw [gmul_comm, gmul_ginv a h]
theorem gmul_eq_zero {a b : B} : gmul a b = 0 ↔ a = 0 ∨ b = 0 := by
  constructor
  · intro h
    by_cases ha : a = 0
    · exact .inl ha
    · right
      have : gmul (ginv a) (gmul a b) = gmul (ginv a) 0 := by rw [h]
      rwa [← gmul_assoc, ginv_gmul a ha, one_gmul, gmul_zero] at this
  · rintro (rfl | rfl)
    · exact zero_gmul b
    · exact gmul_zero a
theorem gmul_ne_zero {a b : B} (ha : a ≠ 0) (hb : b ≠ 0) : gmul a b ≠ 0 := fun h => (gmul_eq_zero.1 h).elim ha hb
theorem ginv_ne_zero {a : B} (h : a ≠ 0) : ginv a ≠ 0 := by
  intro e
  have := gmul_ginv a h
  rw [e, gmul_zero] at this
  exact absurd this (by decide)
theorem gpow_add (a : B) (m n : Nat) : gpow a (m + n) = gmul (gpow a m) (gpow a n) := by
  induction n with
  | zero => rw [Nat.add_zero, gpow, gmul_one]
  | succ n ih => rw [← Nat.add_assoc, gpow, ih, gpow, gmul_assoc]
theorem gpow_sq (a : B) (n : Nat) : gpow (gmul a a) n = gpow a (2 * n) := by
  induction n with
  | zero => rfl
  | succ n ih => rw [gpow, ih, Nat.mul_succ, gpow_add a (2 * n) 2]; simp only [gpow, one_gmul]
theorem graise_eq (f : Nat) : ∀ (out a : B) (n : Nat), n < 2 ^ f → graise f out a n = gmul out (gpow a n) := by
  induction f with
  | zero => intro out a n h; obtain rfl : n = 0 := by omega
            rw [graise, gpow, gmul_one]
  | succ f ih =>
    intro out a n h
    rw [graise]
    split
    · next h0 => subst h0; rw [gpow, gmul_one]
    · rw [ih _ _ _ (by rw [Nat.pow_succ] at h; omega), gpow_sq]
      split
      · next h1 =>
        have : n = 1 + 2 * (n / 2) := by omega
        conv => rhs; rw [this, gpow_add]
        rw [gpow, gpow, one_gmul, gmul_assoc]
      · next h1 =>
        have : n = 2 * (n / 2) := by omega
        conv => rhs; rw [this]
theorem ginv_eq_gpow (a : B) : ginv a = gpow a 254 := by
  unfold ginv
  rw [graise_eq 8 1 a 254 (by decide), one_gmul]
end Kin
/- The printed functions of the field (Add, double, Mul, raise, Inv) compute what Gf.lean defines. -/
namespace Go.Proofs.Ytpkghpljgjlmjaa.K
open Go.RowKit Go.Proofs.YtpkghpljgjlmjaaW.PrintWords Kin
set_option linter.unusedSimpArgs false
set_option linter.unusedVariables false

def b2i (x : B) : Int := (x.toNat : Int)
def up (l : List B) : List Int := l.map b2i
def up2 (m : List (List B)) : List (List Int) := m.map up
def isB (x : Int) : Bool := decide (0 ≤ x) && decide (x < 256)
def toB (x : Int) : B := UInt8.ofNat x.toNat
theorem b2i_nonneg (x : B) : 0 ≤ b2i x := Int.natCast_nonneg _
theorem b2i_lt (x : B) : b2i x < 256 := by have := x.toNat_lt; unfold b2i; omega
theorem b2i_inj {x y : B} (h : b2i x = b2i y) : x = y := UInt8.toNat_inj.1 (by unfold b2i at h; omega)
theorem b2i_eq {x y : B} : b2i x = b2i y ↔ x = y := ⟨b2i_inj, fun h => by rw [h]⟩
theorem b2i_zero : b2i 0 = 0 := rfl
theorem b2i_one : b2i 1 = 1 := rfl
theorem toNat_b2i (x : B) : (b2i x).toNat = x.toNat := by simp [b2i]
theorem toB_b2i (x : B) : toB (b2i x) = x := by simp [toB, b2i]
theorem b2i_toB {x : Int} (h : isB x = true) : b2i (toB x) = x := by
  simp only [isB, Bool.and_eq_true, decide_eq_true_eq] at h
  obtain ⟨n, rfl⟩ := Int.eq_ofNat_of_zero_le h.1
  have : n < 256 := by omega
  simp [toB, b2i, Nat.mod_eq_of_lt this]
theorem isB_b2i (x : B) : isB (b2i x) = true := by
  have h1 := b2i_nonneg x
  have h2 := b2i_lt x
  simp [isB, h1, h2]
theorem b2i_eq_zero {x : B} : b2i x = 0 ↔ x = 0 := by rw [← b2i_zero, b2i_eq]
theorem up_length (l : List B) : (up l).length = l.length := by simp [up]
theorem up2_length (l : List (List B)) : (up2 l).length = l.length := by simp [up2]
theorem up_cons (x : B) (l : List B) : up (x :: l) = b2i x :: up l := rfl
theorem up2_cons (x : List B) (l : List (List B)) : up2 (x :: l) = up x :: up2 l := rfl
theorem up_append (a b : List B) : up (a ++ b) = up a ++ up b := by simp [up]
theorem up2_append (a b : List (List B)) : up2 (a ++ b) = up2 a ++ up2 b := by simp [up2]
theorem exists_up {l : List Int} (h : ∀ x ∈ l, isB x = true) : ∃ m : List B, l = up m := by
  induction l with
  | nil => exact ⟨[], rfl⟩
  | cons x l ih =>
    obtain ⟨m, rfl⟩ := ih (fun y hy => h y (List.mem_cons_of_mem _ hy))
    exact ⟨toB x :: m, by rw [up_cons, b2i_toB (h x List.mem_cons_self)]⟩
theorem rd_up (l : List B) (i : Int) : rd (up l) i = b2i (l.getD i.toNat 0) := by
  unfold rd up
  rw [List.getD_eq_getElem?_getD, List.getElem?_map, List.getD_eq_getElem?_getD]
  cases l[i.toNat]? <;> rfl
theorem set_up (l : List B) (i : Nat) (x : B) : (up l).set i (b2i x) = up (l.set i x) := by simp [up, List.map_set]
theorem set_up2 (l : List (List B)) (i : Nat) (x : List B) : (up2 l).set i (up x) = up2 (l.set i x) := by simp [up2, List.map_set]
theorem up_replicate (n : Nat) (x : B) : List.replicate n (b2i x) = up (List.replicate n x) := by simp [up]
theorem up_zeros (n : Nat) : List.replicate n (0 : Int) = up (List.replicate n 0) := by rw [← up_replicate]; rfl
theorem up2_replicate (n : Nat) (x : List B) : List.replicate n (up x) = up2 (List.replicate n x) := by simp [up2]
theorem up_drop (l : List B) (n : Nat) : (up l).drop n = up (l.drop n) := by simp [up, List.map_drop]
theorem up2_take (l : List (List B)) (n : Nat) : (up2 l).take n = up2 (l.take n) := by simp [up2, List.map_take]
/-! the field's functions -/
theorem xor_b2i (a b : B) : Go.bits .xor .u8 (b2i a) (b2i b) = b2i (a ^^^ b) := by
  unfold b2i
  rw [u8_xor_nat _ _ a.toNat_lt b.toNat_lt, UInt8.toNat_xor]
theorem add_b (a b : B) : gf256_Add.f (b2i a) (b2i b) = some (b2i (a ^^^ b)) := by rw [gf256_Add.f, xor_b2i]
theorem double_b (a : B) : gf256_double.f (b2i a) = some (b2i (gdbl a)) := by
  revert a
  exact all_bytes (by decide +kernel)
def gmulN : Nat → B → Nat → B
  | 0, _, _ => 0
  | n + 1, a, m => (if m % 2 = 1 then a else 0) ^^^ gmulN n (gdbl a) (m / 2)
theorem gmulFrom_eq (n : Nat) : ∀ (i : Nat) (a b : B), gmulFrom n i a b = gmulN n a (b.toNat / 2 ^ i) := by
  induction n with
  | zero => intro i a b; rfl
  | succ n ih =>
    intro i a b
    rw [gmulFrom, gmulN, ih, Nat.div_div_eq_div_mul, ← Nat.pow_succ]
    congr 1
    simp [gbit, Nat.testBit_eq_decide_div_mod_eq]
theorem gmul_eq (a b : B) : gmul a b = gmulN 8 a b.toNat := by rw [gmul, gmulFrom_eq, Nat.pow_zero, Nat.div_one]
theorem gmulN_zero (n : Nat) : ∀ a, gmulN n a 0 = 0 := by
  induction n with
  | zero => intro a; rfl
  | succ n ih => intro a; simp [gmulN, ih]
theorem and_one (k : IntKind) (m : Nat) (h : Go.bits .and k (m : Int) 1 = ((m &&& 1 : Nat) : Int)) : (Go.bits .and k (m : Int) 1 = 1) ↔ m % 2 = 1 := by
  rw [h, Nat.and_one_is_mod]
  omega
theorem mul_l0 (n : Nat) : ∀ (k : Nat) (a out : B) (m : Nat), m < 2 ^ n → m < 256 → n < k → gf256_Mul.l0 k (b2i a) (m : Int) (b2i out) = some (b2i (out ^^^ gmulN n a m)) := by
  induction n with
  | zero =>
    intro k a out m hm _ hk
    obtain ⟨k, rfl⟩ : ∃ j, k = j + 1 := ⟨k - 1, by omega⟩
    have h0 : m = 0 := by omega
    subst h0
    simp [gf256_Mul.l0, gmulN]
  | succ n ih =>
    intro k a out m hm h256 hk
    obtain ⟨k, rfl⟩ : ∃ j, k = j + 1 := ⟨k - 1, by omega⟩
    by_cases h0 : m = 0
    · subst h0
      simp [gf256_Mul.l0, gmulN_zero]
    · have hd : ((m : Int) / 2) = ((m / 2 : Nat) : Int) := by omega
      simp only [gf256_Mul.l0]
      rw [if_pos (by omega)]
      have hand := and_one .u8 m (by have := u8_and_nat m 1 h256 (by decide); exact_mod_cast this)
      by_cases h1 : m % 2 = 1
      · rw [if_pos (hand.2 h1), add_b, double_b]
        simp only [Option.bind_some]
        rw [hd, ih _ _ _ _ (by rw [Nat.pow_succ] at hm; omega) (by omega) (by omega)]
        simp only [gmulN, if_pos h1, bx_assoc]
      · rw [if_neg (fun h => h1 (hand.1 h)), double_b]
        simp only [Option.bind_some]
        rw [hd, ih _ _ _ _ (by rw [Nat.pow_succ] at hm; omega) (by omega) (by omega)]
        simp only [gmulN, if_neg h1, zero_bx]
theorem mul_b (a b : B) {k : Nat} (hk : 9 ≤ k) : gf256_Mul.f k (b2i a) (b2i b) = some (b2i (gmul a b)) := by
  have := mul_l0 8 k a 0 b.toNat b.toNat_lt b.toNat_lt (by omega)
  rw [gf256_Mul.f, gmul_eq]
  rw [zero_bx] at this
  exact this
theorem i64_and1 (n : Nat) : Go.bits .and .i64 (n : Int) 1 = ((n &&& 1 : Nat) : Int) := by
  have h1 : (BitVec.ofInt 64 1).toNat = 2 ^ 1 - 1 := by decide
  have key : (BitVec.ofInt 64 (n : Int) &&& BitVec.ofInt 64 1).toNat = ((n : Int) % ((2 ^ 64 : Nat) : Int)).toNat % 2 ^ 1 := by
    rw [BitVec.toNat_and, BitVec.toNat_ofInt, h1, Nat.and_two_pow_sub_one_eq_mod]
  rw [Nat.and_one_is_mod]
  show IntKind.i64.wrap ((BitVec.ofInt 64 (n : Int) &&& BitVec.ofInt 64 1).toNat : Nat) = _
  rw [key, IntKind.wrap_i64]
  omega
theorem raise_l0 (f : Nat) : ∀ (k : Nat) (a out : B) (n : Nat), n < 2 ^ f → n < 9223372036854775808 → f + 10 ≤ k → gf256_raise.l0 k (b2i a) (n : Int) (b2i out) = some (b2i (gmul out (gpow a n))) := by
  induction f with
  | zero =>
    intro k a out n hn _ hk
    obtain ⟨k, rfl⟩ : ∃ j, k = j + 1 := ⟨k - 1, by omega⟩
    have h0 : n = 0 := by omega
    subst h0
    simp [gf256_raise.l0, gpow, gmul_one]
  | succ f ih =>
    intro k a out n hn h63 hk
    obtain ⟨k, rfl⟩ : ∃ j, k = j + 1 := ⟨k - 1, by omega⟩
    by_cases h0 : n = 0
    · subst h0
      simp [gf256_raise.l0, gpow, gmul_one]
    · have hd : ((n : Int) / 2) = ((n / 2 : Nat) : Int) := by omega
      simp only [gf256_raise.l0]
      rw [if_pos (by omega)]
      have hand := and_one .i64 n (i64_and1 n)
      by_cases h1 : n % 2 = 1
      · rw [if_pos (hand.2 h1), mul_b _ _ (by omega), mul_b _ _ (by omega)]
        simp only [Option.bind_some]
        rw [hd, ih _ _ _ _ (by rw [Nat.pow_succ] at hn; omega) (by omega) (by omega), gpow_sq, gmul_assoc]
        congr 3
        have : n = 1 + 2 * (n / 2) := by omega
        conv => rhs; rw [this, gpow_add]
        rw [gpow, gpow, one_gmul]
      · rw [if_neg (fun h => h1 (hand.1 h)), mul_b _ _ (by omega)]
        simp only [Option.bind_some]
        rw [hd, ih _ _ _ _ (by rw [Nat.pow_succ] at hn; omega) (by omega) (by omega), gpow_sq]
        congr 3
        have : n = 2 * (n / 2) := by omega
        conv => rhs; rw [this]
theorem raise_b (a : B) (n : Nat) (hn : n < 256) {k : Nat} (hk : 18 ≤ k) : gf256_raise.f k (b2i a) (n : Int) = some (b2i (gpow a n)) := by
  rw [gf256_raise.f, show (1 : Int) = b2i 1 from rfl, raise_l0 8 k a 1 n hn (by omega) (by omega), one_gmul]
theorem inv_b (a : B) {k : Nat} (hk : 18 ≤ k) : gf256_Inv.f k (b2i a) = some (b2i (ginv a), if a = 0 then 1 else 0) := by
  rw [gf256_Inv.f]
  by_cases h : a = 0
  · subst h
    rw [if_pos b2i_zero, if_pos rfl, ginv_zero]
    rfl
  · rw [if_neg (fun e => h (b2i_eq_zero.1 e)), if_neg h]
    have := raise_b a 254 (by decide) hk
    rw [show ((254 : Nat) : Int) = 254 from rfl] at this
    rw [this, ginv_eq_gpow]
    rfl
end Go.Proofs.Ytpkghpljgjlmjaa.K
/- gf256.by and gf256.Scale: products of all bytes of a slice by one byte. -/
namespace Go.Proofs.Ytpkghpljgjlmjaa.K
open Go.RowKit Go.Proofs.YtpkghpljgjlmjaaW.PrintWords Go.Proofs.YtpkghpljgjlmjaaW.PrintLast Go.Proofs.YtpkghpljgjlmjaaW.PrintMore Kin
set_option linter.unusedSimpArgs false
set_option linter.unusedVariables false

/-- The table that gf256.by makes: block g holds the products by c. -/
def IsTab (w : World) (g : Nat) (c : B) : Prop := ∀ x : B, w.cell? ⟨g, x.toNat, none⟩ = some (.int .u8 (b2i (gmul x c)))
theorem IsTab.below {w w1 : World} {g : Nat} {c : B} (h : IsTab w g c) (hb : Below w.heap.size w w1) : IsTab w1 g c := fun x => pw_cell_below hb (h x)
set_option maxRecDepth 100000 in
set_option maxHeartbeats 400000 in
theorem by1_calls (g : Nat) (c x : B) (w : World) (ht : IsTab w g c) :
    Calls Try.prog 117 #[.int .u8 (b2i x), .pointer (some ⟨g, 0, none⟩)] w fun e w' => e = .returned (.int .u8 (b2i (gmul x c))) ∧ w = w' := by
  have hx := ht x
  have h0 := b2i_nonneg x
  have h1 := b2i_lt x
  have h2 := toNat_b2i x
  generalize b2i (gmul x c) = y at hx ⊢
  generalize hbx : b2i x = bx at h0 h1 h2 ⊢
  rw [← h2] at hx
  clear h2 hbx ht
  go_enter Try.func117, Try.ntmps117
  go_wp2
  go_ret
  exact ⟨rfl, rfl⟩
set_option maxRecDepth 100000 in
set_option maxHeartbeats 400000 in
theorem by_calls (c : B) (w : World) :
    Calls Try.prog 105 #[.int .u8 (b2i c)] w fun e w' => ∃ g, e = .returned (.func (Fn.func 117) #[] #[.pointer (some ⟨g, 0, none⟩)]) ∧ w.heap.size ≤ g ∧ IsTab w' g c ∧ Below w.heap.size w w' := by
  have hmf : ∀ (fn : Fn) (first cap : Array Value) (w : World), (Instr.makeFunc fn first cap).run Try.prog w = .ok (.func fn first cap) w := fun _ _ _ _ => rfl
  go_enter Try.func105, Try.ntmps105
  go_wp2
  go_loopw [5] (fun v5 wr => ∃ (k : Nat) (cs : Array Value), k ≤ 256 ∧ v5 = .int .i64 (k : Int) ∧ Aside0 (wr.heap[w.heap.size]? = some (.cells cs 129 (0, 0)) ∧ cs.size = 256 ∧ (∀ x : B, x.toNat < k → cs[x.toNat]? = some (.int .u8 (b2i (gmul x c)))) ∧ Below w.heap.size w wr)) (fun v5 _ => 256 - (intOf v5).toNat)
  case atStart => exact ⟨0, Try.zeroCells129, by omega, rfl, ⟨blk_new w _, by kernel_rfl, fun x hx => absurd hx (by omega), below_alloc (Below.refl _ _) _⟩⟩
  case round =>
    obtain ⟨k, cs, hk, rfl, HA⟩ := hrel
    by_cases hlt : k < 256
    · have hm : gf256_Mul.f 9 (k : Int) (b2i c) = some (b2i (gmul (UInt8.ofNat k) c)) := by
        have := mul_b (UInt8.ofNat k) c (k := 9) (by omega)
        rw [show b2i (UInt8.ofNat k) = (k : Int) by simp [b2i, Nat.mod_eq_of_lt hlt]] at this
        exact this
      have HM := Aside0.mk hm
      clear hm
      obtain ⟨hb, hs, hc, hB⟩ := HA.out
      have hcell : wr.cell? ⟨w.heap.size, k, none⟩ = some (cs[k]'(by omega)) := by rw [blk_cell hb, Array.getElem?_eq_getElem (by omega)]
      have hfr : wr.frozen? ⟨w.heap.size, k, none⟩ = false := blk_frozen hb k
      generalize cs[k]'(by omega) = old at hcell
      clear hb hs hc hB
      go_wp2_with (go_at_call 68; (with_reducible refine (gf256_Mul.calls 9 _ _ _ _ HM.out).mono ?_); rintro e w' ⟨rfl, ⟨nd, rfl⟩⟩)
      obtain ⟨hb, hs, hc, hB⟩ := HA.out
      go_roundw
      case rel =>
        refine ⟨k + 1, cs.setIfInBounds k (.int .u8 (b2i (gmul (UInt8.ofNat k) c))), by omega, by go_num, ⟨blk_set (w := wr.drewN nd) hb k _, by simpa using hs, fun x hx => ?_, (pw_below_drewN hB nd).setCell (Nat.le_refl _) _⟩⟩
        by_cases hxk : x.toNat = k
        · have hx2 : UInt8.ofNat k = x := by rw [← hxk]; simp
          rw [hxk, hx2, Array.getElem?_setIfInBounds_self_of_lt (by omega)]
        · rw [Array.getElem?_setIfInBounds_ne (by omega)]
          exact hc x (by omega)
      case measure => simp [intOf]; omega
    · obtain rfl : k = 256 := by omega
      obtain ⟨hb, hs, hc, hB⟩ := HA.out
      go_wp2
      go_ret
      exact ⟨w.heap.size, rfl, Nat.le_refl _, fun x => by rw [blk_cell hb]; exact hc x x.toNat_lt, hB⟩
theorem IsTab.set {w : World} {g : Nat} {c : B} (h : IsTab w g c) {p : Addr} (hne : g ≠ p.block) (v : Value) : IsTab (w.setCell p v) g c :=
  fun x => (World.cell?_of_block (a := ⟨g, x.toNat, none⟩) (Below.heap_setCell w p v g hne)).trans (h x)
theorem IsTab.lt {w : World} {g : Nat} {c : B} (h : IsTab w g c) : g < w.heap.size := World.block_lt_of_cell? w _ (h 0)
theorem IsTab.grown {w w1 : World} {g : Nat} {c : B} (h : IsTab w g c) {row : Option Nat} (hg : w.grownBy w1 row) (hne : some g ≠ row) : IsTab w1 g c := fun x => hg.cell (h x) hne
/-- gf256.Scale: all bytes by one; of bytes, not too many. -/
def gf256_Scale.f (l0 : List Int) (a1 : Int) : Option (List Int) :=
  if (l0.all isB && isB a1) && decide (l0.length ≤ 140737488351232) then some (l0.map fun x => b2i (gmul (toB x) (toB a1))) else none
theorem scale_up (l : List B) (c : B) (h : l.length ≤ 140737488351232) : gf256_Scale.f (up l) (b2i c) = some (up (l.map fun x => gmul x c)) := by
  have h1 : (up l).all isB = true := by simp [up, isB_b2i]
  rw [gf256_Scale.f, if_pos (by simp [h1, isB_b2i, up_length, h])]
  simp [up, toB_b2i]
/-- What the loop has made after k rounds. -/
def scaled (m : List B) (c : B) (k : Nat) : List B := (m.take k).map (fun x => gmul x c) ++ List.replicate (m.length - k) 0
theorem scaled_zero (m : List B) (c : B) : scaled m c 0 = List.replicate m.length 0 := by simp [scaled]
theorem scaled_all (m : List B) (c : B) : scaled m c m.length = m.map fun x => gmul x c := by simp [scaled]
theorem scaled_length (m : List B) (c : B) (k : Nat) (hk : k ≤ m.length) : (scaled m c k).length = m.length := by simp [scaled]; omega
theorem scaled_succ (m : List B) (c : B) (k : Nat) (hk : k < m.length) : (scaled m c k).set k (gmul (m.getD k 0) c) = scaled m c (k + 1) := by
  unfold scaled
  have h1 : ((m.take k).map fun x => gmul x c).length = k := by simp; omega
  rw [List.set_append_right _ _ (by omega), h1, Nat.sub_self, show m.length - k = (m.length - (k + 1)) + 1 by omega, List.replicate_succ, List.set_cons_zero,
    List.take_succ_eq_append_getElem hk, List.map_append, List.append_assoc]
  simp [List.getD_eq_getElem?_getD, List.getElem?_eq_getElem hk]
set_option maxRecDepth 100000 in
set_option maxHeartbeats 1000000 in
theorem scale_calls (A0 : Option Addr) (c0 : Nat) (m : List B) (c : B) (w : World) (hr0 : Kd.C (Kd.int .u8) w A0 m.length (up m)) (hlen : m.length ≤ 140737488351232) :
    Calls Try.prog 88 #[.slice A0 m.length c0, .int .u8 (b2i c)] w fun e w' => ∃ v0_ : Value, e = .returned (v0_) ∧ Kd.R (Kd.int .u8) 5 w' w.heap.size (fun _ => True) v0_ (up (m.map fun x => gmul x c)) ∧ Below w.heap.size w w' := by
  have HR0 := Aside0.mk hr0
  have HL := Aside0.mk hlen
  clear hr0
  go_enter Try.func88, Try.ntmps88
  go_wp2_with (first | (go_at_call 105; (with_reducible refine (by_calls c _).mono ?_); rintro e w1 ⟨gt, rfl, hgt, ht, hb⟩; have HT := Aside0.mk ht; have HB := Aside0.mk hb; clear ht hb) | ((with_reducible refine gate_dst (N := 13) rfl ?_); refine Kd.R_make (Kd.int .u8) (w0 := w) w.heap.size 5 rfl (N := 13) rfl 34 _ _ rfl (m.length : Int) rfl rfl Try.underlying34 (.int .u8 0) 1 info5 rfl (by decide) (by omega) 0 (ok := fun k => w1.heap.size ≤ k) (okp := fun _ => False) rfl (fun _ hk => hk.elim) (Nat.le_refl _) (by omega) (by have := HL.out; omega) HB.out HB.out.size ?_; intro v2 w2 hv2 hb2 hg2 hat2; have HV := Aside0.mk hv2; have HB2 := Aside0.mk hb2; have HT2 := Aside0.mk (HT.out.grown hg2 (by simp)); have HLT := Aside0.mk HT.out.lt; clear hv2 hb2 hg2 hat2))
  obtain ⟨Av, cv, ev⟩ := Kd.R_slice HV.out
  rw [List.length_replicate, Int.toNat_natCast] at ev
  subst ev
  rw [Int.toNat_natCast] at HV
  go_loopw [16] (fun v16 wr => ∃ (k : Nat), k ≤ m.length ∧ v16 = .int .i64 (k : Int) ∧ Aside0 (Kd.R (Kd.int .u8) 5 wr w.heap.size (fun k => w1.heap.size ≤ k) (.slice Av m.length cv) (up (scaled m c k)) ∧ IsTab wr gt c ∧ Below w.heap.size w wr)) (fun v16 _ => m.length - (intOf v16).toNat)
  case atStart => exact ⟨0, by omega, rfl, ⟨by rw [scaled_zero, ← up_zeros]; exact HV.out, HT2.out, HB2.out⟩⟩
  case round =>
    obtain ⟨k, hk, rfl, HA⟩ := hrel
    by_cases hlt : k < m.length
    · obtain ⟨hv, ht, hB⟩ := HA.out
      obtain ⟨ad, e, hx⟩ := Kd.at_int HR0.out (k : Int) (by omega) (by omega)
      subst e
      rw [Int.toNat_natCast, rd_up, Int.toNat_natCast] at hx
      replace hx := (hB.cell (World.block_lt_of_cell? w _ hx)).trans hx
      obtain ⟨g, cap, ev, hg1, hg2, _⟩ := Kd.R_form hv (by rw [up_length, scaled_length m c k hk]; omega)
      injection ev with ea en ec
      clear en ec
      subst ea
      obtain ⟨hcell, hfr⟩ := Kd.R_celln 0 hv (k : Int) (by omega) (by omega)
      rw [Int.toNat_natCast] at hcell hfr
      generalize Value.int .u8 (rdOf 0 (up (scaled m c k)) ↑k) = old at hcell
      generalize hy : m.getD k 0 = y at hx
      have HY := Aside0.mk hy
      have HT3 := Aside0.mk ht
      clear hv ht hB hy
      go_wp2_with (go_at_call 117; (with_reducible refine (by1_calls gt c y _ HT3.out).mono ?_); rintro e w' ⟨rfl, rfl⟩)
      obtain ⟨hv, ht, hB⟩ := HA.out
      go_roundw
      case rel =>
        have hp := Kd.R_putn hv (k : Int) (b2i (gmul y c))
        rw [Int.toNat_natCast, set_up, ← HY.out, scaled_succ m c k hlt, HY.out] at hp
        have hgt : gt ≠ g := by have := HLT.out; have := hv.1 g rfl; omega
        exact ⟨k + 1, by omega, by go_num, ⟨hp, ht.set hgt _, hB.setCell hg1 _⟩⟩
      case measure => simp [intOf]; omega
    · obtain rfl : k = m.length := by omega
      obtain ⟨hv, ht, hB⟩ := HA.out
      rw [scaled_all] at hv
      have HV3 := Aside0.mk hv
      clear hv ht
      go_wp2
      go_ret
      exact ⟨_, rfl, Kd.R_mono HV3.out (fun _ _ => trivial), hB⟩
theorem gf256_Scale.calls (A0 : Option Addr) (c0 : Nat) (l0 : List Int) (a1 : Int) (r : List Int) (w : World) (hr0 : Kd.C (Kd.int .u8) w A0 l0.length l0) (hc0 : l0.length ≤ c0) (h : gf256_Scale.f l0 a1 = some r) :
    Calls Try.prog 88 #[.slice A0 l0.length c0, .int .u8 a1] w fun e w' => ∃ v0_ : Value, e = .returned (v0_) ∧ Kd.R (Kd.int .u8) 5 w' w.heap.size (fun _ => True) v0_ r ∧ Below w.heap.size w w' := by
  unfold gf256_Scale.f at h
  split at h
  · rename_i hc
    simp only [Bool.and_eq_true, List.all_eq_true, decide_eq_true_eq] at hc
    obtain ⟨m, rfl⟩ := exists_up hc.1.1
    obtain rfl := Option.some.inj h
    have h1 := scale_calls A0 c0 m (toB a1) w (by rw [up_length] at hr0; exact hr0) (by have := hc.2; rw [up_length] at this; exact this)
    rw [b2i_toB hc.1.2] at h1
    rw [up_length]
    have e : (up m).map (fun x => b2i (gmul (toB x) (toB a1))) = up (m.map fun x => gmul x (toB a1)) := by simp [up, toB_b2i]
    rw [e]
    exact h1
  · cases h
end Go.Proofs.Ytpkghpljgjlmjaa.K
/- Sums and determinants over the field of 256 elements, matrices as functions. No program in sight. -/
namespace Kin
set_option linter.unusedSimpArgs false
set_option linter.unusedVariables false

/-- The sum of f 0 to f (n-1). -/
def bsum : Nat → (Nat → B) → B
  | 0, _ => 0
  | n + 1, f => bsum n f ^^^ f n
theorem bsum_congr {n : Nat} {f g : Nat → B} (h : ∀ j, j < n → f j = g j) : bsum n f = bsum n g := by
  induction n with
  | zero => rfl
  | succ n ih => simp only [bsum]; rw [ih (fun j hj => h j (by omega)), h n (by omega)]
theorem bsum_add (n : Nat) (f g : Nat → B) : bsum n (fun j => f j ^^^ g j) = bsum n f ^^^ bsum n g := by
  induction n with
  | zero => exact (bx_self 0).symm
  | succ n ih => simp only [bsum]; rw [ih, bx_swap4]
theorem bsum_mul (n : Nat) (c : B) (f : Nat → B) : bsum n (fun j => gmul c (f j)) = gmul c (bsum n f) := by
  induction n with
  | zero => simp only [bsum]; rw [gmul_zero]
  | succ n ih => simp only [bsum]; rw [ih, gmul_add_right]
theorem bsum_mul_right (n : Nat) (c : B) (f : Nat → B) : bsum n (fun j => gmul (f j) c) = gmul (bsum n f) c := by
  rw [gmul_comm, ← bsum_mul]
  exact bsum_congr fun j _ => gmul_comm _ _
theorem bsum_zero {n : Nat} {f : Nat → B} (h : ∀ j, j < n → f j = 0) : bsum n f = 0 := by
  induction n with
  | zero => rfl
  | succ n ih => simp only [bsum]; rw [ih (fun j hj => h j (by omega)), h n (by omega), bx_self]
theorem bsum_one {n : Nat} {f : Nat → B} {p : Nat} (hp : p < n) (h : ∀ j, j < n → j ≠ p → f j = 0) : bsum n f = f p := by
  induction n with
  | zero => omega
  | succ n ih =>
    simp only [bsum]
    by_cases e : p = n
    · subst e
      rw [bsum_zero (fun j hj => h j (by omega) (by omega)), zero_bx]
    · rw [ih (by omega) (fun j hj hne => h j (by omega) hne), h n (by omega) (fun x => e x.symm), bx_zero]
/-- A symmetric double sum without a diagonal is 0. -/
theorem bsum_sym (n : Nat) (h : Nat → Nat → B) (hs : ∀ i j, i < n → j < n → h i j = h j i) (hd : ∀ i, i < n → h i i = 0) : bsum n (fun i => bsum n (fun j => h i j)) = 0 := by
  induction n with
  | zero => rfl
  | succ n ih =>
    rw [show bsum (n + 1) (fun i => bsum (n + 1) (fun j => h i j)) = bsum n (fun i => bsum n (fun j => h i j) ^^^ h i n) ^^^ (bsum n (fun j => h n j) ^^^ h n n) from rfl, bsum_add, ih (fun i j hi hj => hs i j (by omega) (by omega)) (fun i hi => hd i (by omega)), zero_bx, hd n (by omega), bx_zero, bsum_congr (g := fun j => h n j) (fun j hj => hs j n (by omega) (by omega)), bx_self]
/-- j, or the next number from c on. -/
def sk (c j : Nat) : Nat := if j < c then j else j + 1
theorem bsum_skip (n c : Nat) (hc : c ≤ n) (f : Nat → B) : bsum n (fun d => f (sk c d)) = bsum (n + 1) (fun e => if e = c then 0 else f e) := by
  induction n with
  | zero =>
    obtain rfl : c = 0 := by omega
    exact (bx_self 0).symm
  | succ n ih =>
    rw [show bsum (n + 1) (fun d => f (sk c d)) = bsum n (fun d => f (sk c d)) ^^^ f (sk c n) from rfl]
    by_cases e : c = n + 1
    · subst e
      rw [show bsum (n + 1 + 1) (fun e => if e = n + 1 then (0 : B) else f e) = bsum n (fun e => if e = n + 1 then (0 : B) else f e) ^^^ (if n = n + 1 then (0 : B) else f n) ^^^ (if n + 1 = n + 1 then (0 : B) else f (n + 1)) from rfl, if_neg (by omega), if_pos rfl, bx_zero, show sk (n + 1) n = n from if_pos (by omega)]
      congr 1
      exact bsum_congr fun j hj => by rw [if_neg (by omega), show sk (n + 1) j = j from if_pos (by omega)]
    · rw [ih (by omega), show bsum (n + 1 + 1) (fun e => if e = c then (0 : B) else f e) = bsum (n + 1) (fun e => if e = c then (0 : B) else f e) ^^^ (if n + 1 = c then (0 : B) else f (n + 1)) from rfl, if_neg (fun x => e x.symm), show sk c n = n + 1 from if_neg (by omega)]
/-- A matrix as a function. -/
abbrev Mx := Nat → Nat → B
def minor (A : Mx) (c : Nat) : Mx := fun i j => A (i + 1) (sk c j)
/-- The determinant by expansion. -/
def det : Nat → Mx → B
  | 0, _ => 1
  | n + 1, A => bsum (n + 1) (fun c => gmul (A 0 c) (det n (minor A c)))
def upd (A : Mx) (r : Nat) (v : Nat → B) : Mx := fun i j => if i = r then v j else A i j
theorem sk_lt {c j n : Nat} (h : j < n) : sk c j < n + 1 := by unfold sk; split <;> omega
theorem det_congr {n : Nat} : ∀ {A C : Mx}, (∀ i j, i < n → j < n → A i j = C i j) → det n A = det n C := by
  induction n with
  | zero => intro A C _; rfl
  | succ n ih =>
    intro A C h
    simp only [det]
    refine bsum_congr fun c hc => ?_
    rw [h 0 c (by omega) hc, ih (A := minor A c) (C := minor C c) (fun i j hi hj => h (i + 1) (sk c j) (by omega) (sk_lt hj))]
theorem minor_upd_zero (A : Mx) (v : Nat → B) (c : Nat) : minor (upd A 0 v) c = minor A c := by
  funext i j
  simp [minor, upd]
theorem minor_upd_succ (A : Mx) (r : Nat) (v : Nat → B) (c : Nat) : minor (upd A (r + 1) v) c = upd (minor A c) r (fun j => v (sk c j)) := by
  funext i j
  simp [minor, upd]
theorem upd_self (A : Mx) (r : Nat) : upd A r (A r) = A := by
  funext i j
  unfold upd
  split
  · rename_i h; rw [h]
  · rfl
theorem upd_upd (A : Mx) (r : Nat) (u v : Nat → B) : upd (upd A r u) r v = upd A r v := by
  funext i j
  unfold upd
  split <;> rfl
theorem upd_comm (A : Mx) {r s : Nat} (h : r ≠ s) (u v : Nat → B) : upd (upd A r u) s v = upd (upd A s v) r u := by
  funext i j
  unfold upd
  by_cases h1 : i = s
  · rw [if_pos h1, if_neg (by omega), if_pos h1]
  · rw [if_neg h1]
    by_cases h2 : i = r
    · rw [if_pos h2, if_pos h2]
    · rw [if_neg h2, if_neg h2, if_neg h1]
theorem upd_at (A : Mx) (r : Nat) (v : Nat → B) : upd A r v r = v := by
  funext j
  simp [upd]
theorem upd_ne (A : Mx) {r i : Nat} (v : Nat → B) (h : i ≠ r) : upd A r v i = A i := by
  funext j
  simp [upd, h]
/-- The determinant is linear in each row. -/
theorem det_lin {n : Nat} : ∀ (A : Mx) (r : Nat) (s t : B) (u v : Nat → B), r < n → det n (upd A r (fun j => gmul s (u j) ^^^ gmul t (v j))) = gmul s (det n (upd A r u)) ^^^ gmul t (det n (upd A r v)) := by
  induction n with
  | zero => intro A r s t u v h; omega
  | succ n ih =>
    intro A r s t u v hr
    simp only [det]
    rw [← bsum_mul, ← bsum_mul, ← bsum_add]
    refine bsum_congr fun c hc => ?_
    cases r with
    | zero =>
      rw [minor_upd_zero, minor_upd_zero, minor_upd_zero, upd_at, upd_at, upd_at, gmul_add_left, gmul_assoc, gmul_assoc]
    | succ r =>
      rw [minor_upd_succ, minor_upd_succ, minor_upd_succ, upd_ne _ _ (by omega), upd_ne _ _ (by omega), upd_ne _ _ (by omega), ih _ _ _ _ _ _ (by omega), gmul_add_right, gmul_left_comm, gmul_left_comm (A 0 c) t]
theorem det_add {n : Nat} (A : Mx) (r : Nat) (u v : Nat → B) (h : r < n) : det n (upd A r (fun j => u j ^^^ v j)) = det n (upd A r u) ^^^ det n (upd A r v) := by
  have := det_lin A r 1 1 u v h
  simp only [one_gmul] at this
  exact this
theorem det_scale {n : Nat} (A : Mx) (r : Nat) (s : B) (u : Nat → B) (h : r < n) : det n (upd A r (fun j => gmul s (u j))) = gmul s (det n (upd A r u)) := by
  have := det_lin A r s 0 u u h
  simp only [zero_gmul, bx_zero] at this
  exact this
/-- Two columns left out. -/
def sk2 (lo hi j : Nat) : Nat := if j < lo then j else if j + 1 < hi then j + 1 else j + 2
theorem sk_sk (c d j : Nat) : sk c (sk d j) = sk2 (min c (sk c d)) (max c (sk c d)) j := by
  unfold sk sk2
  by_cases h : d < c
  · rw [if_pos h, show min c d = d by omega, show max c d = c by omega]
    by_cases h1 : j < d
    · rw [if_pos h1, if_pos h1, if_pos (by omega)]
    · rw [if_neg h1, if_neg h1]
  · rw [if_neg h, show min c (d + 1) = c by omega, show max c (d + 1) = d + 1 by omega]
    by_cases h1 : j < d
    · rw [if_pos h1]
      by_cases h2 : j < c
      · rw [if_pos h2, if_pos h2]
      · rw [if_neg h2, if_neg h2, if_pos (by omega)]
    · rw [if_neg h1, if_neg (by omega), if_neg (by omega), if_neg (by omega)]
theorem det_eq01 {n : Nat} (A : Mx) (h : ∀ j, j < n + 2 → A 0 j = A 1 j) : det (n + 2) A = 0 := by
  have e : det (n + 2) A = bsum (n + 2) (fun c => bsum (n + 2) (fun e => if e = c then 0 else gmul (A 0 c) (gmul (A 0 e) (det n (fun i j => A (i + 2) (sk2 (min c e) (max c e) j)))))) := by
    rw [show det (n + 2) A = bsum (n + 2) (fun c => gmul (A 0 c) (det (n + 1) (minor A c))) from rfl]
    refine bsum_congr fun c hc => ?_
    rw [← bsum_skip (n + 1) c (by omega) (fun e => gmul (A 0 c) (gmul (A 0 e) (det n (fun i j => A (i + 2) (sk2 (min c e) (max c e) j))))), bsum_mul (n + 1) (A 0 c)]
    congr 1
    rw [show det (n + 1) (minor A c) = bsum (n + 1) (fun d => gmul (minor A c 0 d) (det n (minor (minor A c) d))) from rfl]
    refine bsum_congr fun d hd => ?_
    congr 1
    · show A (0 + 1) (sk c d) = A 0 (sk c d)
      exact (h _ (sk_lt hd)).symm
    · refine det_congr fun i j hi hj => ?_
      show A (i + 1 + 1) (sk c (sk d j)) = A (i + 2) _
      rw [sk_sk]
  rw [e]
  refine bsum_sym (n + 2) (fun c e => if e = c then 0 else gmul (A 0 c) (gmul (A 0 e) (det n (fun i j => A (i + 2) (sk2 (min c e) (max c e) j))))) (fun i j hi hj => ?_) (fun i hi => if_pos rfl)
  by_cases hij : i = j
  · subst hij; rfl
  · show (if j = i then _ else _) = (if i = j then _ else _)
    rw [if_neg (fun x => hij x.symm), if_neg hij, gmul_left_comm, Nat.min_comm, Nat.max_comm]
theorem det_eq_adj {n : Nat} : ∀ (r : Nat) (A : Mx), r + 1 < n → (∀ j, j < n → A r j = A (r + 1) j) → det n A = 0 := by
  induction n with
  | zero => intro r A h; omega
  | succ n ih =>
    intro r A hr h
    cases r with
    | zero =>
      obtain ⟨n, rfl⟩ : ∃ m, n = m + 1 := ⟨n - 1, by omega⟩
      exact det_eq01 A h
    | succ r =>
      simp only [det]
      refine bsum_zero fun c hc => ?_
      rw [ih r (minor A c) (by omega) (fun j hj => h (sk c j) (sk_lt hj)), gmul_zero]
def swp (A : Mx) (a b : Nat) : Mx := upd (upd A a (A b)) b (A a)
theorem swp_row (A : Mx) (a b i : Nat) : swp A a b i = A (if i = b then a else if i = a then b else i) := by
  funext j
  unfold swp upd
  by_cases h : i = b
  · rw [if_pos h, if_pos h]
  · rw [if_neg h, if_neg h]
    by_cases h2 : i = a
    · rw [if_pos h2, if_pos h2]
    · rw [if_neg h2, if_neg h2]
theorem det_swap_adj {n : Nat} (A : Mx) (r : Nat) (h : r + 1 < n) : det n (swp A r (r + 1)) = det n A := by
  have key : ∀ u v : Nat → B, det n (upd (upd A r u) (r + 1) v) = det n (upd (upd A r v) (r + 1) u) := by
    intro u v
    have z : ∀ w : Nat → B, det n (upd (upd A r w) (r + 1) w) = 0 := fun w => det_eq_adj r _ h (fun j hj => by rw [upd_ne _ _ (by omega), upd_at, upd_at])
    have h0 := z (fun j => u j ^^^ v j)
    rw [det_add _ _ _ _ h, upd_comm A (by omega), det_add _ _ _ _ (by omega), upd_comm A (by omega) (fun j => u j ^^^ v j) v, det_add _ _ _ _ (by omega), ← upd_comm A (by omega) u u, ← upd_comm A (by omega) v u, ← upd_comm A (by omega) u v, ← upd_comm A (by omega) v v, z u, z v, zero_bx, bx_zero] at h0
    have e1 : upd (upd A r u) (r + 1) v = upd (upd A (r + 1) v) r u := upd_comm A (by omega) u v
    have e2 : upd (upd A r v) (r + 1) u = upd (upd A (r + 1) u) r v := upd_comm A (by omega) v u
    rw [e1, e2]
    exact (bx_eq_zero.1 h0).symm
  unfold swp
  rw [key (A (r + 1)) (A r), upd_self]
  congr 1
  funext i j
  unfold upd
  split
  · rename_i h; rw [h]
  · rfl
theorem det_swap {n : Nat} (m : Nat) : ∀ (A : Mx) (a : Nat), a + m + 1 < n → det n (swp A a (a + m + 1)) = det n A := by
  induction m with
  | zero => intro A a h; exact det_swap_adj A a h
  | succ m ih =>
    intro A a h
    have e : swp A a (a + (m + 1) + 1) = swp (swp (swp A (a + m + 1) (a + m + 2)) a (a + m + 1)) (a + m + 1) (a + m + 2) := by
      funext i
      rw [swp_row, swp_row, swp_row, swp_row]
      congr 1
      repeat' split
      all_goals omega
    rw [e, det_swap_adj _ _ (by omega), ih _ _ (by omega), det_swap_adj _ _ (by omega)]
theorem swp_comm (A : Mx) (a b : Nat) : swp A a b = swp A b a := by
  unfold swp
  by_cases h : a = b
  · subst h; rfl
  · rw [upd_comm A h]
theorem swp_same (A : Mx) (a : Nat) : swp A a a = A := by
  unfold swp
  rw [upd_upd, upd_self]
theorem det_swp {n : Nat} (A : Mx) (a b : Nat) (ha : a < n) (hb : b < n) : det n (swp A a b) = det n A := by
  by_cases h : a = b
  · subst h; rw [swp_same]
  · by_cases h1 : a < b
    · have := det_swap (b - a - 1) A a (n := n) (by omega)
      rwa [show a + (b - a - 1) + 1 = b by omega] at this
    · have := det_swap (a - b - 1) A b (n := n) (by omega)
      rw [show b + (a - b - 1) + 1 = a by omega] at this
      rw [swp_comm]
      exact this
theorem det_eq_rows {n : Nat} (A : Mx) (a b : Nat) (hab : a ≠ b) (ha : a < n) (hb : b < n) (h : ∀ j, j < n → A a j = A b j) : det n A = 0 := by
  have main : ∀ a b, a < b → b < n → (∀ j, j < n → A a j = A b j) → det n A = 0 := by
    intro a b hlt hb h
    rw [← det_swp A (a + 1) b (by omega) hb]
    refine det_eq_adj a _ (by omega) (fun j hj => ?_)
    simp only [swp, upd]
    rw [if_neg (by omega), if_neg (by omega)]
    by_cases e : a + 1 = b
    · rw [if_pos e, h j hj, e]
    · rw [if_neg e, if_pos trivial, h j hj]
  by_cases h1 : a < b
  · exact main a b h1 hb h
  · exact main b a (by omega) ha (fun j hj => (h j hj).symm)
theorem det_addrow {n : Nat} (A : Mx) (i k : Nat) (c : B) (hi : i < n) (hk : k < n) (hik : i ≠ k) : det n (upd A i (fun j => A i j ^^^ gmul c (A k j))) = det n A := by
  have := det_lin A i 1 c (A i) (A k) hi
  simp only [one_gmul] at this
  rw [this, upd_self, det_eq_rows (upd A i (A k)) i k hik hi hk (fun j _ => by rw [upd_at, upd_ne _ _ (fun e => hik e.symm)]), gmul_zero, bx_zero]
end Kin
/- Rows of identity above Cauchy: any of them, as many as there are columns, have no kernel. Plain. -/
namespace Kin
set_option linter.unusedSimpArgs false
set_option linter.unusedVariables false
def lsum {α : Type} : List α → (α → B) → B
  | [], _ => 0
  | a :: l, f => f a ^^^ lsum l f
theorem lsum_congr {α : Type} {l : List α} {f g : α → B} (h : ∀ a ∈ l, f a = g a) : lsum l f = lsum l g := by
  induction l with
  | nil => rfl
  | cons a l ih => simp only [lsum]; rw [h a (List.mem_cons_self ..), ih fun b hb => h b (List.mem_cons_of_mem _ hb)]
theorem lsum_add {α : Type} (l : List α) (f g : α → B) : lsum l (fun a => f a ^^^ g a) = lsum l f ^^^ lsum l g := by
  induction l with
  | nil => simp [lsum]
  | cons a l ih => simp only [lsum]; rw [ih, bx_swap4]
theorem lsum_mul {α : Type} (l : List α) (c : B) (f : α → B) : lsum l (fun a => gmul c (f a)) = gmul c (lsum l f) := by
  induction l with
  | nil => simp [lsum, gmul_zero]
  | cons a l ih => simp only [lsum]; rw [ih, gmul_add_right]
theorem lsum_zero {α : Type} {l : List α} {f : α → B} (h : ∀ a ∈ l, f a = 0) : lsum l f = 0 := by
  induction l with
  | nil => rfl
  | cons a l ih => simp only [lsum]; rw [h a (List.mem_cons_self ..), ih fun b hb => h b (List.mem_cons_of_mem _ hb), bx_zero]
theorem lsum_append {α : Type} (l k : List α) (f : α → B) : lsum (l ++ k) f = lsum l f ^^^ lsum k f := by
  induction l with
  | nil => simp [lsum]
  | cons a l ih => simp only [lsum, List.cons_append]; rw [ih, bx_assoc]
theorem lsum_range (n : Nat) (f : Nat → B) : lsum (List.range n) f = bsum n f := by
  induction n with
  | zero => rfl
  | succ n ih => rw [List.range_succ, lsum_append, ih]; simp [lsum, bsum]
theorem lsum_filter {α : Type} (p : α → Bool) (l : List α) (f : α → B) (h : ∀ a ∈ l, p a = false → f a = 0) : lsum (l.filter p) f = lsum l f := by
  induction l with
  | nil => rfl
  | cons a l ih =>
    have ih := ih fun b hb => h b (List.mem_cons_of_mem _ hb)
    cases hp : p a with
    | true => rw [List.filter_cons_of_pos (by simpa using hp)]; simp only [lsum]; rw [ih]
    | false => rw [List.filter_cons_of_neg (by simp [hp])]; simp only [lsum]; rw [ih, h a (List.mem_cons_self ..) hp, zero_bx]
/-- Both quotients of two values at c, put together. -/
theorem cauchy_part {a b d : B} (ha : a ≠ 0) (hb : b ≠ 0) : gmul (a ^^^ d) (ginv a) ^^^ gmul (b ^^^ d) (ginv b) = gmul (a ^^^ b) (gmul (gmul d (ginv b)) (ginv a)) := by
  rw [gmul_add_left, gmul_add_left, gmul_ginv a ha, gmul_ginv b hb, bx_swap4, bx_self, zero_bx, gmul_add_left]
  have e1 : gmul a (gmul (gmul d (ginv b)) (ginv a)) = gmul d (ginv b) := by
    rw [gmul_left_comm, gmul_ginv a ha, gmul_one]
  have e2 : gmul b (gmul (gmul d (ginv b)) (ginv a)) = gmul d (ginv a) := by
    rw [gmul_comm d, gmul_assoc, ← gmul_assoc b, gmul_ginv b hb, one_gmul]
  rw [e1, e2, bx_comm]
theorem cauchy_zero : ∀ (xs ys : List B) (v : B → B), xs.Nodup → ys.Nodup → (∀ x ∈ xs, ∀ y ∈ ys, x ≠ y) → ys.length ≤ xs.length → (∀ x ∈ xs, lsum ys (fun y => gmul (v y) (ginv (x ^^^ y))) = 0) → ∀ y ∈ ys, v y = 0
  | _, [], _, _, _, _, _, _ => fun y hy => nomatch hy
  | [], _ :: _, _, _, _, _, hl, _ => by simp at hl
  | x0 :: xs, y0 :: ys, v, hx, hy, hd, hl, he => by
    obtain ⟨hx0, hx⟩ := List.nodup_cons.1 hx
    obtain ⟨hy0, hy⟩ := List.nodup_cons.1 hy
    have nz : ∀ x ∈ x0 :: xs, ∀ y ∈ y0 :: ys, x ^^^ y ≠ 0 := fun x h1 y h2 e => hd x h1 y h2 (bx_eq_zero.1 e)
    have m0 : x0 ∈ x0 :: xs := List.mem_cons_self ..
    have n0 : y0 ∈ y0 :: ys := List.mem_cons_self ..
    -- what each equation says of v y0
    have key : ∀ x ∈ x0 :: xs, lsum ys (fun y => gmul (x ^^^ y0) (gmul (v y) (ginv (x ^^^ y)))) = v y0 := by
      intro x hxm
      have h := he x hxm
      simp only [lsum] at h
      rw [lsum_mul]
      have h2 := bx_eq_zero.1 h
      rw [← h2, gmul_left_comm, gmul_ginv _ (nz x hxm y0 n0), gmul_one]
    have small : ∀ y ∈ ys, gmul (v y) (gmul (y0 ^^^ y) (ginv (x0 ^^^ y))) = 0 := by
      refine cauchy_zero xs ys _ hx hy (fun x h1 y h2 => hd x (List.mem_cons_of_mem _ h1) y (List.mem_cons_of_mem _ h2)) (by simpa using hl) ?_
      intro x hxm
      have hxm' : x ∈ x0 :: xs := List.mem_cons_of_mem _ hxm
      have hne : x ^^^ x0 ≠ 0 := fun e => hx0 (bx_eq_zero.1 e ▸ hxm)
      have h := (key x hxm').trans (key x0 m0).symm
      have h2 := bx_eq_zero.2 h
      rw [← lsum_add] at h2
      have h3 : lsum ys (fun y => gmul (x ^^^ x0) (gmul (gmul (v y) (gmul (y0 ^^^ y) (ginv (x0 ^^^ y)))) (ginv (x ^^^ y)))) = 0 := by
        rw [← h2]
        refine lsum_congr fun y hym => ?_
        have a1 := nz x hxm' y (List.mem_cons_of_mem _ hym)
        have a2 := nz x0 m0 y (List.mem_cons_of_mem _ hym)
        have e := cauchy_part (d := y0 ^^^ y) a1 a2
        have s1 : x ^^^ y ^^^ (y0 ^^^ y) = x ^^^ y0 := by rw [bx_comm y0, bx_assoc, bx_cancel_left]
        have s2 : x0 ^^^ y ^^^ (y0 ^^^ y) = x0 ^^^ y0 := by rw [bx_comm y0, bx_assoc, bx_cancel_left]
        have s3 : x ^^^ y ^^^ (x0 ^^^ y) = x ^^^ x0 := by rw [bx_comm x0, bx_assoc, bx_cancel_left]
        rw [s1, s2, s3] at e
        rw [gmul_left_comm (x ^^^ y0), gmul_left_comm (x0 ^^^ y0), ← gmul_add_right, e]
        rw [gmul_assoc (v y), gmul_left_comm (x ^^^ x0)]
      rw [lsum_mul] at h3
      exact (gmul_eq_zero.1 h3).resolve_left hne
    have zs : ∀ y ∈ ys, v y = 0 := by
      intro y hym
      have h := small y hym
      have hne : y0 ^^^ y ≠ 0 := fun e => hy0 (bx_eq_zero.1 e ▸ hym)
      exact (gmul_eq_zero.1 h).resolve_right (gmul_ne_zero hne (ginv_ne_zero (nz x0 m0 y (List.mem_cons_of_mem _ hym))))
    intro y hym
    rcases List.mem_cons.1 hym with rfl | hym
    · rw [← key x0 m0]
      exact lsum_zero fun z hz => by rw [zs z hz, zero_gmul, gmul_zero]
    · exact zs y hym
/-- The row with the number p: of the identity, or of Cauchy's matrix below it. -/
def rowEl (n p c : Nat) : B := if p < n then (if p = c then 1 else 0) else ginv (UInt8.ofNat p ^^^ UInt8.ofNat c)
theorem ofNat_inj {a b : Nat} (ha : a < 256) (hb : b < 256) (h : UInt8.ofNat a = UInt8.ofNat b) : a = b := by
  have := congrArg UInt8.toNat h
  rw [UInt8.toNat_ofNat', UInt8.toNat_ofNat'] at this
  omega
theorem nodup_ofNat : ∀ {l : List Nat}, l.Nodup → (∀ a ∈ l, a < 256) → (l.map UInt8.ofNat).Nodup
  | [], _, _ => List.nodup_nil
  | a :: l, h, hb => by
    obtain ⟨h1, h2⟩ := List.nodup_cons.1 h
    rw [List.map_cons, List.nodup_cons]
    refine ⟨fun hm => ?_, nodup_ofNat h2 fun b hb' => hb b (List.mem_cons_of_mem _ hb')⟩
    obtain ⟨b, hb1, hb2⟩ := List.mem_map.1 hm
    have := ofNat_inj (hb b (List.mem_cons_of_mem _ hb1)) (hb a (List.mem_cons_self ..)) hb2
    exact h1 (this ▸ hb1)
theorem nodup_filter {α : Type} (p : α → Bool) : ∀ {l : List α}, l.Nodup → (l.filter p).Nodup
  | [], _ => List.nodup_nil
  | a :: l, h => by
    obtain ⟨h1, h2⟩ := List.nodup_cons.1 h
    cases hp : p a with
    | true => rw [List.filter_cons_of_pos (by simpa using hp), List.nodup_cons]; exact ⟨fun hm => h1 (List.mem_filter.1 hm).1, nodup_filter p h2⟩
    | false => rw [List.filter_cons_of_neg (by simp [hp])]; exact nodup_filter p h2
theorem nodup_range (n : Nat) : (List.range n).Nodup := List.nodup_range
/-- A list without repetition whose members lie in another is not longer. -/
theorem nodup_le : ∀ {l k : List Nat}, l.Nodup → (∀ a ∈ l, a ∈ k) → l.length ≤ k.length
  | [], _, _, _ => Nat.zero_le _
  | a :: l, k, h, hs => by
    obtain ⟨h1, h2⟩ := List.nodup_cons.1 h
    have hk : a ∈ k := hs a (List.mem_cons_self ..)
    have := nodup_le (k := k.erase a) h2 fun b hb => (List.mem_erase_of_ne (by rintro rfl; exact h1 hb)).2 (hs b (List.mem_cons_of_mem _ hb))
    rw [List.length_erase_of_mem hk] at this
    have : 0 < k.length := List.length_pos_of_mem hk
    simp only [List.length_cons]
    omega
theorem filter_split {α : Type} (p : α → Bool) : ∀ l : List α, (l.filter p).length + (l.filter fun a => !p a).length = l.length
  | [] => rfl
  | a :: l => by
    have := filter_split p l
    cases hp : p a
    · rw [List.filter_cons_of_neg (by simp [hp]), List.filter_cons_of_pos (by simp [hp])]; simp only [List.length_cons]; omega
    · rw [List.filter_cons_of_pos (by simpa using hp), List.filter_cons_of_neg (by simp [hp])]; simp only [List.length_cons]; omega
theorem any_rows {n : Nat} (hn : n ≤ 256) {P : List Nat} (hP : P.Nodup) (hl : n ≤ P.length) (hb : ∀ p ∈ P, p < 256) (v : Nat → B)
    (he : ∀ p ∈ P, bsum n (fun c => gmul (rowEl n p c) (v c)) = 0) : ∀ c, c < n → v c = 0 := by
  have hS : ∀ c, c < n → c ∈ P → v c = 0 := by
    intro c hc hm
    have h := he c hm
    rw [bsum_one (p := c) hc] at h
    · rwa [rowEl, if_pos hc, if_pos rfl, one_gmul] at h
    · intro j _ hj
      rw [rowEl, if_pos hc, if_neg (Ne.symm hj), zero_gmul]
  -- the columns that no row of the identity names, and the rows of Cauchy's matrix
  let ys := (List.range n).filter fun c => !decide (c ∈ P)
  let xs := P.filter fun p => !decide (p < n)
  have hys : ∀ c, c ∈ ys ↔ c < n ∧ c ∉ P := fun c => by simp [ys, List.mem_filter]
  have hxs : ∀ p, p ∈ xs ↔ p ∈ P ∧ ¬ p < n := fun p => by simp [xs, List.mem_filter]
  have hlen : ys.length ≤ xs.length := by
    have h1 := filter_split (fun c => decide (c ∈ P)) (List.range n)
    have h2 := filter_split (fun p => decide (p < n)) P
    have h3 : (P.filter fun p => decide (p < n)).length ≤ ((List.range n).filter fun c => decide (c ∈ P)).length :=
      nodup_le (nodup_filter _ hP) fun a ha => by
        obtain ⟨ha1, ha2⟩ := List.mem_filter.1 ha
        exact List.mem_filter.2 ⟨List.mem_range.2 (by simpa using ha2), by simpa using ha1⟩
    have h4 : ((List.range n).filter fun c => decide (c ∈ P)).length ≤ (P.filter fun p => decide (p < n)).length :=
      nodup_le (nodup_filter _ (nodup_range n)) fun a ha => by
        obtain ⟨ha1, ha2⟩ := List.mem_filter.1 ha
        exact List.mem_filter.2 ⟨by simpa using ha2, by simpa using ha1⟩
    rw [List.length_range] at h1
    show ((List.range n).filter fun c => !decide (c ∈ P)).length ≤ (P.filter fun p => !decide (p < n)).length
    omega
  have hz := cauchy_zero (xs.map UInt8.ofNat) (ys.map UInt8.ofNat) (fun y => v y.toNat)
    (nodup_ofNat (nodup_filter _ hP) fun a ha => hb a ((hxs a).1 ha).1)
    (nodup_ofNat (nodup_filter _ (nodup_range n)) fun a ha => by have := ((hys a).1 ha).1; omega)
    (by
      intro x hx y hy e
      obtain ⟨p, hp, rfl⟩ := List.mem_map.1 hx
      obtain ⟨c, hc, rfl⟩ := List.mem_map.1 hy
      have h1 := (hxs p).1 hp
      have h2 := (hys c).1 hc
      have := ofNat_inj (hb p h1.1) (by omega) e
      omega)
    (by rw [List.length_map, List.length_map]; exact hlen)
    (by
      intro x hx
      obtain ⟨p, hp, rfl⟩ := List.mem_map.1 hx
      have h1 := (hxs p).1 hp
      have h := he p h1.1
      rw [← lsum_range, ← lsum_filter (fun c => !decide (c ∈ P))] at h
      · rw [← h]
        clear h
        show lsum (ys.map UInt8.ofNat) _ = lsum ys _
        have hyb : ∀ c ∈ ys, c < 256 := fun c hc => by have := ((hys c).1 hc).1; omega
        generalize ys = ys at hyb
        induction ys with
        | nil => rfl
        | cons c l ih =>
          simp only [List.map_cons, lsum]
          rw [ih fun c hc => hyb c (List.mem_cons_of_mem _ hc), rowEl, if_neg h1.2, gmul_comm]
          have : (UInt8.ofNat c).toNat = c := by rw [UInt8.toNat_ofNat']; exact Nat.mod_eq_of_lt (hyb c (List.mem_cons_self ..))
          rw [this]
      · intro c hc hp
        rw [hS c (by simpa using hc) (by simpa using hp), gmul_zero])
  intro c hc
  by_cases hm : c ∈ P
  · exact hS c hc hm
  · have := hz (UInt8.ofNat c) (List.mem_map.2 ⟨c, (hys c).2 ⟨hc, hm⟩, rfl⟩)
    have e : (UInt8.ofNat c).toNat = c := by rw [UInt8.toNat_ofNat']; exact Nat.mod_eq_of_lt (by omega)
    rwa [e] at this
end Kin
-- Lines of this claim, written by the session's own program kprint.py (it runs print.py).
namespace Go.Proofs.Ytpkghpljgjlmjaa.K
open Go.RowKit Go.Proofs.YtpkghpljgjlmjaaW.PrintWords Go.Proofs.YtpkghpljgjlmjaaW.PrintLast Go.Proofs.YtpkghpljgjlmjaaW.PrintMore
attribute [local go_sem] max2_int min2_int max_two min_two max_three min_three max_four min_four   -- for this text's walks alone
set_option linter.unusedVariables false
set_option linter.unusedSimpArgs false
/-! ### reedsolomon_Valid: function 37 -/
def reedsolomon_Valid.f (a0 : Int) (a1 : Int) : Option (Bool) := if a0 ≥ 1 then (if a0 ≤ 8 then (if a1 ≥ a0 then (some (decide (a1 ≤ 16))) else (some false)) else (some false)) else (some false)
set_option maxHeartbeats 8000000 in
set_option maxRecDepth 100000 in
theorem reedsolomon_Valid.calls (a0 : Int) (a1 : Int) (r : Bool) (w : World) (h : reedsolomon_Valid.f a0 a1 = some r) :
    Calls Try.prog 37 #[.int .i64 a0, .int .i64 a1] w fun e w' => e = .returned (.bool r) ∧ Drawn0 w w' := by
  have H : (if a0 ≥ 1 then (if a0 ≤ 8 then (if a1 ≥ a0 then (some (decide (a1 ≤ 16))) else (some false)) else (some false)) else (some false)) = some r := h
  clear h
  by_cases c3 : a0 ≥ 1
  · rw [if_pos c3] at H
    have c3b0 : decide (1 ≤ a0) = true := decide_eq_true c3
    clear c3
    by_cases c4 : a0 ≤ 8
    · rw [if_pos c4] at H
      have c4b0 : decide (a0 ≤ 8) = true := decide_eq_true c4
      clear c4
      by_cases c5 : a1 ≥ a0
      · rw [if_pos c5] at H
        have c5b0 : decide (a0 ≤ a1) = true := decide_eq_true c5
        clear c5
        obtain rfl := Option.some.inj H
        go_enter Try.func37, Try.ntmps37
        go_wp2
        go_ret
        exact ⟨by first | rfl | (simp; done) | (simp [*]; done), by repeat (first | exact Drawn0.refl _ | apply Drawn0.step)⟩
      · rw [if_neg c5] at H
        have c5b0 : decide (a0 ≤ a1) = false := decide_eq_false c5
        clear c5
        obtain rfl := Option.some.inj H
        go_enter Try.func37, Try.ntmps37
        go_wp2
        go_ret
        exact ⟨by first | rfl | (simp; done) | (simp [*]; done), by repeat (first | exact Drawn0.refl _ | apply Drawn0.step)⟩
    · rw [if_neg c4] at H
      have c4b0 : decide (a0 ≤ 8) = false := decide_eq_false c4
      clear c4
      obtain rfl := Option.some.inj H
      go_enter Try.func37, Try.ntmps37
      go_wp2
      go_ret
      exact ⟨by first | rfl | (simp; done) | (simp [*]; done), by repeat (first | exact Drawn0.refl _ | apply Drawn0.step)⟩
  · rw [if_neg c3] at H
    have c3b0 : decide (1 ≤ a0) = false := decide_eq_false c3
    clear c3
    obtain rfl := Option.some.inj H
    go_enter Try.func37, Try.ntmps37
    go_wp2
    go_ret
    exact ⟨by first | rfl | (simp; done) | (simp [*]; done), by repeat (first | exact Drawn0.refl _ | apply Drawn0.step)⟩
end Go.Proofs.Ytpkghpljgjlmjaa.K
namespace Go.Proofs.Ytpkghpljgjlmjaa.K
open Go.RowKit Go.Proofs.YtpkghpljgjlmjaaW.PrintWords Go.Proofs.YtpkghpljgjlmjaaW.PrintLast Go.Proofs.YtpkghpljgjlmjaaW.PrintMore
set_option linter.unusedSimpArgs false
set_option linter.unusedVariables false

/-- slices.Clone at []byte: a new row with the same bytes (nil for nil). -/
def slices_Clone_byte_byte.f (l0 : List Int) : Option (List Int) := if l0.length ≤ 140737488351232 then some l0 else none
set_option maxRecDepth 100000 in
set_option maxHeartbeats 400000 in
theorem slices_Clone_byte_byte.calls (A0 : Option Addr) (c0 : Nat) (l0 : List Int) (r : List Int) (w : World) (hr0 : Kd.C (Kd.int .u8) w A0 l0.length l0) (hc0 : l0.length ≤ c0) (h : slices_Clone_byte_byte.f l0 = some r) :
    Calls Try.prog 63 #[.slice A0 l0.length c0] w fun e w' => ∃ v0_ : Value, e = .returned (v0_) ∧ Kd.R (Kd.int .u8) 5 w' w.heap.size (fun _ => True) v0_ r ∧ Below w.heap.size w w' := by
  unfold slices_Clone_byte_byte.f at h
  split at h
  · rename_i hlen
    obtain rfl := Option.some.inj h
    clear h
    have HB := Aside0.mk (Below.refl w.heap.size w)
    have HL := Aside0.mk hlen
    clear hlen
    cases A0 with
    | none =>
      have h0 : l0 = [] := by
        rcases hr0 with ⟨_, _, h3⟩
        cases l0 with
        | nil => rfl
        | cons x l => obtain ⟨ad, e, _⟩ := h3 (by simp); cases e
      subst h0
      clear hr0
      have heq := fun W => Lib.run_eql_slice_nil (P := Try.prog) W 34 5 none 0 c0 0 0 Try.underlying34
      go_enter Try.func63, Try.ntmps63
      go_wp2
      go_ret
      exact ⟨_, rfl, Kd.R_nil _ _ _ _ _, HB.out⟩
    | some ad =>
      have heq := fun W => Lib.run_eql_slice_nil (P := Try.prog) W 34 5 (some ad) l0.length c0 0 0 Try.underlying34
      have HR0 := Aside0.mk hr0
      clear hr0
      go_enter Try.func63, Try.ntmps63
      go_wp2_with (first | ((with_reducible refine gate_dst (N := 5) rfl ?_); refine Kd.R_lit (Kd.int .u8) (w0 := w) w.heap.size 5 rfl (N := 5) rfl (xs := ([] : List Int)) (inner := []) (ok := fun _ => True) (okp := fun _ => False) ?hrun (Reps.none _ _) (fun _ _ => trivial) trivial HB.out (Nat.le_refl _) (by simp) ?_; (case hrun => first | (go_simp; done) | (go_simp; rfl)); intro v1 w1 hv1 hb1 hg1 hat1; have HV1 := Aside0.mk hv1; have HB1 := Aside0.mk hb1; clear hv1 hb1 hg1 hat1) | ((with_reducible refine gate_dst (N := 7) rfl ?_); refine Kd.R_append_row (Value.int .u8) (0 : Int) (h1 := fun _ => rfl) (w0 := w) w.heap.size rfl (.tmp 5) (.tmp 6) 34 5 (.int .u8 0) 1 rfl Try.underlying34 info5 rfl (by decide) v1 [] l0 (some ad) l0.length c0 (fun _ => True) rfl rfl (fun _ _ => trivial) HV1.out (Kd.C_below HR0.out HB1.out) HB1.out HB1.out.size ?hl ?_; (case hl => have := HL.out; simp only [List.length_nil]; omega); intro v2 w2 hv2 hb2 hg2 hat2; have HV2 := Aside0.mk hv2; have HB2 := Aside0.mk hb2; clear hv2 hb2 hg2 hat2))
      go_ret
      exact ⟨_, rfl, HV2.out, HB2.out⟩
  · cases h
end Go.Proofs.Ytpkghpljgjlmjaa.K
-- Lines of this claim, written by the session's own program kprint.py (it runs print.py).
namespace Go.Proofs.Ytpkghpljgjlmjaa.K
open Go.RowKit Go.Proofs.YtpkghpljgjlmjaaW.PrintWords Go.Proofs.YtpkghpljgjlmjaaW.PrintLast Go.Proofs.YtpkghpljgjlmjaaW.PrintMore
attribute [local go_sem] max2_int min2_int max_two min_two max_three min_three max_four min_four   -- for this text's walks alone
set_option linter.unusedVariables false
set_option linter.unusedSimpArgs false

/-! ### gf256_MulAdd: function 66 -/
def gf256_MulAdd.l0 : Nat → List Int → List Int → Int → Int → Option (List Int × Int)
  | 0, _, _, _, _ => none
  | k + 1, x8, x19, x20, x21 => if x21 < x20 then (if 0 ≤ x21 then (if x21 < (x19.length : Int) then (if x21 < (x8.length : Int) then ((gf256_Add.f (rd x8 x21) (rd x19 x21)).bind fun t106 => (gf256_MulAdd.l0 k (x8.set (x21 : Int).toNat t106) x19 x20 (wrap64 (x21 + 1)))) else (none)) else (none)) else (none)) else (some (x8, 0))
def gf256_MulAdd.f (k : Nat) (l0 : List Int) (l1 : List Int) (a2 : Int) : Option (List Int × Int) := if (l0.length : Int) = (l1.length : Int) then ((gf256_Scale.f l1 a2).bind fun t101 => (gf256_MulAdd.l0 k t101 l0 (l0.length : Int) 0)) else (some (([] : List Int), 1))
set_option maxHeartbeats 8000000 in
set_option maxRecDepth 100000 in
theorem gf256_MulAdd.calls (k : Nat) (A0 : Option Addr) (c0 : Nat) (l0 : List Int) (A1 : Option Addr) (c1 : Nat) (l1 : List Int) (a2 : Int) (r1 : List Int) (r2 : Int) (w : World) (hr0 : Kd.C (Kd.int .u8) w A0 l0.length l0) (hc0 : l0.length ≤ c0) (hr1 : Kd.C (Kd.int .u8) w A1 l1.length l1) (hc1 : l1.length ≤ c1) (h : gf256_MulAdd.f k l0 l1 a2 = some (r1, r2)) :
    Calls Try.prog 66 #[.slice A0 l0.length c0, .slice A1 l1.length c1, .int .u8 a2] w fun e w' => ∃ v0_ : Value, e = .returned (.tuple #[v0_, .int .i64 r2]) ∧ Kd.R (Kd.int .u8) 5 w' w.heap.size (fun _ => True) v0_ r1 ∧ Below w.heap.size w w' := by
  have HR0 := Aside0.mk hr0
  have HC0 := Aside0.mk hc0
  clear hr0 hc0
  have HR1 := Aside0.mk hr1
  have HC1 := Aside0.mk hc1
  clear hr1 hc1
  have HB := Aside0.mk (Below.refl w.heap.size w)
  have H : (if (l0.length : Int) = (l1.length : Int) then ((gf256_Scale.f l1 a2).bind fun t101 => (gf256_MulAdd.l0 k t101 l0 (l0.length : Int) 0)) else (some (([] : List Int), 1))) = some (r1, r2) := h
  clear h
  by_cases c4 : (l0.length : Int) = (l1.length : Int)
  · rw [if_pos c4] at H
    have c4b0 : ((l0.length : Int) == (l1.length : Int)) = true := beq_iff_eq.mpr c4
    have c4b1 : ((l0.length : Int) != (l1.length : Int)) = false := bne_eq_false_iff_eq.mpr c4
    have c4b2 : (l0.length == l1.length) = true := by first | simpa using c4 | (simp at c4 ⊢; omega)
    clear c4
    replace H := Option.bind_eq_some_iff.mp H
    obtain ⟨t101, A50, H⟩ := H
    replace H : (gf256_MulAdd.l0 k t101 l0 (l0.length : Int) 0) = some (r1, r2) := H
    have A5 := Aside0.mk A50
    clear A50
    have H' := Aside0.mk H
    clear H
    go_enter Try.func66, Try.ntmps66
    go_wp2_with (first | ((with_reducible refine gate_callee (f := 88) rfl ?_); refine goesL_ (some 18) rfl rfl Try.func88 (by kernel_rfl) rfl #[.slice A1 l1.length c1, .int .u8 a2] rfl (by (try simp only [List.map_toArray, List.map_cons, List.map_nil]); first | done | rfl | (simp only [List.length_drop, List.length_take]; rfl)) ?_; (with_reducible refine (gf256_Scale.calls _ _ l1 a2 t101 _ ?side1 ?side2 A5.out).mono ?_); (case side1 => repeat (first | exact HR1.out | (with_reducible refine Kd.C_alloc ?_ _) | (with_reducible refine Kd.C_drewN ?_ _) | (with_reducible refine Kd.C_drew ?_))); (case side2 => exact HC1.out); rintro e w6 ⟨v102, rfl, ho0, hb⟩; refine ⟨_, rfl, ?_⟩; have n0_ := Aside0.mk (Kd.R_lower ho0 (below_size (by repeat (first | (with_reducible first | exact HB.out | apply below_alloc | apply pw_below_drewN | apply below_drew1) | exact HB.out)))); have n1_ := Aside0.mk (below_step (by repeat (first | (with_reducible first | exact HB.out | apply below_alloc | apply pw_below_drewN | apply below_drew1) | exact HB.out)) hb); clear HB; have HO103 := n0_; have HB := n1_; clear n0_ n1_; (try clear hb); (try clear hb2); (try clear hk); (try clear hi); (try clear ho0)))
    go_loopg [21] k (fun kq v21 w' => ∃ (x8_1 : List Int) (x21_1 : Int), v21 = .int .i64 x21_1 ∧ Aside0 (gf256_MulAdd.l0 kq x8_1 l0 (l0.length : Int) x21_1 = some (r1, r2)) ∧ Aside0 (kq ≤ k) ∧ Aside0 (Kd.R (Kd.int .u8) 5 w' w.heap.size (fun _ => True) v102 x8_1) ∧ Aside0 (Below w.heap.size w w'))
    case atStart => exact ⟨(t101), (0), (by first | rfl | (simp; done) | (simp [*]; done)), H', ⟨Nat.le_refl _⟩, ⟨by (with_reducible repeat (first | apply Kd.R_alloc | apply Kd.R_drewN | apply Kd.R_drew)); exact HO103.out⟩, ⟨by repeat (first | (with_reducible first | exact HB.out | apply below_alloc | apply pw_below_drewN | apply below_drew1) | exact HB.out)⟩⟩
    case round =>
      clear H'
      try clear c1
      try clear p2
      try clear c4
      try clear c4b0
      try clear c4b1
      try clear c4b2
      try clear c6
      obtain ⟨x8_1, x21_1, rfl, HA, HK1, HO_8, HB⟩ := hrel
      cases gk with
      | zero => exact absurd HA.out (by simp [gf256_MulAdd.l0])
      | succ k1 =>
        have H := HA.out
        clear HA
        simp only [gf256_MulAdd.l0] at H
        by_cases c7 : x21_1 < (l0.length : Int)
        · rw [if_pos c7] at H
          have c7b0 : decide (x21_1 < (l0.length : Int)) = true := decide_eq_true c7
          clear c7
          by_cases c8 : 0 ≤ x21_1
          · rw [if_pos c8] at H
            have c8b0 : decide (0 ≤ x21_1) = true := decide_eq_true c8
            clear c8
            by_cases c9 : x21_1 < (l0.length : Int)
            · rw [if_pos c9] at H
              have c9b0 : decide (x21_1 < (l0.length : Int)) = true := decide_eq_true c9
              clear c9
              by_cases c10 : x21_1 < (x8_1.length : Int)
              · rw [if_pos c10] at H
                have c10b0 : decide (x21_1 < (x8_1.length : Int)) = true := decide_eq_true c10
                clear c10
                replace H := Option.bind_eq_some_iff.mp H
                obtain ⟨t106, A110, H⟩ := H
                replace H : (gf256_MulAdd.l0 k1 (x8_1.set (x21_1 : Int).toNat t106) l0 (l0.length : Int) (wrap64 (x21_1 + 1))) = some (r1, r2) := H
                have A11 := Aside0.mk A110
                clear A110
                obtain ⟨y107, hy107⟩ : ∃ y_ : List Int, y_ = (x8_1.set (x21_1 : Int).toNat t106) := ⟨_, rfl⟩
                replace H : (gf256_MulAdd.l0 k1 y107 l0 (l0.length : Int) (wrap64 (x21_1 + 1))) = some (r1, r2) := by first | (rw [hy107]; with_reducible exact H) | (have H2_ := (Option.bind_some _ _).symm.trans H; rw [hy107]; with_reducible exact H2_) | (have H2_ := (Option.bind_some _ _).symm.trans H; with_reducible exact H2_) | with_reducible exact H | (rw [hy107]; exact H) | exact H
                have Ny107 := Aside0.mk hy107
                clear hy107
                have H' := Aside0.mk H
                clear H
                have p104 : 0 ≤ (x21_1 : Int) := of_decide_eq_true (by first | (with_reducible assumption) | assumption)
                have q104 : x21_1 < (l0.length : Int) := of_decide_eq_true (by first | (with_reducible assumption) | assumption)
                obtain ⟨ad104, e104, hx104_0⟩ := Kd.at_int HR0.out x21_1 p104 q104
                cases e104
                replace hx104_0 := (HB.out.cell (World.block_lt_of_cell? w _ hx104_0)).trans hx104_0
                replace p104 := eq_true p104
                replace q104 := eq_true q104
                obtain ⟨Ao13, co13, eo13⟩ := Kd.R_slice HO_8.out
                subst eo13
                have p105 : 0 ≤ (x21_1 : Int) := of_decide_eq_true (by first | (with_reducible assumption) | assumption)
                have q105 : x21_1 < (x8_1.length : Int) := of_decide_eq_true (by first | (with_reducible assumption) | assumption)
                obtain ⟨ad105, e105, hx105_0⟩ := Kd.at_int (Kd.R_reads' HO_8.out).2.2 x21_1 p105 q105
                cases e105
                replace p105 := eq_true p105
                replace q105 := eq_true q105
                go_wp2_with (first | ((with_reducible refine gate_callee (f := 89) rfl ?_); refine goesL_ (some 33) rfl rfl Try.func89 (by kernel_rfl) rfl #[.int .u8 (rd x8_1 x21_1), .int .u8 (rd l0 x21_1)] rfl (by (try simp only [List.map_toArray, List.map_cons, List.map_nil]); first | done | rfl | (simp only [List.length_drop, List.length_take]; rfl)) ?_; (with_reducible refine (gf256_Add.calls (rd x8_1 x21_1) (rd l0 x21_1) t106 _ A11.out).mono ?_); rintro e w' ⟨rfl, ⟨nd, rfl⟩⟩; refine ⟨_, rfl, ?_⟩; (try (rw [drewN_self wr]; generalize hq_ : World.drewN wr _ = wr; have n0_ : Aside0 (Kd.R (Kd.int .u8) 5 wr w.heap.size (fun _ => True) (.slice (some ad105) x8_1.length co13) x8_1) := ⟨by rw [← hq_]; exact (by (with_reducible repeat (first | apply Kd.R_alloc | apply Kd.R_drewN | apply Kd.R_drew)); exact HO_8.out)⟩; have n1_ : Aside0 (Below w.heap.size w wr) := ⟨by rw [← hq_]; exact (by repeat (first | (with_reducible first | exact HB.out | apply below_alloc | apply pw_below_drewN | apply below_drew1) | exact HB.out))⟩; clear HO_8 HB hq_; have HO_8 := n0_; have HB := n1_; clear n0_ n1_)); have p12 : 0 ≤ (x21_1 : Int) := of_decide_eq_true (by first | (with_reducible assumption) | assumption); have q12 : (x21_1 : Int) < ((x8_1.length : Int) : Int) := of_decide_eq_true (by first | (with_reducible assumption) | assumption); obtain ⟨go12, co12, eo12, gb12, gl12, cl12, HG12⟩ := Kd.R_form HO_8.out (by omega); (first | cases eo12 | (injection eo12 with ea_ en_ ec_; (first | subst ea_ | (injection ea_ with ea_; subst ea_)); subst ec_; clear en_)); have GB12 := Aside0.mk gb12; have GG12 := Aside0.mk HG12; clear gb12 gl12 HG12; (first | simp only [add_plain] at hx105_0 | skip); obtain ⟨hx12_0, hf12_0⟩ := Kd.R_celln 0 HO_8.out (x21_1 : Int) p12 q12; replace p12 := eq_true p12; replace q12 := eq_true q12; obtain ⟨hy14_, hz14_⟩ := Kd.R_celln 0 HO_8.out (x21_1 : Int) (of_decide_eq_true (by first | (with_reducible assumption) | assumption)) (of_decide_eq_true (by first | (with_reducible assumption) | assumption)); have HP14 := Kd.R_putg HO_8.out (x21_1 : Int) t106) | ((with_reducible refine gate_store (t := 5) (p := 34) rfl ?_); refine store_event (t := 5) (p := 34) (v := ?vo_w15) (w1 := (wr.setCell ⟨go12, (x21_1 : Int).toNat, none⟩ (.int .u8 t106))) ?hg ?ho ?hn ?hr ?_; (case ho => rfl); (case hg => rfl); (case hn => rfl); (case hr => first | (go_simp; done) | (go_simp; rfl)); intro w15 hw; have hg : wr.grownBy w15 (some go12) := (by rw [hw]; exact HP14.2); have hp_ : Kd.R (Kd.int .u8) 5 w15 w.heap.size (fun _ => True) (.slice (some ⟨go12, 0, none⟩) x8_1.length co13) y107 := (by rw [hw, Ny107.out]; exact HP14.1); clear HP14; have n0_ := Aside0.mk (hp_); have n1_ := Aside0.mk ((by rw [hw]; exact below_set (HB.out) GB12.out : Below w.heap.size w w15)); clear HO_8; clear HB; have HO_8 := n0_; have HB := n1_; clear n0_ n1_; clear hg hw hp_))
                go_roundg k1
                case measure => have := HK1.out; omega
                case rel => exact ⟨(y107), (wrap64 (x21_1 + 1)), (by first | rfl | (simp; done) | (simp [*]; done)), H', ⟨by have := HK1.out; omega⟩, ⟨by (with_reducible repeat (first | apply Kd.R_alloc | apply Kd.R_drewN | apply Kd.R_drew)); exact HO_8.out⟩, ⟨by repeat (first | (with_reducible first | exact HB.out | apply below_alloc | apply pw_below_drewN | apply below_drew1) | exact HB.out)⟩⟩
              · rw [if_neg c10] at H
                exact absurd H (by simp)
            · rw [if_neg c9] at H
              exact absurd H (by simp)
          · rw [if_neg c8] at H
            exact absurd H (by simp)
        · rw [if_neg c7] at H
          have c7b0 : decide (x21_1 < (l0.length : Int)) = false := decide_eq_false c7
          clear c7
          simp only [Option.some.injEq, Prod.mk.injEq] at H
          obtain ⟨rfl, rfl⟩ := H
          go_wp2
          go_ret2
          exact ⟨_, by first | rfl | (simp [errW_none, errW_some] <;> rfl) | (simp [*, errW_none, errW_some] <;> rfl), by (with_reducible repeat (first | apply Kd.R_alloc | apply Kd.R_drewN | apply Kd.R_drew)); exact HO_8.out, by repeat (first | (with_reducible first | exact HB.out | apply below_alloc | apply pw_below_drewN | apply below_drew1) | exact HB.out)⟩
  · rw [if_neg c4] at H
    have c4b0 : ((l0.length : Int) == (l1.length : Int)) = false := beq_eq_false_iff_ne.mpr c4
    have c4b1 : ((l0.length : Int) != (l1.length : Int)) = true := bne_iff_ne.mpr c4
    have c4b2 : (l0.length == l1.length) = false := by first | simpa using c4 | (simp at c4 ⊢; omega)
    simp only [Option.some.injEq, Prod.mk.injEq] at H
    obtain ⟨rfl, rfl⟩ := H
    go_enter Try.func66, Try.ntmps66
    go_wp2
    go_ret2
    exact ⟨_, by first | rfl | (simp [errW_none, errW_some] <;> rfl) | (simp [*, errW_none, errW_some] <;> rfl), by first | exact Kd.R_nil _ _ _ _ _ | exact Kd.N_nil _ _ _ _ _ | exact Kd.V_nil _ _ _ _ _ | exact Kd.Q_nil _ _ _ _ _ | exact Kd.S_nil _ _ _ _ _, by repeat (first | (with_reducible first | exact HB.out | apply below_alloc | apply pw_below_drewN | apply below_drew1) | exact HB.out)⟩
/-! ### matrix_clone: function 86 -/
def matrix_clone.l0 : Nat → List (List Int) → List (List Int) → Int → Int → Option ((List (List Int)))
  | 0, _, _, _, _ => none
  | k + 1, x3, x9, x10, x11 => if x11 < x10 then (if 0 ≤ x11 then (if x11 < (x9.length : Int) then ((slices_Clone_byte_byte.f (rd_L1 x9 x11)).bind fun t112 => (if x11 < (x3.length : Int) then (matrix_clone.l0 k (x3.set (x11 : Int).toNat t112) x9 x10 (wrap64 (x11 + 1))) else (none))) else (none)) else (none)) else (some x3)
def matrix_clone.f (k : Nat) (l0 : List (List Int)) : Option ((List (List Int))) := if 0 ≤ (l0.length : Int) then (if ((l0.length : Int) : Int).toNat ≤ 11728124029610 then (matrix_clone.l0 k (List.replicate ((l0.length : Int) : Int).toNat []) l0 (l0.length : Int) 0) else (none)) else (none)
set_option maxHeartbeats 8000000 in
set_option maxRecDepth 100000 in
theorem matrix_clone.calls (k : Nat) (A0 : Option Addr) (c0 : Nat) (l0 : List (List Int)) (r : List (List Int)) (w : World) (hr0 : Kd.C (Kd.slice 5 (Kd.int .u8)) w A0 l0.length l0) (hc0 : l0.length ≤ c0) (h : matrix_clone.f k l0 = some r) :
    Calls Try.prog 86 #[.slice A0 l0.length c0] w fun e w' => ∃ v0_ : Value, e = .returned (v0_) ∧ Kd.S (Kd.slice 5 (Kd.int .u8)) 34 w' w.heap.size (fun _ => True) v0_ r ∧ Below w.heap.size w w' := by
  have HR0 := Aside0.mk hr0
  have HC0 := Aside0.mk hc0
  clear hr0 hc0
  have HB := Aside0.mk (Below.refl w.heap.size w)
  have H : (if 0 ≤ (l0.length : Int) then (if ((l0.length : Int) : Int).toNat ≤ 11728124029610 then (matrix_clone.l0 k (List.replicate ((l0.length : Int) : Int).toNat []) l0 (l0.length : Int) 0) else (none)) else (none)) = some r := h
  clear h
  by_cases c2 : 0 ≤ (l0.length : Int)
  · rw [if_pos c2] at H
    have c2b0 := eq_true c2
    have c2b1 : decide (0 ≤ (l0.length : Int)) = true := decide_eq_true c2
    clear c2
    by_cases c3 : ((l0.length : Int) : Int).toNat ≤ 11728124029610
    · rw [if_pos c3] at H
      have c3b0 := eq_true c3
      have c3b1 : decide (((l0.length : Int) : Int).toNat ≤ 11728124029610) = true := decide_eq_true c3
      clear c3
      obtain ⟨y108, hy108⟩ : ∃ y_ : List (List Int), y_ = (List.replicate ((l0.length : Int) : Int).toNat []) := ⟨_, rfl⟩
      replace H : (matrix_clone.l0 k y108 l0 (l0.length : Int) 0) = some r := by first | (rw [hy108]; with_reducible exact H) | (have H2_ := (Option.bind_some _ _).symm.trans H; rw [hy108]; with_reducible exact H2_) | (have H2_ := (Option.bind_some _ _).symm.trans H; with_reducible exact H2_) | with_reducible exact H | (rw [hy108]; exact H) | exact H
      have Ny108 := Aside0.mk hy108
      clear hy108
      have H' := Aside0.mk H
      clear H
      go_enter Try.func86, Try.ntmps86
      go_wp2_with (first | ((with_reducible refine gate_dst (N := 8) rfl ?_); refine Kd.S_make (Kd.slice 5 (Kd.int .u8)) _ 34 rfl (N := 8) rfl 22 _ _ rfl (l0.length : Int) rfl rfl Try.underlying22 (.slice none 0 0) 24 info34 rfl (by decide) (by omega) [] (ok := fun _ => True) (okp := fun _ => True) ⟨_, rfl, Kd.R_nil _ _ _ _ _⟩ (fun _ hk => hk) trivial (of_decide_eq_true (by first | (with_reducible assumption) | assumption)) (Nat.le_trans (Nat.mul_le_mul_right _ (of_decide_eq_true (by first | (with_reducible assumption) | assumption) : (l0.length : Int).toNat ≤ 11728124029610)) (by omega)) (Below.refl _ _) (Nat.le_refl _) ?_; intro v109 w4 ho5 hb hg_ hnew_; clear hg_ hnew_; (first | rw [← Ny108.out] at ho5 | (simp only [Int.reduceToNat] at ho5; rw [← Ny108.out] at ho5)); have n0_ := Aside0.mk (Kd.S_lower ho5 (below_size (by repeat (first | (with_reducible first | exact HB.out | apply below_alloc | apply pw_below_drewN | apply below_drew1) | exact HB.out)))); have n1_ := Aside0.mk (below_step (by repeat (first | (with_reducible first | exact HB.out | apply below_alloc | apply pw_below_drewN | apply below_drew1) | exact HB.out)) hb); clear HB; have HO110 := n0_; have HB := n1_; clear n0_ n1_; clear hb ho5))
      go_loopg [11] k (fun kq v11 w' => ∃ (x3_1 : List (List Int)) (x11_1 : Int), v11 = .int .i64 x11_1 ∧ Aside0 (matrix_clone.l0 kq x3_1 l0 (l0.length : Int) x11_1 = some r) ∧ Aside0 (kq ≤ k) ∧ Aside0 (Kd.S (Kd.slice 5 (Kd.int .u8)) 34 w' w.heap.size (fun _ => True) v109 x3_1) ∧ Aside0 (Below w.heap.size w w'))
      case atStart => exact ⟨(y108), (0), (by first | rfl | (simp; done) | (simp [*]; done)), H', ⟨Nat.le_refl _⟩, ⟨by (with_reducible repeat (first | apply Kd.S_alloc | apply Kd.S_drewN | apply Kd.S_drew)); exact HO110.out⟩, ⟨by repeat (first | (with_reducible first | exact HB.out | apply below_alloc | apply pw_below_drewN | apply below_drew1) | exact HB.out)⟩⟩
      case round =>
        clear H'
        try clear c2
        try clear c2b0
        try clear c2b1
        try clear p2
        try clear c3
        try clear c3b0
        try clear c3b1
        obtain ⟨x3_1, x11_1, rfl, HA, HK1, HO_3, HB⟩ := hrel
        cases gk with
        | zero => exact absurd HA.out (by simp [matrix_clone.l0])
        | succ k1 =>
          have H := HA.out
          clear HA
          simp only [matrix_clone.l0] at H
          by_cases c6 : x11_1 < (l0.length : Int)
          · rw [if_pos c6] at H
            have c6b0 : decide (x11_1 < (l0.length : Int)) = true := decide_eq_true c6
            clear c6
            by_cases c7 : 0 ≤ x11_1
            · rw [if_pos c7] at H
              have c7b0 : decide (0 ≤ x11_1) = true := decide_eq_true c7
              clear c7
              by_cases c8 : x11_1 < (l0.length : Int)
              · rw [if_pos c8] at H
                have c8b0 : decide (x11_1 < (l0.length : Int)) = true := decide_eq_true c8
                clear c8
                replace H := Option.bind_eq_some_iff.mp H
                obtain ⟨t112, A90, H⟩ := H
                replace H : (if x11_1 < (x3_1.length : Int) then (matrix_clone.l0 k1 (x3_1.set (x11_1 : Int).toNat t112) l0 (l0.length : Int) (wrap64 (x11_1 + 1))) else (none)) = some r := H
                have A9 := Aside0.mk A90
                clear A90
                by_cases c10 : x11_1 < (x3_1.length : Int)
                · rw [if_pos c10] at H
                  have c10b0 : decide (x11_1 < (x3_1.length : Int)) = true := decide_eq_true c10
                  clear c10
                  obtain ⟨y115, hy115⟩ : ∃ y_ : List (List Int), y_ = (x3_1.set (x11_1 : Int).toNat t112) := ⟨_, rfl⟩
                  replace H : (matrix_clone.l0 k1 y115 l0 (l0.length : Int) (wrap64 (x11_1 + 1))) = some r := by first | (rw [hy115]; with_reducible exact H) | (have H2_ := (Option.bind_some _ _).symm.trans H; rw [hy115]; with_reducible exact H2_) | (have H2_ := (Option.bind_some _ _).symm.trans H; with_reducible exact H2_) | with_reducible exact H | (rw [hy115]; exact H) | exact H
                  have Ny115 := Aside0.mk hy115
                  clear hy115
                  have H' := Aside0.mk H
                  clear H
                  have p111 : 0 ≤ (x11_1 : Int) := of_decide_eq_true (by first | (with_reducible assumption) | assumption)
                  have q111 : x11_1 < (l0.length : Int) := of_decide_eq_true (by first | (with_reducible assumption) | assumption)
                  obtain ⟨ad111, A111_0, c111_0, e111, hx111_0, hl111_0, hi111_0⟩ := at_L1 HR0.out x11_1 p111 q111
                  cases e111
                  replace hx111_0 := (HB.out.cell (World.block_lt_of_cell? w _ hx111_0)).trans hx111_0
                  have HR111_0 := Aside0.mk hi111_0
                  have HC111_0 := Aside0.mk hl111_0
                  clear hi111_0 hl111_0
                  replace p111 := eq_true p111
                  replace q111 := eq_true q111
                  go_wp2_with (first | ((with_reducible refine gate_callee (f := 63) rfl ?_); refine goesL_ (some 19) rfl rfl Try.func63 (by kernel_rfl) rfl #[.slice A111_0 (rd_L1 l0 x11_1).length c111_0] rfl (by (try simp only [List.map_toArray, List.map_cons, List.map_nil]); first | done | rfl | (simp only [List.length_drop, List.length_take]; rfl)) ?_; (with_reducible refine (slices_Clone_byte_byte.calls _ _ (rd_L1 l0 x11_1) t112 _ ?side1 ?side2 A9.out).mono ?_); (case side1 => repeat (first | exact (Kd.C_below HR111_0.out HB.out) | (with_reducible refine Kd.C_alloc ?_ _) | (with_reducible refine Kd.C_drewN ?_ _) | (with_reducible refine Kd.C_drew ?_))); (case side2 => exact HC111_0.out); rintro e w12 ⟨v113, rfl, ho0, hb⟩; refine ⟨_, rfl, ?_⟩; have n0_ := Aside0.mk (Kd.S_elder' (by (with_reducible repeat (first | apply Kd.S_alloc | apply Kd.S_drewN | apply Kd.S_drew)); exact HO_3.out) (Kd.R_base ho0) hb); have n1_ := Aside0.mk (Kd.R_lower ho0 (below_size (by repeat (first | (with_reducible first | exact HB.out | apply below_alloc | apply pw_below_drewN | apply below_drew1) | exact HB.out)))); have n2_ := Aside0.mk (below_step (by repeat (first | (with_reducible first | exact HB.out | apply below_alloc | apply pw_below_drewN | apply below_drew1) | exact HB.out)) hb); clear HO_3; clear HB; have HO_3 := n0_; have HO114 := n1_; have HB := n2_; clear n0_ n1_ n2_; (try clear hb); (try clear hb2); (try clear hk); (try clear hi); (try clear ho0); have p11 : 0 ≤ (x11_1 : Int) := of_decide_eq_true (by first | (with_reducible assumption) | assumption); have q11 : (x11_1 : Int) < ((x3_1.length : Int) : Int) := of_decide_eq_true (by first | (with_reducible assumption) | assumption); obtain ⟨go11, co11, eo11, gb11, gl11, cl11, HG11⟩ := Kd.S_form HO_3.out (by omega); (first | cases eo11 | (injection eo11 with ea_ en_ ec_; (first | subst ea_ | (injection ea_ with ea_; subst ea_)); subst ec_; clear en_)); have GB11 := Aside0.mk gb11; have GG11 := Aside0.mk HG11; clear gb11 gl11 HG11; obtain ⟨_, ce11, hcl11, hM11, hcc11, hfr11, _, _⟩ := Kd.S_elem HO_3.out [] (x11_1 : Int) p11 q11; obtain ⟨ve11_0, rfl, ge11_0⟩ := hM11; have hx11_0 := hcc11 0 _ rfl; have hf11_0 := hfr11 0; (try simp only [show ((Kd.slice 5 (Kd.int .u8))).sz = 1 from rfl, Nat.mul_one, Nat.add_zero] at hx11_0); (try simp only [show ((Kd.slice 5 (Kd.int .u8))).sz = 1 from rfl, Nat.mul_one, Nat.add_zero] at hf11_0); clear hcl11 hcc11 hfr11; (try clear hM11); replace p11 := eq_true p11; replace q11 := eq_true q11; have n_ := Aside0.mk (Kd.S_mono (ok' := (fun k_ => some k_ ≠ (v113 : Value).ownBlock)) HO_3.out (fun k_ hk => hk.2)); clear HO_3; have HO_3 := n_; clear n_; have HX13 := Aside0.mk (show Kd.S (Kd.slice 5 (Kd.int .u8)) 34 w12 w.heap.size (fun k_ => ((fun _ => True)) k_ ∧ ¬ ((fun k_ => some k_ = (v113 : Value).ownBlock)) k_) (.slice (some ⟨go11, 0, none⟩) x3_1.length co11) x3_1 from (by (with_reducible repeat (first | apply Kd.S_alloc | apply Kd.S_drewN | apply Kd.S_drew)); exact Kd.S_mono HO_3.out (fun k_ hk => ⟨trivial, fun e_ => hk e_⟩))); obtain ⟨oki13, ce13, hcl13, hM13, hcc13, hfr13, hoki13, hH13⟩ := Kd.S_elem HX13.out [] (x11_1 : Int) (of_decide_eq_true (by first | (with_reducible assumption) | assumption)) (by have h_ : (x11_1 : Int) < ((x3_1.length : Int) : Int) := of_decide_eq_true (by first | (with_reducible assumption) | assumption); first | exact h_ | (have e_ := (Kd.S_reads' HO_3.out).1; omega) | simpa using h_); obtain ⟨ve13_0, rfl, ge13_0⟩ := hM13; have HP13 := Kd.S_seg hH13 (of_decide_eq_true (by first | (with_reducible assumption) | assumption)) (by have h_ : (x11_1 : Int) < ((x3_1.length : Int) : Int) := of_decide_eq_true (by first | (with_reducible assumption) | assumption); first | exact h_ | (have e_ := (Kd.S_reads' HO_3.out).1; omega) | simpa using h_) (seg := [v113]) (j := 0) (show 1 ≤ 1 from by decide) (x' := t112) (Kd.M_row (Kd.R_mono (Kd.R_tight rfl (Kd.R_mono (ok' := fun k_ => ((fun _ => True)) k_ ∧ k_ ≠ go11) (Kd.R_apart' (HO114.out) (Kd.S_typed HO_3.out) (by decide)) (fun k_ hk => ⟨trivial, fun e_ => (hk.2) (by rw [e_]; rfl)⟩))) (fun _ h_ => Or.inr (h_)))) (fun _ hk => hk) (fun k_ hk_ => ((Kd.R_mono (ok' := fun k_ => ((fun _ => True)) k_ ∧ k_ ≠ go11) (Kd.R_apart' (HO114.out) (Kd.S_typed HO_3.out) (by decide)) (fun k_ hk => ⟨trivial, fun e_ => (hk.2) (by rw [e_]; rfl)⟩))).1 k_ hk_.symm); have hx13_0 := hcc13 0 _ rfl; (try simp only [show ((Kd.slice 5 (Kd.int .u8))).sz = 1 from rfl, Nat.mul_one, Nat.add_zero] at hx13_0); have hf13_0 := hfr13 0; (try simp only [show ((Kd.slice 5 (Kd.int .u8))).sz = 1 from rfl, Nat.mul_one, Nat.add_zero] at hf13_0); clear hcl13 hcc13 hfr13 hoki13 hH13; (try clear hM13); (try simp only [show ((Kd.slice 5 (Kd.int .u8))).sz = 1 from rfl, Nat.mul_one, Nat.add_zero] at HP13)) | ((with_reducible refine gate_store (t := 34) (p := 20) rfl ?_); refine store_event (t := 34) (p := 20) (v := ?vo_w14) (w1 := (w12.setCell ⟨go11, (x11_1 : Int).toNat, none⟩ (v113))) ?hg ?ho ?hn ?hr ?_; (case ho => rfl); (case hg => rfl); (case hn => rfl); (case hr => first | (go_simp; done) | (go_simp; rfl) | (obtain ⟨A_, c_, e_⟩ : ∃ A_ c_, v113 = .slice A_ _ c_ := Kd.R_slice (Aside0.out (by assumption)); rw [e_]; go_simp; done) | (obtain ⟨A_, c_, e_⟩ : ∃ A_ c_, v113 = .slice A_ _ c_ := Kd.R_slice (Aside0.out (by assumption)); rw [e_]; go_simp; rfl)); intro w14 hw; have hg : w12.grownBy w14 (some go11) := (by rw [hw]; exact HP13.2); have hp_ : Kd.S (Kd.slice 5 (Kd.int .u8)) 34 w14 w.heap.size (fun _ => True) (.slice (some ⟨go11, 0, none⟩) x3_1.length co11) y115 := (by rw [hw, Ny115.out]; exact HP13.1); clear HP13; have n0_ := Aside0.mk (hp_); have n1_ := Aside0.mk ((by rw [hw]; exact below_set (HB.out) GB11.out : Below w.heap.size w w14)); clear HO_3; clear HB; clear HO114; have HO_3 := n0_; have HB := n1_; clear n0_ n1_; clear hg hw hp_))
                  go_roundg k1
                  case measure => have := HK1.out; omega
                  case rel => exact ⟨(y115), (wrap64 (x11_1 + 1)), (by first | rfl | (simp; done) | (simp [*]; done)), H', ⟨by have := HK1.out; omega⟩, ⟨by (with_reducible repeat (first | apply Kd.S_alloc | apply Kd.S_drewN | apply Kd.S_drew)); exact HO_3.out⟩, ⟨by repeat (first | (with_reducible first | exact HB.out | apply below_alloc | apply pw_below_drewN | apply below_drew1) | exact HB.out)⟩⟩
                · rw [if_neg c10] at H
                  exact absurd H (by simp)
              · rw [if_neg c8] at H
                exact absurd H (by simp)
            · rw [if_neg c7] at H
              exact absurd H (by simp)
          · rw [if_neg c6] at H
            have c6b0 : decide (x11_1 < (l0.length : Int)) = false := decide_eq_false c6
            clear c6
            obtain rfl := Option.some.inj H
            go_wp2
            go_ret
            exact ⟨_, by first | rfl | (simp [errW_none, errW_some] <;> rfl) | (simp [*, errW_none, errW_some] <;> rfl), by (with_reducible repeat (first | apply Kd.S_alloc | apply Kd.S_drewN | apply Kd.S_drew)); exact HO_3.out, by repeat (first | (with_reducible first | exact HB.out | apply below_alloc | apply pw_below_drewN | apply below_drew1) | exact HB.out)⟩
    · rw [if_neg c3] at H
      exact absurd H (by simp)
  · rw [if_neg c2] at H
    exact absurd H (by simp)
end Go.Proofs.Ytpkghpljgjlmjaa.K
/- gf256.MulAdd and matrix.clone compute what is said here. -/
namespace Go.Proofs.Ytpkghpljgjlmjaa.K
open Go.RowKit Go.Proofs.YtpkghpljgjlmjaaW.PrintWords Kin
set_option linter.unusedSimpArgs false
set_option linter.unusedVariables false
theorem wrap_nat {i : Nat} (h : i < 9223372036854775807) : wrap64 ((i : Int) + 1) = ((i + 1 : Nat) : Int) := by
  unfold wrap64
  omega
/-- d plus c times s, byte by byte. -/
def addS (d s : List B) (c : B) : List B := List.zipWith (fun a x => a ^^^ gmul x c) d s
theorem addS_length (d s : List B) (c : B) (h : d.length = s.length) : (addS d s c).length = d.length := by simp [addS, h]
theorem getD_up (l : List B) (i : Nat) : rd (up l) (i : Int) = b2i (l.getD i 0) := by rw [rd_up, Int.toNat_natCast]
theorem muladd_l0 (m : Nat) : ∀ (k i : Nat) (o d : List B), o.length = d.length → d.length ≤ 140737488351232 → d.length - i = m → i ≤ d.length → m < k →
    gf256_MulAdd.l0 k (up o) (up d) (d.length : Int) (i : Int) = some (up (o.take i ++ List.zipWith (fun a b => b ^^^ a) (d.drop i) (o.drop i)), 0) := by
  induction m with
  | zero =>
    intro k i o d hl hn hm hi hk
    obtain ⟨k, rfl⟩ : ∃ j, k = j + 1 := ⟨k - 1, by omega⟩
    have : i = d.length := by omega
    subst this
    simp only [gf256_MulAdd.l0]
    rw [if_neg (by omega)]
    rw [List.take_of_length_le (by omega), List.drop_of_length_le (Nat.le_refl _)]
    simp
  | succ m ih =>
    intro k i o d hl hn hm hi hk
    obtain ⟨k, rfl⟩ : ∃ j, k = j + 1 := ⟨k - 1, by omega⟩
    simp only [gf256_MulAdd.l0]
    rw [if_pos (by omega), if_pos (by omega), if_pos (by rw [up_length]; omega), if_pos (by rw [up_length]; omega), getD_up, getD_up, add_b]
    simp only [Option.bind_some]
    rw [Int.toNat_natCast, set_up, wrap_nat (by omega), ih _ _ _ _ (by simpa using hl) hn (by omega) (by omega) (by omega)]
    congr 3
    have hio : i < o.length := by omega
    rw [List.take_succ_eq_append_getElem (by simpa using hio)]
    rw [List.drop_set_of_lt (by omega), List.take_set_of_le (Nat.le_refl _)]
    simp [List.getD_eq_getElem?_getD, List.getElem?_eq_getElem hio, List.getElem?_eq_getElem (show i < d.length by omega)]
    rw [List.drop_eq_getElem_cons (show i < d.length by omega), List.drop_eq_getElem_cons hio, List.zipWith_cons_cons]
theorem muladd_up (d s : List B) (c : B) (hl : d.length = s.length) (hn : d.length ≤ 140737488351232) {k : Nat} (hk : d.length < k) :
    gf256_MulAdd.f k (up d) (up s) (b2i c) = some (up (addS d s c), 0) := by
  rw [gf256_MulAdd.f, if_pos (by rw [up_length, up_length, hl]), scale_up s c (by omega)]
  simp only [Option.bind_some]
  have h := muladd_l0 d.length k 0 (s.map fun x => gmul x c) d (by simp [hl]) hn (by omega) (by omega) hk
  rw [up_length]
  rw [show (0 : Int) = ((0 : Nat) : Int) from rfl, h]
  congr 3
  rw [List.take_zero, List.nil_append, List.drop_zero, List.drop_zero, addS, List.zipWith_map_right]
  congr 1
  funext a x
  exact bx_comm _ _
theorem clone_l0 (m : Nat) : ∀ (k i : Nat) (o l : List (List Int)), o.length = l.length → l.length ≤ 11728124029610 → (∀ x ∈ l, x.length ≤ 140737488351232) → l.length - i = m → i ≤ l.length → m < k →
    matrix_clone.l0 k o l (l.length : Int) (i : Int) = some (o.take i ++ l.drop i) := by
  induction m with
  | zero =>
    intro k i o l hl hn hx hm hi hk
    obtain ⟨k, rfl⟩ : ∃ j, k = j + 1 := ⟨k - 1, by omega⟩
    have : i = l.length := by omega
    subst this
    simp only [matrix_clone.l0]
    rw [if_neg (by omega), List.take_of_length_le (by omega), List.drop_of_length_le (Nat.le_refl _), List.append_nil]
  | succ m ih =>
    intro k i o l hl hn hx hm hi hk
    obtain ⟨k, rfl⟩ : ∃ j, k = j + 1 := ⟨k - 1, by omega⟩
    have hio : i < l.length := by omega
    have hr : rd_L1 l (i : Int) = l[i] := by simp [rd_L1, List.getD_eq_getElem?_getD, List.getElem?_eq_getElem hio]
    simp only [matrix_clone.l0]
    rw [if_pos (by omega), if_pos (by omega), if_pos (by omega), hr, slices_Clone_byte_byte.f, if_pos (hx _ (List.getElem_mem hio))]
    simp only [Option.bind_some]
    rw [if_pos (by omega), Int.toNat_natCast, wrap_nat (by omega), ih _ _ _ _ (by simpa using hl) hn hx (by omega) (by omega) (by omega)]
    congr 1
    rw [List.take_succ_eq_append_getElem (by simp; omega), List.take_set_of_le (Nat.le_refl _), List.drop_eq_getElem_cons hio]
    simp
theorem clone_eq (l : List (List Int)) (hn : l.length ≤ 11728124029610) (hx : ∀ x ∈ l, x.length ≤ 140737488351232) {k : Nat} (hk : l.length < k) : matrix_clone.f k l = some l := by
  rw [matrix_clone.f, if_pos (by omega), if_pos (by omega)]
  have h := clone_l0 l.length k 0 (List.replicate l.length []) l (by simp) hn hx (by omega) (by omega) hk
  rw [Int.toNat_natCast]
  rw [show (0 : Int) = ((0 : Nat) : Int) from rfl, h]
  rfl
end Go.Proofs.Ytpkghpljgjlmjaa.K
/- The reference's functions over the field, plain: its product and inverse are the field's; Zero, Same, Ints. -/
namespace Go.Proofs.Ytpkghpljgjlmjaa.K
open Go.RowKit Go.Proofs.YtpkghpljgjlmjaaW.PrintWords Go.Proofs.YtpkghpljgjlmjaaW.PrintLast Go.Proofs.YtpkghpljgjlmjaaW.PrintMore Kin
set_option linter.unusedSimpArgs false
set_option linter.unusedVariables false
theorem i64_xor_nat (a b : Nat) (ha : a < 9223372036854775808) (hb : b < 9223372036854775808) : Go.bits .xor .i64 (a : Int) (b : Int) = ((a ^^^ b : Nat) : Int) := by
  have hx : a ^^^ b < 2 ^ 63 := Nat.xor_lt_two_pow (by omega) (by omega)
  show IntKind.i64.wrap ((BitVec.ofInt 64 (a : Int) ^^^ BitVec.ofInt 64 (b : Int)).toNat : Int) = _
  rw [BitVec.toNat_xor, BitVec.toNat_ofInt, BitVec.toNat_ofInt, IntKind.wrap_i64, show ((a : Int) % ((2 ^ 64 : Nat) : Int)).toNat = a by omega, show ((b : Int) % ((2 ^ 64 : Nat) : Int)).toNat = b by omega]
  omega
theorem wrap_small (x : Int) (h0 : -9223372036854775808 ≤ x) (h1 : x < 9223372036854775808) : wrap64 x = x := by
  unfold wrap64
  omega
end Go.Proofs.Ytpkghpljgjlmjaa.K
/- reedsolomon.coefficients: its table. -/
namespace Go.Proofs.Ytpkghpljgjlmjaa.K
open Go.RowKit Go.Proofs.YtpkghpljgjlmjaaW.PrintWords Go.Proofs.YtpkghpljgjlmjaaW.PrintLast Go.Proofs.YtpkghpljgjlmjaaW.PrintMore Kin
set_option linter.unusedSimpArgs false
set_option linter.unusedVariables false
def coefEl (d i c : Nat) : B := if c < d then rowEl d i c else 0
def CoefSt (w0 w : World) (d i k : Nat) : Prop := ∃ cs : Array Value, w.heap[w0.heap.size]? = some (.cells Try.zeroCells86 86 (0, 0)) ∧ w.heap[w0.heap.size + 1]? = some (.cells cs 86 (0, 0)) ∧ cs.size = 128 ∧
  (∀ a b, a < 16 → b < 8 → cs[a * 8 + b]? = some (.int .u8 (b2i (if a < i ∨ (a = i ∧ b < k) then coefEl d a b else 0)))) ∧ Below w0.heap.size w0 w
def IsCoef (cs : Array Value) (d : Nat) : Prop := cs.size = 128 ∧ ∀ a b, a < 16 → b < 8 → cs[a * 8 + b]? = some (.int .u8 (b2i (coefEl d a b)))
theorem coefSt_cell {w0 w : World} {d i k : Nat} (h : CoefSt w0 w d i k) {a b : Nat} (ha : a < 16) (hb : b < 8) : ∃ v, w.cell? ⟨w0.heap.size + 1, a * 8 + b, none⟩ = some v := by
  obtain ⟨cs, _, h2, h3, h4, _⟩ := h
  exact ⟨_, by rw [blk_cell h2]; exact h4 a b ha hb⟩
theorem coefSt_free {w0 w : World} {d i k : Nat} (h : CoefSt w0 w d i k) (j : Nat) : w.frozen? ⟨w0.heap.size + 1, j, none⟩ = false := by
  obtain ⟨cs, _, h2, _⟩ := h
  exact blk_frozen h2 j
theorem coefSt_drew {w0 w : World} {d i k : Nat} (h : CoefSt w0 w d i k) (n : Nat) : CoefSt w0 (w.drewN n) d i k := by
  obtain ⟨cs, h1, h2, h3, h4, h5⟩ := h
  exact ⟨cs, h1, h2, h3, h4, pw_below_drewN h5 n⟩
theorem coefSt_set {w0 w : World} {d i k : Nat} (h : CoefSt w0 w d i k) (hi : i < 16) (hk : k < 8) : CoefSt w0 (w.setCell ⟨w0.heap.size + 1, i * 8 + k, none⟩ (.int .u8 (b2i (coefEl d i k)))) d i (k + 1) := by
  obtain ⟨cs, h1, h2, h3, h4, h5⟩ := h
  refine ⟨cs.setIfInBounds (i * 8 + k) (.int .u8 (b2i (coefEl d i k))), ?_, blk_set h2 _ _, by simpa using h3, fun a b ha hb => ?_, h5.setCell (by show _ ≤ w0.heap.size + 1; omega) _⟩
  · rw [heap_setCell_other _ _ _ _ (by show _ ≠ w0.heap.size + 1; omega)]; exact h1
  · by_cases e : a = i ∧ b = k
    · obtain ⟨rfl, rfl⟩ := e
      rw [Array.getElem?_setIfInBounds_self_of_lt (by omega), if_pos (.inr ⟨rfl, by omega⟩)]
    · rw [Array.getElem?_setIfInBounds_ne (by omega), h4 a b ha hb]
      have : (a < i ∨ a = i ∧ b < k + 1) ↔ (a < i ∨ a = i ∧ b < k) := by omega
      simp only [this]
theorem coefSt_skip {w0 w : World} {d i k : Nat} (h : CoefSt w0 w d i k) (hz : coefEl d i k = 0) : CoefSt w0 w d i (k + 1) := by
  obtain ⟨cs, h1, h2, h3, h4, h5⟩ := h
  refine ⟨cs, h1, h2, h3, fun a b ha hb => ?_, h5⟩
  rw [h4 a b ha hb]
  by_cases e : a = i ∧ b = k
  · obtain ⟨rfl, rfl⟩ := e
    rw [if_neg (by omega), if_pos (.inr ⟨rfl, by omega⟩), hz]
  · have : (a < i ∨ a = i ∧ b < k + 1) ↔ (a < i ∨ a = i ∧ b < k) := by omega
    simp only [this]
theorem coefSt_next {w0 w : World} {d i : Nat} (h : CoefSt w0 w d i d) : CoefSt w0 w d (i + 1) 0 := by
  obtain ⟨cs, h1, h2, h3, h4, h5⟩ := h
  refine ⟨cs, h1, h2, h3, fun a b ha hb => ?_, h5⟩
  rw [h4 a b ha hb]
  congr 3
  by_cases e : a = i ∧ ¬ b < d
  · obtain ⟨rfl, e⟩ := e
    rw [if_neg (by omega), if_pos (.inl (by omega))]
    unfold coefEl
    rw [if_neg e]
  · have : (a < i ∨ a = i ∧ b < d) ↔ (a < i + 1 ∨ a = i + 1 ∧ b < 0) := by omega
    simp only [this]
theorem coefSt_done {w0 w : World} {d : Nat} (h : CoefSt w0 w d 16 0) : ∃ cs, w.heap[w0.heap.size]? = some (.cells Try.zeroCells86 86 (0, 0)) ∧ w.heap[w0.heap.size + 1]? = some (.cells cs 86 (0, 0)) ∧ IsCoef cs d := by
  obtain ⟨cs, h1, h2, h3, h4, h5⟩ := h
  exact ⟨cs, h1, h2, h3, fun a b ha hb => by rw [h4 a b ha hb, if_pos (.inl ha)]⟩
theorem IsCoef.all {cs : Array Value} {d : Nat} (h : IsCoef cs d) : cs.all (·.oneCell') = true := by
  rw [Array.all_eq_true]
  intro j hj
  have := h.2 (j / 8) (j % 8) (by have := h.1; omega) (by omega)
  rw [show j / 8 * 8 + j % 8 = j by omega, Array.getElem?_eq_getElem hj] at this
  rw [Option.some.inj this]
  rfl
theorem IsCoef.store {cs : Array Value} {d : Nat} (h : IsCoef cs d) {w : World} {g : Nat} {old : Array Value} (hg : w.heap[g]? = some (.cells old 86 (0, 0))) (ho : old.size = 128) :
    (storeCells ⟨g, 0, none⟩ cs.toList).run Try.prog w = .ok () (w.setRow g cs) := by
  have := run_storeCells_from (P := Try.prog) g 86 cs.toList 0 old w hg (by have := h.1; simp; omega) (fun v hv => (Array.all_eq_true_iff_forall_mem.1 h.all) v (by simpa using hv))
  rw [this]
  simp
theorem size86 : (Try.prog.info? 86).map (·.size) = some 128 := by kernel_rfl
theorem xor_bytes (i k : Nat) (hi : i < 256) (hk : k < 256) : IntKind.u8.wrap (Go.bits .xor .i64 (i : Int) (k : Int)) = b2i (UInt8.ofNat i ^^^ UInt8.ofNat k) := by
  rw [i64_xor_nat i k (by omega) (by omega)]
  have h : i ^^^ k < 256 := Nat.xor_lt_two_pow (n := 8) hi hk
  rw [Go.IntWalk.u8_in _ (by omega)]
  unfold b2i
  rw [UInt8.toNat_xor, UInt8.toNat_ofNat', UInt8.toNat_ofNat', Nat.mod_eq_of_lt hi, Nat.mod_eq_of_lt hk]
theorem coefSt_start (w : World) (d : Nat) (hd : d ≤ 8) : CoefSt w ((w.alloc (.cells Try.zeroCells86 86 (0, 0))).alloc (.cells Try.zeroCells86 86 (0, 0))) d 0 0 := by
  refine ⟨Try.zeroCells86, heap_alloc2_old _ _ _, heap_alloc2_new _ _ _, by kernel_rfl, fun a b ha hb => ?_, below_alloc (below_alloc (Below.refl _ _) _) _⟩
  rw [if_neg (by omega)]
  have h : Try.zeroCells86 = Array.replicate 128 (.int .u8 0) := by kernel_rfl
  rw [h, Array.getElem?_replicate, if_pos (by omega)]
  rfl
set_option maxRecDepth 100000 in
set_option maxHeartbeats 2000000 in
theorem coefficients_calls (d : Nat) (hd1 : 1 ≤ d) (hd : d ≤ 8) (w : World) :
    Calls Try.prog 70 #[.int .i64 (d : Int)] w fun e w' => ∃ cs : Array Value, e = .returned (.agg cs) ∧ IsCoef cs d ∧ Below w.heap.size w w' := by
  go_enter Try.func70, Try.ntmps70
  go_wp2
  go_loopw [6] (fun v6 wr => ∃ i : Nat, i ≤ 16 ∧ v6 = .int .i64 (i : Int) ∧ Aside0 (CoefSt w wr d i 0)) (fun v6 _ => 16 - (intOf v6).toNat)
  case atStart => exact ⟨0, by omega, rfl, ⟨coefSt_start w d hd⟩⟩
  case round =>
    obtain ⟨i, hi, rfl, HA⟩ := hrel
    by_cases hi2 : i < 16
    · have i0 : (0 : Int) ≤ (i : Int) := by omega
      have i1 : (i : Int) < (16 : Int) := by omega
      go_wp2
      obtain ⟨wo, rfl⟩ : ∃ wo : World, wo = wr := ⟨_, rfl⟩
      go_loopw [10] (fun v10 wr => ∃ k : Nat, k ≤ d ∧ v10 = .int .i64 (k : Int) ∧ Aside0 (CoefSt w wr d i k)) (fun v10 _ => d - (intOf v10).toNat)
      case atStart => exact ⟨0, by omega, rfl, HA⟩
      case round =>
        clear HA
        obtain ⟨k, hk, rfl, HA⟩ := hrel
        by_cases hk2 : k < d
        · obtain ⟨old, hcell⟩ := coefSt_cell HA.out hi2 (show k < 8 by omega)
          have hfr := coefSt_free HA.out (i * 8 + k)
          have k0 : (0 : Int) ≤ (k : Int) := by omega
          have k1 : (k : Int) < (8 : Int) := by omega
          by_cases hid : d ≤ i
          · have HX := Aside0.mk (show IntKind.u8.wrap (Go.bits .xor .i64 (i : Int) (k : Int)) = b2i (UInt8.ofNat i ^^^ UInt8.ofNat k) from xor_bytes i k (by omega) (by omega))
            have HI := Aside0.mk (inv_b (UInt8.ofNat i ^^^ UInt8.ofNat k) (k := 18) (by omega))
            have HE := Aside0.mk (show coefEl d i k = ginv (UInt8.ofNat i ^^^ UInt8.ofNat k) by unfold coefEl rowEl; rw [if_pos hk2, if_neg (by omega)])
            generalize (if UInt8.ofNat i ^^^ UInt8.ofNat k = 0 then (1 : Int) else 0) = ec at HI
            generalize (UInt8.ofNat i ^^^ UInt8.ofNat k) = z at HI HX HE
            go_wp2
            go_region_with (first | (go_at_call 78; rw [HX.out]; (with_reducible refine (gf256_Inv.calls 18 _ _ _ _ HI.out).mono ?_); rintro e w1 ⟨rfl, ⟨n1, hn1⟩⟩; subst hn1) | (rw [HX.out]; (with_reducible refine (gf256_Inv.calls 18 _ _ _ _ HI.out).mono ?_); rintro e w1 ⟨rfl, ⟨n1, hn1⟩⟩; subst hn1))
            all_goals
              have hP := coefSt_set (coefSt_drew HA.out (1 + n1)) hi2 (show k < 8 by omega)
              rw [HE.out] at hP
              have HP := Aside0.mk hP
              clear hP
              go_wp2
              go_roundw
              case rel => first | exact ⟨k + 1, by omega, by go_num, HP⟩ | ((repeat apply Exists.intro); exact ⟨⟨k + 1, by omega, by go_num, HP⟩, rfl⟩)
              case measure => simp [intOf]; omega
          · by_cases hik : i = k
            · subst hik
              have hE : coefEl d i i = 1 := by unfold coefEl rowEl; rw [if_pos hk2, if_pos (by omega), if_pos rfl]
              have hP := coefSt_set HA.out hi2 (show i < 8 by omega)
              rw [hE] at hP
              have HP := Aside0.mk hP
              clear hP hE
              go_wp2
              go_roundw
              case rel => exact ⟨i + 1, by omega, by go_num, HP⟩
              case measure => simp [intOf]; omega
            · have HP := Aside0.mk (coefSt_skip HA.out (k := k) (by unfold coefEl rowEl; rw [if_pos hk2, if_pos (by omega), if_neg hik]))
              go_wp2
              go_roundw
              case rel => exact ⟨k + 1, by omega, by go_num, HP⟩
              case measure => simp [intOf]; omega
        · obtain rfl : k = d := by omega
          have HA2 := Aside0.mk (coefSt_next HA.out)
          clear HA
          go_wp2
          go_roundw
          case rel => exact ⟨i + 1, by omega, by go_num, HA2⟩
          case measure => simp [intOf]; omega
    · obtain rfl : i = 16 := by omega
      obtain ⟨cs, h1, h2, hcs⟩ := coefSt_done HA.out
      have hB : Below w.heap.size w wr := by obtain ⟨_, _, _, _, _, h⟩ := HA.out; exact h
      have H1 := Aside0.mk h1
      have H2 := Aside0.mk h2
      have HC := Aside0.mk hcs
      have HB := Aside0.mk hB
      clear h1 h2 hcs hB HA
      go_wp2
      refine wp_load_row 86 (.tmp 3) rfl (w.heap.size + 1) rfl 86 cs (0, 0) _ H2.out Try.underlying86 rfl (by rw [HC.out.1]; exact size86) ?_
      have hst := HC.out.store H1.out (by kernel_rfl)
      have hsz := HC.out.1
      go_wp2
      exact bodyPost_ret (v := .agg cs) (results_cell_row (by rfl) _ _ w.heap.size 86 cs (0, 0) _ (by rfl) (setRow_heap _ _ _ _ _ _ H1.out) Try.underlying86 rfl (by rw [HC.out.1]; exact size86)) rfl ⟨cs, rfl, HC.out, below_setRow HB.out (Nat.le_refl _) _⟩
end Go.Proofs.Ytpkghpljgjlmjaa.K
/- reedsolomon.Row: the coefficients of a piece. -/
namespace Go.Proofs.Ytpkghpljgjlmjaa.K
open Go.RowKit Go.Proofs.YtpkghpljgjlmjaaW.PrintWords Go.Proofs.YtpkghpljgjlmjaaW.PrintLast Go.Proofs.YtpkghpljgjlmjaaW.PrintMore Kin
set_option linter.unusedSimpArgs false
set_option linter.unusedVariables false
theorem C_at {k : IntKind} {W : World} {x : Addr} {zs : List Int} (hm : zs.length ≤ maxLen) (hcell : ∀ i, i < zs.length → W.cell? (x.add i) = some (.int k (zs.getD i 0))) :
    Kd.C (Kd.int k) W (some x) zs.length zs := by
  refine ⟨rfl, by have : zs.length ≤ 9223372036854775807 := hm; omega, fun hp => ⟨x, rfl, fun i y hi => ?_⟩⟩
  have hil : i < zs.length := (List.getElem?_eq_some_iff.1 hi).1
  have hy : y = zs.getD i 0 := by rw [List.getD_eq_getElem?_getD, hi]; rfl
  subst hy
  refine ⟨[.int k (zs.getD i 0)], rfl, rfl, fun j u hj => ?_⟩
  cases j with
  | zero =>
    simp only [List.getElem?_cons_zero, Option.some.injEq] at hj
    subst hj
    rw [show i * (Kd.int k).sz + 0 = i from by show i * 1 + 0 = i; omega]
    exact hcell i hil
  | succ j => simp at hj
/-- The first n coefficients of the piece i, in the code with d data pieces. -/
def coefRow (n d i : Nat) : List B := (List.range n).map (coefEl d i)
theorem coefRow_length (n d i : Nat) : (coefRow n d i).length = n := by simp [coefRow]
theorem coefRow_get (n d i : Nat) {c : Nat} (hc : c < n) : (coefRow n d i).getD c 0 = coefEl d i c := by
  simp [coefRow, List.getD_eq_getElem?_getD, List.getElem?_map, List.getElem?_range hc]
theorem IsCoef.reads {cs : Array Value} {d : Nat} (h : IsCoef cs d) {w : World} {g : Nat} (hg : w.heap[g]? = some (.cells cs 86 (0, 0))) {i n : Nat} (hi : i < 16) (hn : n ≤ 8) :
    Kd.C (Kd.int .u8) w (some ⟨g, i * 8, none⟩) (up (coefRow n d i)).length (up (coefRow n d i)) := by
  have hl : (up (coefRow n d i)).length = n := by rw [up_length, coefRow_length]
  refine C_at (by rw [hl]; unfold maxLen; omega) fun j hj => ?_
  have hadd : (⟨g, i * 8, none⟩ : Addr).add j = ⟨g, i * 8 + j, none⟩ := by unfold Addr.add; split <;> simp_all
  rw [hadd, blk_cell hg, h.2 i j hi (by omega), ← coefRow_get n d i (show j < n by omega)]
  congr 2
  rw [show (up (coefRow n d i)).getD j 0 = rd (up (coefRow n d i)) (j : Int) from rfl, getD_up]
theorem rsvalid_eq (a0 a1 : Int) : reedsolomon_Valid.f a0 a1 = some (decide (1 ≤ a0 ∧ a0 ≤ 8 ∧ a0 ≤ a1 ∧ a1 ≤ 16)) := by
  unfold reedsolomon_Valid.f
  by_cases h1 : a0 ≥ 1
  · rw [if_pos h1]
    by_cases h2 : a0 ≤ 8
    · rw [if_pos h2]
      by_cases h3 : a1 ≥ a0
      · rw [if_pos h3]; congr 1; rw [Bool.eq_iff_iff]; simp; omega
      · rw [if_neg h3]; congr 1; symm; rw [decide_eq_false_iff_not]; omega
    · rw [if_neg h2]; congr 1; symm; rw [decide_eq_false_iff_not]; omega
  · rw [if_neg h1]; congr 1; symm; rw [decide_eq_false_iff_not]; omega
/-- slices.Clone of the head of a row of the table. -/
theorem clone_row {cs : Array Value} {d : Nat} (h : IsCoef cs d) (w : World) {g i n : Nat} (hn : n ≤ 8) (hi : i < 16) (hg : w.heap[g]? = some (.cells cs 86 (0, 0))) :
    Calls Try.prog 63 #[.slice (some ⟨g, i * 8, none⟩) n 8] w fun e w' => ∃ v0_ : Value, e = .returned (v0_) ∧ Kd.R (Kd.int .u8) 5 w' w.heap.size (fun _ => True) v0_ (up (coefRow n d i)) ∧ Below w.heap.size w w' := by
  have hl : (up (coefRow n d i)).length = n := by rw [up_length, coefRow_length]
  have := slices_Clone_byte_byte.calls (some ⟨g, i * 8, none⟩) 8 (up (coefRow n d i)) (up (coefRow n d i)) w (h.reads hg hi hn) (by omega) (by unfold slices_Clone_byte_byte.f; rw [if_pos (by omega)])
  rwa [hl] at this
end Go.Proofs.Ytpkghpljgjlmjaa.K
/- slices.IndexFunc, slices.ContainsFunc over rows of bytes at a closure with one captured variable; matrix.Valid. -/
namespace Go.Proofs.Ytpkghpljgjlmjaa.K
open Go.RowKit Go.Proofs.YtpkghpljgjlmjaaW.PrintWords Go.Proofs.YtpkghpljgjlmjaaW.PrintLast Go.Proofs.YtpkghpljgjlmjaaW.PrintMore
set_option linter.unusedSimpArgs false
set_option linter.unusedVariables false

/-- What a closure with one captured variable answers of rows of bytes. -/
structure Tests (w : World) (f : Nat) (cap : Value) (p : List Int → Bool) : Prop where
  enters : ∀ (args : Array Value) (w : World), (callFunc f args).run Try.prog w = .ok (.enter f args) w
  calls : ∀ (A : Option Addr) (c : Nat) (x : List Int), (Kd.int .u8).C w A x.length x → x.length ≤ c →
    Calls Try.prog f #[.slice A x.length c, cap] w fun e w' => e = .returned (.bool (p x)) ∧ w = w'
def idxOf (l : List (List Int)) (p : List Int → Bool) : Int := match l.findIdx? p with | some i => i | none => -1
theorem idxOf_none {l : List (List Int)} {p : List Int → Bool} (h : ∀ x ∈ l, p x = false) : idxOf l p = -1 := by
  unfold idxOf
  rw [List.findIdx?_eq_none_iff.2 h]
theorem rd_L1_mem (l : List (List Int)) (k : Nat) (hk : k < l.length) : rd_L1 l (k : Int) = l[k] := by
  simp [rd_L1, List.getD_eq_getElem?_getD, List.getElem?_eq_getElem hk]
theorem idxOf_some {l : List (List Int)} {p : List Int → Bool} {k : Nat} (hk : k < l.length) (h : ∀ j, (hj : j < k) → p (l[j]'(by omega)) = false) (hp : p l[k] = true) : idxOf l p = k := by
  unfold idxOf
  have : l.findIdx? p = some k := by
    rw [List.findIdx?_eq_some_iff_getElem]
    exact ⟨hk, hp, fun j hj => by simp [h j hj]⟩
  rw [this]
theorem idxOf_any (l : List (List Int)) (p : List Int → Bool) : decide (idxOf l p ≥ 0) = l.any p := by
  unfold idxOf
  cases h : l.findIdx? p with
  | none =>
    rw [List.findIdx?_eq_none_iff] at h
    have : l.any p = false := by simpa [List.any_eq_false] using h
    rw [this]; rfl
  | some i =>
    have : l.any p = true := by
      obtain ⟨hi, hp, _⟩ := List.findIdx?_eq_some_iff_getElem.1 h
      exact List.any_eq_true.2 ⟨_, List.getElem_mem hi, hp⟩
    rw [this]; simp
set_option maxRecDepth 100000 in
set_option maxHeartbeats 400000 in
theorem indexFunc_calls (A0 : Option Addr) (c0 : Nat) (l0 : List (List Int)) (f : Nat) (a : Addr) (p : List Int → Bool) (w : World) (hr0 : Kd.C (Kd.slice 5 (Kd.int .u8)) w A0 l0.length l0) (hT : Tests w f (.pointer (some a)) p) :
    Calls Try.prog 84 #[.slice A0 l0.length c0, .func (Fn.func f) #[] #[.pointer (some a)]] w fun e w' => e = .returned (.int .i64 (idxOf l0 p)) ∧ w = w' := by
  have HR0 := Aside0.mk hr0
  have hlen := hr0.2.1
  have hent := hT.enters
  clear hr0
  go_enter Try.func84, Try.ntmps84
  go_wp2
  go_loop [8] (fun v8 => ∃ k : Nat, k ≤ l0.length ∧ v8 = .int .i64 (k : Int) ∧ Aside0 (∀ j, (hj : j < l0.length) → j < k → p l0[j] = false)) (fun v8 => l0.length - (intOf v8).toNat)
  case atStart => exact ⟨0, by omega, rfl, ⟨fun j _ hj => absurd hj (by omega)⟩⟩
  case round =>
    obtain ⟨k, hk, rfl, HA⟩ := hrel
    by_cases hlt : k < l0.length
    · obtain ⟨ad, A1, c1, e, hx, hl, hi⟩ := at_L1 HR0.out (k : Int) (by omega) (by omega)
      subst e
      rw [Int.toNat_natCast] at hx
      generalize hy : rd_L1 l0 (k : Int) = y at hx hl hi
      have HY := Aside0.mk hy
      have HC := Aside0.mk (hT.calls A1 c1 y hi hl)
      clear hl hi hy
      cases hp : p y with
      | true =>
        have HP := Aside0.mk hp
        rw [hp] at HC
        clear hp
        go_wp2_with ((with_reducible refine HC.out.mono ?_); rintro e w' ⟨rfl, rfl⟩)
        go_ret
        have := HA.out
        refine ⟨?_, rfl⟩
        rw [idxOf_some hlt (fun j hj => this j (by omega) hj) (by rw [← rd_L1_mem l0 k hlt, HY.out]; exact HP.out)]
        rfl
      | false =>
        have HP := Aside0.mk hp
        rw [hp] at HC
        clear hp
        go_wp2_with ((with_reducible refine HC.out.mono ?_); rintro e w' ⟨rfl, rfl⟩)
        go_round
        case rel =>
          refine ⟨k + 1, by omega, by go_num, ⟨fun j hj hj2 => ?_⟩⟩
          by_cases hjk : j = k
          · subst hjk
            rw [← rd_L1_mem l0 j hlt, HY.out]
            exact HP.out
          · exact HA.out j hj (by omega)
        case measure => simp [intOf]; omega
    · have := HA.out
      have hE : idxOf l0 p = -1 := idxOf_none (fun x hx => by obtain ⟨j, hj, rfl⟩ := List.getElem_of_mem hx; exact this j hj (by omega))
      have HE := Aside0.mk hE
      clear hE this
      go_wp2
      go_ret
      exact ⟨by rw [HE.out]; rfl, rfl⟩
set_option maxRecDepth 100000 in
set_option maxHeartbeats 400000 in
theorem containsFunc_calls (A0 : Option Addr) (c0 : Nat) (l0 : List (List Int)) (f : Nat) (a : Addr) (p : List Int → Bool) (w : World) (hr0 : Kd.C (Kd.slice 5 (Kd.int .u8)) w A0 l0.length l0) (hT : Tests w f (.pointer (some a)) p) :
    Calls Try.prog 58 #[.slice A0 l0.length c0, .func (Fn.func f) #[] #[.pointer (some a)]] w fun e w' => e = .returned (.bool (l0.any p)) ∧ w = w' := by
  have h := Aside0.mk (indexFunc_calls A0 c0 l0 f a p w hr0 hT)
  have he := Aside0.mk (idxOf_any l0 p)
  generalize idxOf l0 p = i at h he
  go_enter Try.func58, Try.ntmps58
  go_wp2_with (go_at_call 84; (with_reducible refine h.out.mono ?_); rintro e w' ⟨rfl, rfl⟩)
  go_ret
  exact ⟨by rw [← he.out]; rfl, rfl⟩
theorem enters59 (args : Array Value) (w : World) : (callFunc 59 args).run Try.prog w = .ok (.enter 59 args) w := by
  go_simp
/-- 'len(row) != n', n a captured variable. -/
theorem valid1_calls (n : Nat) (hn : n ≤ 9223372036854775807) (a : Addr) (A : Option Addr) (c : Nat) (x : List Int) (w : World) (hc : w.cell? a = some (.int .i64 (n : Int))) (hx : x.length ≤ 9223372036854775807) :
    Calls Try.prog 59 #[.slice A x.length c, .pointer (some a)] w fun e w' => e = .returned (.bool (decide (x.length ≠ n))) ∧ w = w' := by
  by_cases h : x.length = n
  · have h1 : ((x.length : Int) != (n : Int)) = false := by rw [bne_eq_false_iff_eq]; omega
    have h2 : decide (x.length ≠ n) = false := by simp [h]
    have H := Aside0.mk h2
    clear h h2
    go_enter Try.func59, Try.ntmps59
    go_wp2
    go_ret
    exact ⟨by rw [H.out]; rfl, rfl⟩
  · have h1 : ((x.length : Int) != (n : Int)) = true := by rw [bne_iff_ne]; omega
    have h2 : decide (x.length ≠ n) = true := by simp [h]
    have H := Aside0.mk h2
    clear h h2
    go_enter Try.func59, Try.ntmps59
    go_wp2
    go_ret
    exact ⟨by rw [H.out]; rfl, rfl⟩
theorem tests59 (n : Nat) (hn : n ≤ 9223372036854775807) (a : Addr) (w : World) (hc : w.cell? a = some (.int .i64 (n : Int))) : Tests w 59 (.pointer (some a)) (fun x => decide (x.length ≠ n)) :=
  ⟨enters59, fun A c x hx _ => valid1_calls n hn a A c x w hc hx.2.1⟩
/-- P4.1: at most 64 rows of one length, at most 64. -/
def colsN {α : Type} (l : List (List α)) : Nat := (l.headD []).length
def validB {α : Type} (l : List (List α)) : Bool := decide (l.length ≤ 64) && (decide (colsN l ≤ 64) && l.all (fun x => decide (x.length = colsN l)))
def matrix_Valid.f (l0 : List (List Int)) : Option (Bool) := some (validB l0)
theorem columns_eq (l : List (List Int)) : matrix_columns.f l = some (colsN l : Int) := by
  cases l with
  | nil => rfl
  | cons x l =>
    unfold matrix_columns.f
    rw [if_neg (by simp; omega), if_pos (by simp)]
    rfl
theorem size_eq (n : Nat) : matrix_size.f (n : Int) = some (decide (n ≤ 64)) := by
  unfold matrix_size.f
  rw [if_pos (by omega)]
  congr 1
  rw [decide_eq_decide]
  omega
set_option maxRecDepth 100000 in
set_option maxHeartbeats 1000000 in
theorem matrix_Valid.calls (A0 : Option Addr) (c0 : Nat) (l0 : List (List Int)) (r : Bool) (w : World) (hr0 : Kd.C (Kd.slice 5 (Kd.int .u8)) w A0 l0.length l0) (hc0 : l0.length ≤ c0) (h : matrix_Valid.f l0 = some r) :
    Calls Try.prog 17 #[.slice A0 l0.length c0] w fun e w' => e = .returned (.bool r) ∧ Below w.heap.size w w' := by
  have hr := Option.some.inj h
  clear h
  have hmf : ∀ (fn : Fn) (first cap : Array Value) (w : World), (Instr.makeFunc fn first cap).run Try.prog w = .ok (.func fn first cap) w := fun _ _ _ _ => rfl
  have hlen := hr0.2.1
  have HR0 := Aside0.mk hr0
  have HC0 := Aside0.mk hc0
  have HF1 := Aside0.mk (columns_eq l0)
  have HF2 := Aside0.mk (size_eq l0.length)
  have HF3 := Aside0.mk (size_eq (colsN l0))
  clear hr0 hc0
  have HS := Aside0.mk hlen
  have hcols : colsN l0 ≤ 9223372036854775807 := by
    unfold colsN
    cases l0 with
    | nil => simp
    | cons x l =>
      obtain ⟨ad, A1, c1, _, _, _, hi⟩ := at_L1 HR0.out 0 (by omega) (by simp)
      exact hi.2.1
  have HR := Aside0.mk hr
  clear hr
  cases h1 : decide (l0.length ≤ 64) with
  | false =>
    have HF := Aside0.mk (show r = false by rw [← HR.out, validB, h1]; rfl)
    rw [h1] at HF2
    clear h1 HR
    go_enter Try.func17, Try.ntmps17
    go_wp2_with (first | (go_at_call 56; (with_reducible refine (matrix_columns.calls _ _ l0 _ _ HR0.out HC0.out HF1.out).mono ?_); rintro e w' ⟨rfl, ⟨n1, rfl⟩⟩) | ((with_reducible refine gate_dst (N := 3) rfl ?_); refine box_event rfl (N := 3) rfl (cs := #[.int .i64 0]) (t := 3) ?hrun ?_; (case hrun => first | (go_simp; done) | (go_simp; rfl)); intro g hg w1 hb1 hB1; have hx1 : w1.cell? ⟨g, 0, none⟩ = some (.int .i64 0) := (by rw [blk_cell hb1]; rfl); have hf1 := blk_frozen hb1 0; have HB1 := Aside0.mk (below_step (pw_below_drewN (Below.refl w.heap.size w) n1) hB1); have HG := Aside0.mk (show w.heap.size ≤ g by rw [hg]; exact Nat.le_refl _); clear hg hb1 hB1) | (go_at_call 57; (with_reducible refine (matrix_size.calls _ _ _ HF2.out).mono ?_); rintro e w' ⟨rfl, ⟨n2, rfl⟩⟩))
    go_ret
    exact ⟨by rw [HF.out]; rfl, pw_below_drewN (HB1.out.setCell HG.out _) _⟩
  | true =>
    cases h2 : decide (colsN l0 ≤ 64) with
    | false =>
      have HF := Aside0.mk (show r = false by rw [← HR.out, validB, h1, h2]; rfl)
      rw [h1] at HF2
      rw [h2] at HF3
      clear h1 h2 HR
      go_enter Try.func17, Try.ntmps17
      go_wp2_with (first | (go_at_call 56; (with_reducible refine (matrix_columns.calls _ _ l0 _ _ HR0.out HC0.out HF1.out).mono ?_); rintro e w' ⟨rfl, ⟨n1, rfl⟩⟩) | ((with_reducible refine gate_dst (N := 3) rfl ?_); refine box_event rfl (N := 3) rfl (cs := #[.int .i64 0]) (t := 3) ?hrun ?_; (case hrun => first | (go_simp; done) | (go_simp; rfl)); intro g hg w1 hb1 hB1; have hx1 : w1.cell? ⟨g, 0, none⟩ = some (.int .i64 0) := (by rw [blk_cell hb1]; rfl); have hf1 := blk_frozen hb1 0; have HB1 := Aside0.mk (below_step (pw_below_drewN (Below.refl w.heap.size w) n1) hB1); have HG := Aside0.mk (show w.heap.size ≤ g by rw [hg]; exact Nat.le_refl _); clear hg hb1 hB1) | (go_at_call_of 57 (Value.int .i64 (l0.length : Int)); (with_reducible refine (matrix_size.calls _ _ _ HF2.out).mono ?_); rintro e w' ⟨rfl, ⟨n2, rfl⟩⟩) | (go_at_call_of 57 (Value.int .i64 (colsN l0 : Int)); (with_reducible refine (matrix_size.calls _ _ _ HF3.out).mono ?_); rintro e w' ⟨rfl, ⟨n3, rfl⟩⟩))
      go_ret
      exact ⟨by rw [HF.out]; rfl, pw_below_drewN (HB1.out.setCell HG.out _) _⟩
    | true =>
      have HF := Aside0.mk (show r = !(l0.any fun x => !decide (x.length = colsN l0)) by
        rw [← HR.out, validB, h1, h2]
        rw [Bool.eq_iff_iff]
        simp)
      rw [h1] at HF2
      rw [h2] at HF3
      clear h1 h2 HR
      go_enter Try.func17, Try.ntmps17
      go_wp2_with (first | (go_at_call 56; (with_reducible refine (matrix_columns.calls _ _ l0 _ _ HR0.out HC0.out HF1.out).mono ?_); rintro e w' ⟨rfl, ⟨n1, rfl⟩⟩) | ((with_reducible refine gate_dst (N := 3) rfl ?_); refine box_event rfl (N := 3) rfl (cs := #[.int .i64 0]) (t := 3) ?hrun ?_; (case hrun => first | (go_simp; done) | (go_simp; rfl)); intro g hg w1 hb1 hB1; have hx1 : w1.cell? ⟨g, 0, none⟩ = some (.int .i64 0) := (by rw [blk_cell hb1]; rfl); have hf1 := blk_frozen hb1 0; have HB1 := Aside0.mk (below_step (pw_below_drewN (Below.refl w.heap.size w) n1) hB1); have HG := Aside0.mk (show w.heap.size ≤ g by rw [hg]; exact Nat.le_refl _); clear hg hb1 hB1) | (go_at_call_of 57 (Value.int .i64 (l0.length : Int)); (with_reducible refine (matrix_size.calls _ _ _ HF2.out).mono ?_); rintro e w' ⟨rfl, ⟨n2, rfl⟩⟩) | (go_at_call_of 57 (Value.int .i64 (colsN l0 : Int)); (with_reducible refine (matrix_size.calls _ _ _ HF3.out).mono ?_); rintro e w' ⟨rfl, ⟨n3, rfl⟩⟩))
      refine (containsFunc_calls A0 c0 l0 59 ⟨g, 0, none⟩ (fun x => decide (x.length ≠ colsN l0)) _ (Kd.C_below HR0.out (pw_below_drewN (HB1.out.setCell HG.out _) _)) (tests59 _ hcols _ _ ?hc)).mono ?_
      case hc => go_simp
      rintro e w' ⟨rfl, rfl⟩
      go_wp2
      go_ret
      exact ⟨by rw [HF.out]; rfl, pw_below_drewN (HB1.out.setCell HG.out _) _⟩
end Go.Proofs.Ytpkghpljgjlmjaa.K
/- Words of this claim's own: a made row of bytes stored into a row of rows; blocks told apart by their types. -/
namespace Go.Proofs.Ytpkghpljgjlmjaa.K
open Go.RowKit Go.Proofs.YtpkghpljgjlmjaaW.PrintWords Go.Proofs.YtpkghpljgjlmjaaW.PrintLast Go.Proofs.YtpkghpljgjlmjaaW.PrintMore
set_option linter.unusedSimpArgs false
set_option linter.unusedVariables false

/-- Rows of bytes, as elements. -/
abbrev D := Kd.slice 5 (Kd.int .u8)
section
variable {W w w1 : World} {base g n cap : Nat} {ok : Nat → Prop} {v : Value} {xs : List (List Int)} {y : List Int}
/-- 'rows[i] = y', y a made row that is none of the rows. -/
theorem S_put (hS : Kd.S D 34 W base (fun k => some k ≠ v.ownBlock) (.slice (some ⟨g, 0, none⟩) n cap) xs) (hv : Kd.R (Kd.int .u8) 5 W base (fun k => k ≠ g) v y) (i : Int) (h0 : 0 ≤ i) (h1 : i < n) :
    Kd.S D 34 (W.setCell ⟨g, i.toNat, none⟩ v) base (fun _ => True) (.slice (some ⟨g, 0, none⟩) n cap) (xs.set i.toNat y) := by
  have hX : Kd.S D 34 W base (fun k => (fun _ => True) k ∧ ¬ (some k = v.ownBlock)) (.slice (some ⟨g, 0, none⟩) n cap) xs := Kd.S_mono hS (fun k hk => ⟨trivial, hk⟩)
  obtain ⟨oki, c, hcl, hM, hcc, hfr, hoki, hH⟩ := Kd.S_elem hX [] i h0 h1
  have hlen : c.length = 1 := hcl
  have hM' : (D).M W base (fun k => oki k ∨ some k = v.ownBlock) y (c.take 0 ++ [v] ++ c.drop (0 + [v].length)) := by
    have hd : c.drop (0 + [v].length) = [] := by apply List.drop_eq_nil_of_le; simp [hlen]
    rw [hd]
    exact ⟨v, rfl, Kd.R_mono (Kd.R_tight rfl hv) (fun k hk => .inr hk)⟩
  have hP := Kd.S_seg hH h0 h1 (seg := [v]) (j := 0) (show 0 + [v].length ≤ (D).sz from Nat.le_refl 1) (x' := y) hM' (fun _ hk => hk) (fun k hk => ⟨trivial, hv.1 k hk.symm⟩)
  have h2 := hP.1
  have hz : i.toNat * (D).sz + 0 = i.toNat := by show i.toNat * 1 + 0 = _; omega
  rw [hz] at h2
  exact h2
/-- The same, y made by a call from W0 on. -/
theorem S_put_fresh {W0 : World} (hS : Kd.S D 34 W0 base (fun _ => True) (.slice (some ⟨g, 0, none⟩) n cap) xs) (hb : Below W0.heap.size W0 w1) (hv : Kd.R (Kd.int .u8) 5 w1 W0.heap.size (fun _ => True) v y) (hbase : base ≤ W0.heap.size) (hg : g < W0.heap.size) (i : Int) (h0 : 0 ≤ i) (h1 : i < n) :
    Kd.S D 34 (w1.setCell ⟨g, i.toNat, none⟩ v) base (fun _ => True) (.slice (some ⟨g, 0, none⟩) n cap) (xs.set i.toNat y) :=
  S_put (Kd.S_mono (Kd.S_elder' hS (Kd.R_base hv) hb) (fun k hk => hk.2)) (Kd.R_lower (Kd.R_mono (Kd.R_bound hv) (fun k hk => by have := hk.2.1; omega)) hbase) i h0 h1
end
end Go.Proofs.Ytpkghpljgjlmjaa.K
/- matrix.Apply: for each row the sum of the blocks, each multiplied by the element of its column. -/
namespace Go.Proofs.Ytpkghpljgjlmjaa.K
open Go.RowKit Go.Proofs.YtpkghpljgjlmjaaW.PrintWords Go.Proofs.YtpkghpljgjlmjaaW.PrintLast Go.Proofs.YtpkghpljgjlmjaaW.PrintMore Kin
set_option linter.unusedSimpArgs false
set_option linter.unusedVariables false

def toB2 (l : List (List Int)) : List (List B) := l.map fun x => x.map toB
theorem toB2_up2 (m : List (List B)) : toB2 (up2 m) = m := by
  simp only [toB2, up2, List.map_map]
  conv => rhs; rw [← List.map_id m]
  apply List.map_congr_left
  intro x _
  simp only [Function.comp, up, List.map_map, id]
  conv => rhs; rw [← List.map_id x]
  apply List.map_congr_left
  intro y _
  exact toB_b2i y
theorem exists_up2 {l : List (List Int)} (h : ∀ x ∈ l, ∀ y ∈ x, isB y = true) : ∃ m : List (List B), l = up2 m := by
  induction l with
  | nil => exact ⟨[], rfl⟩
  | cons x l ih =>
    obtain ⟨m, rfl⟩ := ih (fun y hy => h y (List.mem_cons_of_mem _ hy))
    obtain ⟨r, rfl⟩ := exists_up (h x List.mem_cons_self)
    exact ⟨r :: m, rfl⟩
theorem colsN_up2 (m : List (List B)) : colsN (up2 m) = colsN m := by
  cases m with
  | nil => rfl
  | cons x m => simp [colsN, up2_cons, up_length]
theorem validB_up2 (m : List (List B)) : validB (up2 m) = validB m := by
  unfold validB
  rw [colsN_up2, up2_length]
  congr 2
  simp only [up2, List.all_map]
  congr 1
  funext x
  simp [Function.comp, up_length]
theorem zero_l0 (m : Nat) : ∀ (k i c r : Nat) (o : List (List Int)), o.length = r → r ≤ 11728124029610 → c ≤ 281474976710656 → r - i = m → i ≤ r → m < k →
    matrix_zero.l0 k (c : Int) o (r : Int) (i : Int) = some (o.take i ++ List.replicate (r - i) (List.replicate c 0)) := by
  induction m with
  | zero =>
    intro k i c r o hl hr hc hm hi hk
    obtain ⟨k, rfl⟩ : ∃ j, k = j + 1 := ⟨k - 1, by omega⟩
    have : i = r := by omega
    subst this
    simp only [matrix_zero.l0]
    rw [if_neg (by omega), List.take_of_length_le (by omega), Nat.sub_self]
    simp
  | succ m ih =>
    intro k i c r o hl hr hc hm hi hk
    obtain ⟨k, rfl⟩ : ∃ j, k = j + 1 := ⟨k - 1, by omega⟩
    simp only [matrix_zero.l0]
    rw [if_pos (by omega), if_pos (by omega), if_pos (by omega), if_pos (by omega), if_pos (by omega), Int.toNat_natCast, Int.toNat_natCast, wrap_nat (by omega),
      ih _ _ _ _ _ (by simpa using hl) hr hc (by omega) (by omega) (by omega)]
    congr 1
    rw [List.take_succ_eq_append_getElem (by simp; omega), List.take_set_of_le (Nat.le_refl _), show r - i = (r - (i + 1)) + 1 by omega, List.replicate_succ]
    simp
theorem zero_eq (r c : Nat) (hr : r ≤ 11728124029610) (hc : c ≤ 281474976710656) {k : Nat} (hk : r < k) : matrix_zero.f k (r : Int) (c : Int) = some (List.replicate r (List.replicate c 0)) := by
  rw [matrix_zero.f, if_pos (by omega), if_pos (by omega)]
  simp only [Option.bind_some, Int.toNat_natCast, List.length_replicate]
  rw [show (0 : Int) = ((0 : Nat) : Int) from rfl, zero_l0 r k 0 c r _ (by simp) hr hc (by omega) (by omega) hk]
  simp
theorem zeros_up2 (r c : Nat) : List.replicate r (List.replicate c (0 : Int)) = up2 (List.replicate r (List.replicate c 0)) := by rw [up_zeros, up2_replicate]
/-- The sum of the first k blocks, each times its factor; n bytes. -/
def applyPart (n : Nat) (row : List B) (bs : List (List B)) (k : Nat) : List B := ((row.zip bs).take k).foldl (fun acc p => addS acc p.2 p.1) (List.replicate n 0)
def applyRow (n : Nat) (row : List B) (bs : List (List B)) : List B := (row.zip bs).foldl (fun acc p => addS acc p.2 p.1) (List.replicate n 0)
def applyM (n : Nat) (m : List (List B)) (bs : List (List B)) : List (List B) := m.map fun row => applyRow n row bs
/-- The result after i rows. -/
def applyUpto (n : Nat) (m : List (List B)) (bs : List (List B)) (i : Nat) : List (List B) := (m.take i).map (fun row => applyRow n row bs) ++ List.replicate (m.length - i) (List.replicate n 0)
theorem applyPart_zero (n : Nat) (row : List B) (bs : List (List B)) : applyPart n row bs 0 = List.replicate n 0 := rfl
theorem applyPart_all (n : Nat) (row : List B) (bs : List (List B)) (k : Nat) (h : row.length ≤ k) : applyPart n row bs k = applyRow n row bs := by
  unfold applyPart applyRow
  rw [List.take_of_length_le (by simp; omega)]
theorem applyPart_length (n : Nat) (row : List B) (bs : List (List B)) (hb : ∀ b ∈ bs, b.length = n) (k : Nat) : (applyPart n row bs k).length = n := by
  have key : ∀ (l : List (B × List B)) (acc : List B), (∀ p ∈ l, p.2.length = n) → acc.length = n → (l.foldl (fun acc p => addS acc p.2 p.1) acc).length = n := by
    intro l
    induction l with
    | nil => intro acc _ h; exact h
    | cons p l ih =>
      intro acc hp h
      exact ih _ (fun q hq => hp q (List.mem_cons_of_mem _ hq)) (by rw [addS_length _ _ _ (by rw [h, hp p List.mem_cons_self]), h])
  exact key _ _ (fun p hp => hb _ (List.of_mem_zip (List.mem_of_mem_take hp)).2) (by simp)
theorem applyPart_succ (n : Nat) (row : List B) (bs : List (List B)) (k : Nat) (h1 : k < row.length) (h2 : k < bs.length) :
    applyPart n row bs (k + 1) = addS (applyPart n row bs k) (bs.getD k []) (row.getD k 0) := by
  unfold applyPart
  rw [List.take_succ_eq_append_getElem (by simp; omega), List.foldl_append]
  simp [List.getD_eq_getElem?_getD, List.getElem?_eq_getElem h1, List.getElem?_eq_getElem h2]
theorem applyUpto_zero (n : Nat) (m bs : List (List B)) : applyUpto n m bs 0 = List.replicate m.length (List.replicate n 0) := by simp [applyUpto]
theorem applyUpto_all (n : Nat) (m bs : List (List B)) : applyUpto n m bs m.length = applyM n m bs := by simp [applyUpto, applyM]
theorem applyUpto_length (n : Nat) (m bs : List (List B)) (i : Nat) (hi : i ≤ m.length) : (applyUpto n m bs i).length = m.length := by simp [applyUpto]; omega
theorem applyUpto_at (n : Nat) (m bs : List (List B)) (i : Nat) (hi : i < m.length) : (applyUpto n m bs i).set i (List.replicate n 0) = applyUpto n m bs i := by
  unfold applyUpto
  have h1 : ((m.take i).map fun row => applyRow n row bs).length = i := by simp; omega
  rw [List.set_append_right _ _ (by omega), h1, Nat.sub_self, show m.length - i = (m.length - (i + 1)) + 1 by omega, List.replicate_succ, List.set_cons_zero]
theorem applyUpto_succ (n : Nat) (m bs : List (List B)) (i : Nat) (hi : i < m.length) : (applyUpto n m bs i).set i (applyRow n (m.getD i []) bs) = applyUpto n m bs (i + 1) := by
  unfold applyUpto
  have h1 : ((m.take i).map fun row => applyRow n row bs).length = i := by simp; omega
  rw [List.set_append_right _ _ (by omega), h1, Nat.sub_self, show m.length - i = (m.length - (i + 1)) + 1 by omega, List.replicate_succ, List.set_cons_zero,
    List.take_succ_eq_append_getElem hi, List.map_append, List.append_assoc]
  simp [List.getD_eq_getElem?_getD, List.getElem?_eq_getElem hi]
end Go.Proofs.Ytpkghpljgjlmjaa.K
/- matrix.Apply: the walk. -/
namespace Go.Proofs.Ytpkghpljgjlmjaa.K
open Go.RowKit Go.Proofs.YtpkghpljgjlmjaaW.PrintWords Go.Proofs.YtpkghpljgjlmjaaW.PrintLast Go.Proofs.YtpkghpljgjlmjaaW.PrintMore Kin
set_option linter.unusedSimpArgs false
set_option linter.unusedVariables false

theorem enters65 (args : Array Value) (w : World) : (callFunc 65 args).run Try.prog w = .ok (.enter 65 args) w := by
  go_simp
/-- 'len(b) != n', n a captured variable. -/
theorem apply1_calls (n : Nat) (hn : n ≤ 9223372036854775807) (a : Addr) (A : Option Addr) (c : Nat) (x : List Int) (w : World) (hc : w.cell? a = some (.int .i64 (n : Int))) (hx : x.length ≤ 9223372036854775807) :
    Calls Try.prog 65 #[.slice A x.length c, .pointer (some a)] w fun e w' => e = .returned (.bool (decide (x.length ≠ n))) ∧ w = w' := by
  by_cases h : x.length = n
  · have h1 : ((x.length : Int) != (n : Int)) = false := by rw [bne_eq_false_iff_eq]; omega
    have h2 : decide (x.length ≠ n) = false := by simp [h]
    have H := Aside0.mk h2
    clear h h2
    go_enter Try.func65, Try.ntmps65
    go_wp2
    go_ret
    exact ⟨by rw [H.out]; rfl, rfl⟩
  · have h1 : ((x.length : Int) != (n : Int)) = true := by rw [bne_iff_ne]; omega
    have h2 : decide (x.length ≠ n) = true := by simp [h]
    have H := Aside0.mk h2
    clear h h2
    go_enter Try.func65, Try.ntmps65
    go_wp2
    go_ret
    exact ⟨by rw [H.out]; rfl, rfl⟩
theorem tests65 (n : Nat) (hn : n ≤ 9223372036854775807) (a : Addr) (w : World) (hc : w.cell? a = some (.int .i64 (n : Int))) : Tests w 65 (.pointer (some a)) (fun x => decide (x.length ≠ n)) :=
  ⟨enters65, fun A c x hx _ => apply1_calls n hn a A c x w hc hx.2.1⟩
theorem colsN_le {w : World} {A : Option Addr} {l : List (List Int)} (h : Kd.C (Kd.slice 5 (Kd.int .u8)) w A l.length l) : colsN l ≤ 9223372036854775807 := by
  unfold colsN
  cases l with
  | nil => simp
  | cons x l =>
    obtain ⟨ad, A1, c1, _, _, _, hi⟩ := at_L1 h 0 (by omega) (by simp)
    exact hi.2.1
set_option maxRecDepth 100000 in
set_option maxHeartbeats 1000000 in
/-- m is no matrix, or there are not as many blocks as columns. -/
theorem apply_bad1 (A0 A1 : Option Addr) (c0 c1 : Nat) (l0 l1 : List (List Int)) (w : World) (hr0 : Kd.C (Kd.slice 5 (Kd.int .u8)) w A0 l0.length l0) (hc0 : l0.length ≤ c0) (hb : validB l0 = false ∨ l1.length ≠ colsN l0) (hn : l1.length ≤ 9223372036854775807) :
    Calls Try.prog 32 #[.slice A0 l0.length c0, .slice A1 l1.length c1] w fun e w' => e = .returned (.tuple #[.slice none 0 0, .int .i64 1]) ∧ Below w.heap.size w w' := by
  have HR0 := Aside0.mk hr0
  have HC0 := Aside0.mk hc0
  have hcl := colsN_le hr0
  clear hr0 hc0
  cases hv : validB l0 with
  | false =>
    have HV := Aside0.mk (show matrix_Valid.f l0 = some false by rw [matrix_Valid.f, hv])
    clear hv hb
    go_enter Try.func32, Try.ntmps32
    go_wp2_with (first | (go_at_call 17; (with_reducible refine (matrix_Valid.calls _ _ l0 _ _ HR0.out HC0.out HV.out).mono ?_); rintro e w1 ⟨rfl, hb⟩; have HB := Aside0.mk hb; clear hb))
    go_ret2
    exact ⟨rfl, HB.out⟩
  | true =>
    have HV := Aside0.mk (show matrix_Valid.f l0 = some true by rw [matrix_Valid.f, hv])
    have hne : ((l1.length : Int) != (colsN l0 : Int)) = true := by
      rw [bne_iff_ne]
      rcases hb with h | h
      · rw [hv] at h; cases h
      · omega
    have HF := Aside0.mk (columns_eq l0)
    clear hv hb
    go_enter Try.func32, Try.ntmps32
    go_wp2_with (first | (go_at_call 17; (with_reducible refine (matrix_Valid.calls _ _ l0 _ _ HR0.out HC0.out HV.out).mono ?_); rintro e w1 ⟨rfl, hb⟩; have HB := Aside0.mk hb; clear hb) | (go_at_call 56; (with_reducible refine (matrix_columns.calls _ _ l0 _ _ (Kd.C_below HR0.out HB.out) HC0.out HF.out).mono ?_); rintro e w' ⟨rfl, ⟨n1, rfl⟩⟩))
    go_ret2
    exact ⟨rfl, pw_below_drewN HB.out _⟩
theorem rd_L1_up2 (m : List (List B)) (i : Nat) : rd_L1 (up2 m) (i : Int) = up (m.getD i []) := by
  simp only [rd_L1, up2, Int.toNat_natCast, List.getD_eq_getElem?_getD, List.getElem?_map]
  cases m[i]? <;> rfl
theorem getD_up2 (m : List (List B)) (i : Nat) : (up2 m).getD i [] = up (m.getD i []) := by
  have := rd_L1_up2 m i
  simpa [rd_L1] using this
theorem getD_mem {α : Type} {l : List (List α)} {i : Nat} (h : i < l.length) : l.getD i [] ∈ l := by
  rw [List.getD_eq_getElem?_getD, List.getElem?_eq_getElem h]
  exact List.getElem_mem h
theorem valid_len {α : Type} {l : List (List α)} (hv : validB l = true) {x : List α} (hx : x ∈ l) : x.length = colsN l := by
  unfold validB at hv
  simp only [Bool.and_eq_true, List.all_eq_true, decide_eq_true_eq] at hv
  exact hv.2.2 x hx
theorem applyUpto_getD (n : Nat) (m bs : List (List B)) (i : Nat) (x : List B) (hi : i < m.length) : ((applyUpto n m bs i).set i x).getD i [] = x := by
  rw [List.getD_eq_getElem?_getD, List.getElem?_set_self (by rw [applyUpto_length _ _ _ _ (by omega)]; exact hi)]
  rfl
set_option maxRecDepth 100000 in
set_option maxHeartbeats 4000000 in
theorem apply_main (A0 A1 : Option Addr) (c0 c1 : Nat) (l0 l1 : List (List Int)) (r1 : List (List Int)) (r2 : Int) (w : World) (hr0 : Kd.C (Kd.slice 5 (Kd.int .u8)) w A0 l0.length l0) (hc0 : l0.length ≤ c0) (hr1 : Kd.C (Kd.slice 5 (Kd.int .u8)) w A1 l1.length l1) (hc1 : l1.length ≤ c1)
    (hv : validB l0 = true) (hl : l1.length = colsN l0)
    (hres : (l1.any (fun x => !decide (x.length = colsN l1)) = true ∧ r1 = [] ∧ r2 = 1) ∨ (l1.any (fun x => !decide (x.length = colsN l1)) = false ∧ ∃ M Bs, l0 = up2 M ∧ l1 = up2 Bs ∧ r1 = up2 (applyM (colsN Bs) M Bs) ∧ r2 = 0 ∧ colsN Bs ≤ 140737488351232)) :
    Calls Try.prog 32 #[.slice A0 l0.length c0, .slice A1 l1.length c1] w fun e w' => ∃ v0_ : Value, e = .returned (.tuple #[v0_, .int .i64 r2]) ∧ Kd.S (Kd.slice 5 (Kd.int .u8)) 34 w' w.heap.size (fun _ => True) v0_ r1 ∧ Below w.heap.size w w' := by
  have hmf : ∀ (fn : Fn) (first cap : Array Value) (w : World), (Instr.makeFunc fn first cap).run Try.prog w = .ok (.func fn first cap) w := fun _ _ _ _ => rfl
  have HR0 := Aside0.mk hr0
  have HC0 := Aside0.mk hc0
  have HR1 := Aside0.mk hr1
  have HC1 := Aside0.mk hc1
  have hcl := colsN_le hr0
  have hcl1 := colsN_le hr1
  have hn := hr1.2.1
  have HV := Aside0.mk (show matrix_Valid.f l0 = some true by rw [matrix_Valid.f, hv])
  have hne : ((l1.length : Int) != (colsN l0 : Int)) = false := by rw [bne_eq_false_iff_eq]; omega
  have HF := Aside0.mk (columns_eq l0)
  have HRES := Aside0.mk hres
  have HVV := Aside0.mk hv
  have HLL := Aside0.mk hl
  clear hr0 hc0 hr1 hc1 hv hl hres
  go_enter Try.func32, Try.ntmps32
  go_upto_if 24 with (first | (go_at_call 17; (with_reducible refine (matrix_Valid.calls _ _ l0 _ _ HR0.out HC0.out HV.out).mono ?_); rintro e w1 ⟨rfl, hb⟩; have HB := Aside0.mk hb; clear hb) | (go_at_call 56; (with_reducible refine (matrix_columns.calls _ _ l0 _ _ (Kd.C_below HR0.out HB.out) HC0.out HF.out).mono ?_); rintro e w' ⟨rfl, ⟨n1, rfl⟩⟩) | ((with_reducible refine gate_dst (N := 6) rfl ?_); refine box_event rfl (N := 6) rfl (cs := #[.int .i64 0]) (t := 3) ?hrun ?_; (case hrun => first | (go_simp; done) | (go_simp; rfl)); intro g hg w2 hb2 hB2; have hx2 : w2.cell? ⟨g, 0, none⟩ = some (.int .i64 0) := (by rw [blk_cell hb2]; rfl); have hf2 := blk_frozen hb2 0; have HB2 := Aside0.mk (below_step (pw_below_drewN HB.out n1) hB2); have HG := Aside0.mk (show w.heap.size ≤ g by rw [hg]; exact HB.out.size); clear hg hb2 hB2))
  go_cut [4] (fun v4 wc => v4 = .slice none 0 0 ∧ wc.cell? ⟨g, 0, none⟩ = some (.int .i64 (colsN l1 : Int)) ∧ Aside0 (Below w.heap.size w wc))
  case first =>
    by_cases hpos : 0 < l1.length
    · have hq : colsN l1 = (rd_L1 l1 0).length := by
        unfold colsN rd_L1
        cases l1 with
        | nil => simp at hpos
        | cons x l => rfl
      rw [show (decide (0 < l1.length)) = true from decide_eq_true hpos]
      obtain ⟨ad, A2, c2, e, hx, hlx, hix⟩ := at_L1 HR1.out 0 (by omega) (by omega)
      subst e
      rw [show ((0 : Int)).toNat = 0 from rfl, Addr.add_zero'] at hx
      have hbx := World.block_lt_of_cell? w _ hx
      have hxg : ad.block ≠ g := by have := HG.out; omega
      have hx3 : (w2.setCell ⟨g, 0, none⟩ (.int .i64 0)).cell? ad = some (.slice A2 (rd_L1 l1 0).length c2) := ((HB2.out.setCell HG.out _).cell hbx).trans hx
      have HQ := Aside0.mk hq
      clear hq hx
      go_wp2
      go_meet
      exact ⟨rfl, by rw [HQ.out]; go_simp, ⟨(HB2.out.setCell HG.out _).setCell HG.out _⟩⟩
    · have hq : colsN l1 = 0 := by
        unfold colsN
        cases l1 with
        | nil => rfl
        | cons x l => simp at hpos
      have HQ := Aside0.mk hq
      clear hq
      rw [show (decide (0 < l1.length)) = false from decide_eq_false hpos]
      clear hpos
      go_wp2
      go_meet
      exact ⟨rfl, by rw [HQ.out]; go_simp, ⟨HB2.out.setCell HG.out _⟩⟩
  case rest =>
    obtain ⟨rfl, hcell, hBc⟩ := hcut
    have HCF := Aside0.mk (containsFunc_calls A1 c1 l1 65 ⟨g, 0, none⟩ (fun x => decide (x.length ≠ colsN l1)) wc (Kd.C_below HR1.out hBc.out) (tests65 _ hcl1 _ _ hcell))
    rcases HRES.out with ⟨hany, rfl, rfl⟩ | ⟨hany, M, Bs, rfl, rfl, rfl, rfl, hlim⟩
    · rw [show (l1.any fun x => decide (x.length ≠ colsN l1)) = true by simpa using hany] at HCF
      clear hany
      go_wp2_with (first | (go_at_call 58; (with_reducible refine HCF.out.mono ?_); rintro e w' ⟨rfl, rfl⟩))
      go_ret2
      exact ⟨_, rfl, Kd.S_nil _ _ _ _ _, hBc.out⟩
    · rw [show ((up2 Bs).any fun x => decide (x.length ≠ colsN (up2 Bs))) = false by simpa using hany] at HCF
      have hblen : ∀ b ∈ Bs, b.length = colsN Bs := by
        intro b hb
        have := List.any_eq_false.1 hany (up b) (List.mem_map_of_mem hb)
        simpa [up_length, colsN_up2] using this
      have HBL := Aside0.mk hblen
      have HZ := Aside0.mk (zero_eq (up2 M).length (colsN (up2 Bs)) (by have := HVV.out; unfold validB at this; simp at this; omega) (by rw [colsN_up2]; omega) (k := (up2 M).length + 1) (by omega))
      clear hany hblen
      go_wp2_with (first | (go_at_call 58; (with_reducible refine HCF.out.mono ?_); rintro e w' ⟨rfl, rfl⟩) | (go_at_call 64; (with_reducible refine (matrix_zero.calls _ _ _ _ _ HZ.out).mono ?_); rintro e w3 ⟨v3, rfl, hS3, hb3⟩; have HS3 := Aside0.mk (Kd.S_lower hS3 (below_size hBc.out)); have HB3 := Aside0.mk (below_step hBc.out hb3); clear hS3 hb3))
      obtain ⟨Av, cv, ev⟩ := Kd.S_slice HS3.out
      rw [List.length_replicate] at ev
      subst ev
      rw [zeros_up2, colsN_up2] at HS3
      generalize hN : colsN Bs = N at HS3 hlim
      have HN := Aside0.mk hN
      have HLIM := Aside0.mk hlim
      have hlenM : (up2 M).length ≤ 64 := by have := HVV.out; unfold validB at this; simp at this; omega
      clear hN hlim
      go_loopw [38] (fun v38 wr => ∃ (i : Nat), i ≤ (up2 M).length ∧ v38 = .int .i64 (i : Int) ∧ Aside0 (Kd.S D 34 wr w.heap.size (fun _ => True) (.slice Av (up2 M).length cv) (up2 (applyUpto N M Bs i)) ∧ Below w.heap.size w wr)) (fun v38 _ => (up2 M).length - (intOf v38).toNat)
      case atStart => exact ⟨0, by omega, rfl, ⟨by rw [applyUpto_zero, ← up2_length M]; exact HS3.out, HB3.out⟩⟩
      case round =>
        obtain ⟨i, hi, rfl, HA⟩ := hrel
        by_cases hlt : i < (up2 M).length
        · obtain ⟨ad0, A2, c2, e0, hx0, hl0, hi0⟩ := at_L1 HR0.out (i : Int) (by omega) (by omega)
          subst e0
          rw [Int.toNat_natCast] at hx0
          replace hx0 := (HA.out.2.cell (World.block_lt_of_cell? w _ hx0)).trans hx0
          rw [rd_L1_up2] at hx0 hl0 hi0
          have hrl := valid_len (by rw [← validB_up2]; exact HVV.out) (getD_mem (l := M) (i := i) (by rw [up2_length] at hlt; exact hlt))
          generalize hrow : M.getD i [] = r at hx0 hl0 hi0 hrl
          have HROW := Aside0.mk hrow
          have HC2 := Aside0.mk hi0
          have HRL := Aside0.mk hrl
          have hrl2 := hi0.2.1
          clear hrow hi0 hl0 hrl
          go_wp2
          obtain ⟨wo, rfl⟩ : ∃ wo : World, wo = wr := ⟨_, rfl⟩
          go_loopw [45] (fun v45 wr => ∃ (k : Nat), k ≤ (up r).length ∧ v45 = .int .i64 (k : Int) ∧ Aside0 (Kd.S D 34 wr w.heap.size (fun _ => True) (.slice Av (up2 M).length cv) (up2 ((applyUpto N M Bs i).set i (applyPart N r Bs k))) ∧ Below w.heap.size w wr)) (fun v45 _ => (up r).length - (intOf v45).toNat)
          case atStart => exact ⟨0, by omega, rfl, ⟨by rw [applyPart_zero, applyUpto_at _ _ _ _ (by rw [up2_length] at hlt; exact hlt)]; exact HA.out.1, HA.out.2⟩⟩
          case round =>
            obtain ⟨k, hk, rfl, HA2⟩ := hrel
            by_cases hlt2 : k < (up r).length
            · have hkb : k < (up2 Bs).length := by have := HLL.out; rw [colsN_up2] at this; rw [up_length] at hlt2; have := HRL.out; omega
              obtain ⟨ad1, A3, c3, e1, hx1, hl1, hi1⟩ := at_L1 HR1.out (k : Int) (by omega) (by omega)
              subst e1
              rw [Int.toNat_natCast] at hx1
              rw [rd_L1_up2] at hx1 hl1 hi1
              obtain ⟨adr, er, hxr⟩ := Kd.at_int HC2.out (k : Int) (by omega) (by omega)
              subst er
              rw [Int.toNat_natCast, getD_up] at hxr
              obtain ⟨gv, cap, evv, hg1, hg2, _⟩ := Kd.S_form HA2.out.1 (by rw [up2_length, List.length_set, applyUpto_length _ _ _ _ (by rw [up2_length] at hi; exact hi)]; rw [up2_length] at hlt; omega)
              injection evv with ea en ec
              clear en ec
              subst ea
              obtain ⟨_, ce, hcl3, hM3, hcc3, hfr3, _, _⟩ := Kd.S_elem HA2.out.1 [] (i : Int) (by omega) (by omega)
              obtain ⟨ve, rfl, ge⟩ := hM3
              have hxo := hcc3 0 _ rfl
              have hfo := hfr3 0
              rw [show (i : Int).toNat * (D).sz + 0 = i from by rw [Int.toNat_natCast]; show i * 1 + 0 = i; omega] at hxo hfo
              rw [Int.toNat_natCast, getD_up2, applyUpto_getD _ _ _ _ _ (by rw [up2_length] at hlt; exact hlt)] at ge
              obtain ⟨Ao, co, rfl⟩ := Kd.R_slice ge
              obtain ⟨_, hoc, hoR⟩ := Kd.R_reads' ge
              clear hcc3 hfr3 hcl3 ge
              have hf := Aside0.mk (muladd_up (applyPart N r Bs k) (Bs.getD k []) (r.getD k 0) (by rw [applyPart_length N r Bs (by rw [← HN.out]; exact HBL.out) k, HBL.out _ (getD_mem (by rw [up2_length] at hkb; exact hkb)), HN.out]) (by rw [applyPart_length N r Bs (by rw [← HN.out]; exact HBL.out) k]; exact HLIM.out) (k := N + 1) (by rw [applyPart_length N r Bs (by rw [← HN.out]; exact HBL.out) k]; omega))
              replace hx1 := (HA2.out.2.cell (World.block_lt_of_cell? w _ hx1)).trans hx1
              replace hxr := (HA2.out.2.cell (World.block_lt_of_cell? w _ hxr)).trans hxr
              have HI1 := Aside0.mk (Kd.C_below hi1 HA2.out.2)
              have HL1 := Aside0.mk hl1
              have HOR := Aside0.mk hoR
              have HOC := Aside0.mk hoc
              have hb0 := World.block_lt_of_cell? wr _ hx1
              have i0 : (0 : Int) ≤ (i : Int) := by omega
              have i1 : (i : Int) < ((up2 M).length : Int) := by omega
              have k0 : (0 : Int) ≤ (k : Int) := by omega
              have k1 : (k : Int) < ((up2 Bs).length : Int) := by omega
              clear hi1 hl1 hoR hoc hx0
              generalize hpk : applyPart N r Bs k = pk at hxo hf HOR HOC
              generalize hbk : Bs.getD k [] = bk at hx1 hf HI1 HL1
              generalize hrk : r.getD k 0 = rk at hxr hf
              have HPK := Aside0.mk hpk
              have HBK := Aside0.mk hbk
              have HRK := Aside0.mk hrk
              clear hpk hbk hrk
              go_wp2
              go_region_with
                (first | (go_at_call 66; refine (gf256_MulAdd.calls (N + 1) _ _ (up pk) _ _ (up bk) _ _ _ _ (by exact Kd.C_drew HOR.out) HOC.out (by exact Kd.C_drew HI1.out) HL1.out hf.out).mono ?_; rintro e w4 ⟨v4, rfl, hv4, hb4⟩; have hx4 : w4.cell? ⟨gv, i, none⟩ = some (.slice Ao (up pk).length co) := (hb4.cell hg2).trans hxo; have hf4 : w4.frozen? ⟨gv, i, none⟩ = false := (hb4.frozen hg2).trans hfo; have hx5 : w4.cell? (ad1.add k) = some (.slice A3 (up bk).length c3) := (hb4.cell hb0).trans hx1; have HV4 := Aside0.mk hv4; have HB4 := Aside0.mk hb4; obtain ⟨A4, c4, rfl⟩ := Kd.R_slice HV4.out; clear hv4 hb4))
              all_goals
                have hBw := (HA2.out.2.drew).size
                have hP := S_put_fresh (Kd.S_drew HA2.out.1) HB4.out HV4.out hBw hg2 (i : Int) (by omega) (by omega)
                have hE : applyPart N r Bs (k + 1) = addS pk bk rk := by rw [← HPK.out, ← HBK.out, ← HRK.out]; exact applyPart_succ N r Bs k (by rw [up_length] at hlt2; exact hlt2) (by rw [up2_length] at hkb; exact hkb)
                rw [Int.toNat_natCast, set_up2, List.set_set] at hP
                have HP := Aside0.mk hP
                have HE := Aside0.mk hE
                clear hE
                have HBN := Aside0.mk ((below_step (HA2.out.2.drew) HB4.out).setCell (p := ⟨gv, i, none⟩) hg1 (.slice A4 (up (addS pk bk rk)).length c4))
                clear hP hBw
                go_wp2
                go_roundw
                case rel => exact ⟨k + 1, by omega, by go_num, ⟨by rw [HE.out]; exact HP.out, HBN.out⟩⟩
                case measure => simp [intOf]; omega
            · obtain rfl : k = (up r).length := by omega
              have hU := HA2.out.1
              rw [applyPart_all N r Bs _ (by rw [up_length]; omega), ← HROW.out, applyUpto_succ _ _ _ _ (by rw [up2_length] at hlt; exact hlt)] at hU
              have HU := Aside0.mk hU
              clear hU
              go_wp2
              go_roundw
              case rel => exact ⟨i + 1, by omega, by go_num, ⟨HU.out, HA2.out.2⟩⟩
              case measure => simp [intOf]; omega
        · obtain rfl : i = (up2 M).length := by omega
          have hU := HA.out.1
          rw [up2_length M, applyUpto_all, ← up2_length M] at hU
          have HU := Aside0.mk hU
          clear hU
          go_wp2
          go_ret2
          exact ⟨_, rfl, by rw [HN.out]; exact HU.out, HA.out.2⟩
/-- matrix.Apply, of bytes, blocks not too long. -/
def matrix_Apply.f (l0 : List (List Int)) (l1 : List (List Int)) : Option ((List (List Int)) × Int) :=
  if validB l0 && decide (l1.length = colsN l0) then
    if l1.any (fun x => !decide (x.length = colsN l1)) then some ([], 1)
    else if l0.all (fun x => x.all isB) && (l1.all (fun x => x.all isB) && decide (colsN l1 ≤ 140737488351232)) then some (up2 (applyM (colsN (toB2 l1)) (toB2 l0) (toB2 l1)), 0) else none
  else if l1.length ≤ 9223372036854775807 then some ([], 1) else none
theorem matrix_Apply.calls (A0 : Option Addr) (c0 : Nat) (l0 : List (List Int)) (A1 : Option Addr) (c1 : Nat) (l1 : List (List Int)) (r1 : List (List Int)) (r2 : Int) (w : World) (hr0 : Kd.C (Kd.slice 5 (Kd.int .u8)) w A0 l0.length l0) (hc0 : l0.length ≤ c0) (hr1 : Kd.C (Kd.slice 5 (Kd.int .u8)) w A1 l1.length l1) (hc1 : l1.length ≤ c1) (h : matrix_Apply.f l0 l1 = some (r1, r2)) :
    Calls Try.prog 32 #[.slice A0 l0.length c0, .slice A1 l1.length c1] w fun e w' => ∃ v0_ : Value, e = .returned (.tuple #[v0_, .int .i64 r2]) ∧ Kd.S (Kd.slice 5 (Kd.int .u8)) 34 w' w.heap.size (fun _ => True) v0_ r1 ∧ Below w.heap.size w w' := by
  unfold matrix_Apply.f at h
  split at h
  · rename_i hc
    simp only [Bool.and_eq_true, decide_eq_true_eq] at hc
    refine apply_main A0 A1 c0 c1 l0 l1 r1 r2 w hr0 hc0 hr1 hc1 hc.1 hc.2 ?_
    split at h
    · rename_i ha
      injection h with h
      injection h with h1 h2
      exact .inl ⟨ha, h1.symm, h2.symm⟩
    · rename_i ha
      split at h
      · rename_i hb
        simp only [Bool.and_eq_true, decide_eq_true_eq, List.all_eq_true] at hb
        injection h with h
        injection h with h1 h2
        obtain ⟨M, rfl⟩ := exists_up2 hb.1
        obtain ⟨Bs, rfl⟩ := exists_up2 hb.2.1
        rw [toB2_up2, toB2_up2] at h1
        have hlim := hb.2.2
        rw [colsN_up2] at hlim
        exact .inr ⟨by simpa using ha, M, Bs, rfl, rfl, h1.symm, h2.symm, hlim⟩
      · cases h
  · rename_i hc
    split at h
    · rename_i hn
      injection h with h
      injection h with h1 h2
      subst h1 h2
      refine (apply_bad1 A0 A1 c0 c1 l0 l1 w hr0 hc0 ?_ hn).mono ?_
      · simp only [Bool.and_eq_true, decide_eq_true_eq] at hc
        by_cases hv : validB l0 = true
        · exact .inr fun e => hc ⟨hv, e⟩
        · exact .inl (by simpa using hv)
      · rintro e w' ⟨rfl, hb⟩
        exact ⟨_, rfl, Kd.S_nil _ _ _ _ _, hb⟩
    · cases h
theorem apply_up (M Bs : List (List B)) (hv : validB M = true) (hl : Bs.length = colsN M) (hb : ∀ b ∈ Bs, b.length = colsN Bs) (hlim : colsN Bs ≤ 140737488351232) :
    matrix_Apply.f (up2 M) (up2 Bs) = some (up2 (applyM (colsN Bs) M Bs), 0) := by
  have h1 : (up2 Bs).any (fun x => !decide (x.length = colsN (up2 Bs))) = false := by
    rw [List.any_eq_false]
    intro x hx
    obtain ⟨y, hy, rfl⟩ := List.mem_map.1 hx
    simp [up_length, colsN_up2, hb y hy]
  have h2 : ∀ m : List (List B), (up2 m).all (fun x => x.all isB) = true := by
    intro m
    rw [List.all_eq_true]
    intro x hx
    obtain ⟨y, hy, rfl⟩ := List.mem_map.1 hx
    simp [up, isB_b2i]
  unfold matrix_Apply.f
  rw [if_pos (by rw [validB_up2, hv, up2_length, colsN_up2, hl]; simp), h1, if_neg (by simp), if_pos (by rw [h2, h2, colsN_up2]; simp [hlim]), toB2_up2, toB2_up2]
end Go.Proofs.Ytpkghpljgjlmjaa.K
/- reedsolomon.combine: the sum of blocks, each multiplied by its factor. -/
namespace Go.Proofs.Ytpkghpljgjlmjaa.K
open Go.RowKit Go.Proofs.YtpkghpljgjlmjaaW.PrintWords Go.Proofs.YtpkghpljgjlmjaaW.PrintLast Go.Proofs.YtpkghpljgjlmjaaW.PrintMore Kin
set_option linter.unusedSimpArgs false
set_option linter.unusedVariables false
/-- The captured sum: block g is the variable, its bytes are the call's own. -/
def CombSt (w0 w : World) (g : Nat) (v : Value) (S : List B) : Prop := w.heap[g]? = some (.cells #[v] 34 (0, 0)) ∧ Kd.R (Kd.int .u8) 5 w w0.heap.size (fun k => k ≠ g) v (up S) ∧ w0.heap.size ≤ g ∧ Below w0.heap.size w0 w
theorem one_set {w : World} {g : Nat} {v : Value} {ty : TypeId} (h : w.heap[g]? = some (.cells #[v] ty (0, 0))) (u : Value) : (w.setCell ⟨g, 0, none⟩ u).heap[g]? = some (.cells #[u] ty (0, 0)) := blk_set h 0 u
set_option maxRecDepth 100000 in
set_option maxHeartbeats 2000000 in
theorem combine1_calls (w0 w : World) (g : Nat) (v : Value) (S Bl : List B) (c : B) (A1 : Option Addr) (c1 : Nat) (hl : S.length = Bl.length) (hn : S.length ≤ 140737488351232)
    (hr1 : Kd.C (Kd.int .u8) w A1 (up Bl).length (up Bl)) (hc1 : (up Bl).length ≤ c1) (h : CombSt w0 w g v S) :
    Calls Try.prog 92 #[.slice A1 (up Bl).length c1, .int .u8 (b2i c), .pointer (some ⟨g, 0, none⟩)] w fun e w' => ∃ v', e = .returned (.tuple #[]) ∧ CombSt w0 w' g v' (addS S Bl c) := by
  obtain ⟨h1, h2, h3, h4⟩ := h
  have HR1 := Aside0.mk hr1
  have HC1 := Aside0.mk hc1
  have hglt : g < w.heap.size := (Array.getElem?_eq_some_iff.1 h1).1
  have hcell : w.cell? ⟨g, 0, none⟩ = some v := by rw [blk_cell h1]; rfl
  obtain ⟨A0, c0, rfl, hc0, hr0⟩ := Kd.R_reads h2
  have HR0 := Aside0.mk hr0
  have HC0 := Aside0.mk hc0
  have H1 := Aside0.mk h1
  have H3 := Aside0.mk h3
  have H4 := Aside0.mk h4
  have HG := Aside0.mk hglt
  have hfro : ∀ w1 : World, Below w.heap.size w w1 → w1.frozen? ⟨g, 0, none⟩ = false := fun w1 hb => blk_frozen ((hb.block g hglt).trans h1) 0
  have hcel : ∀ w1 : World, Below w.heap.size w w1 → w1.cell? ⟨g, 0, none⟩ = some (.slice A0 (up S).length c0) := fun w1 hb => by rw [blk_cell ((hb.block g hglt).trans h1)]; rfl
  have HFRO := Aside0.mk hfro
  have HCEL := Aside0.mk hcel
  have HM := Aside0.mk (muladd_up S Bl c hl hn (k := S.length + 1) (by omega))
  clear hr1 hc1 h1 h2 hr0 hc0 h3 h4 hfro hcel hglt hl hn
  go_enter Try.func92, Try.ntmps92
  go_wp2_with (go_at_call 66; (with_reducible refine (gf256_MulAdd.calls _ _ _ _ _ _ _ _ _ _ _ HR0.out HC0.out HR1.out HC1.out HM.out).mono ?_); rintro e w1 ⟨v1, rfl, hv1, hb1⟩; obtain ⟨A2, c2, ev1⟩ := Kd.R_slice hv1; subst ev1; have HV1 := Aside0.mk hv1; have HB1 := Aside0.mk (show Below w.heap.size w w1 from hb1); have hc2 := HCEL.out _ HB1.out; have hf2 := HFRO.out _ HB1.out; clear hv1 hb1)
  go_end0
  have hg1 := (HB1.out.block g HG.out).trans H1.out
  have hr : Kd.R (Kd.int .u8) 5 w1 w0.heap.size (fun k => k ≠ g) (.slice A2 (up (addS S Bl c)).length c2) (up (addS S Bl c)) := Kd.R_lower (Kd.R_mono (Kd.R_bound HV1.out) (fun k hk => by have := hk.2.1; have := HG.out; omega)) H4.out.size
  exact ⟨_, rfl, one_set hg1 _, Kd.R_far hr (fun k hk => hk) _, H3.out, (H4.out.trans (HB1.out.mono H4.out.size)).setCell H3.out _⟩
theorem addS_zero : ∀ {S Bl : List B}, S.length = Bl.length → addS S Bl 0 = S
  | [], _, _ => rfl
  | a :: S, [], h => by simp at h
  | a :: S, b :: Bl, h => by
    show (a ^^^ gmul b 0) :: addS S Bl 0 = a :: S
    rw [gmul_zero, bx_zero, addS_zero (by simpa using h)]
set_option maxRecDepth 100000 in
set_option maxHeartbeats 4000000 in
theorem combine_calls (F : List B) (Bs : List (List B)) (n : Nat) (A0 : Option Addr) (c0 : Nat) (A1 : Option Addr) (c1 : Nat) (w : World) (hn : n ≤ 140737488351232) (hF : Bs.length ≤ F.length) (hB : ∀ b ∈ Bs, b.length = n)
    (hr0 : Kd.C (Kd.int .u8) w A0 (up F).length (up F)) (hc0 : (up F).length ≤ c0) (hr1 : Kd.C (Kd.slice 5 (Kd.int .u8)) w A1 (up2 Bs).length (up2 Bs)) (hc1 : (up2 Bs).length ≤ c1) :
    Calls Try.prog 71 #[.slice A0 (up F).length c0, .slice A1 (up2 Bs).length c1, .int .i64 (n : Int)] w fun e w' => ∃ v0_ : Value, e = .returned (v0_) ∧ Kd.R (Kd.int .u8) 5 w' w.heap.size (fun _ => True) v0_ (up (applyPart n F Bs Bs.length)) ∧ Below w.heap.size w w' := by
  have HR0 := Aside0.mk hr0
  have HC0 := Aside0.mk hc0
  have HR1 := Aside0.mk hr1
  have HC1 := Aside0.mk hc1
  have HBL := Aside0.mk hB
  have HB := Aside0.mk (Below.refl w.heap.size w)
  have hmf : ∀ (fn : Fn) (first cap : Array Value) (w : World), (Instr.makeFunc fn first cap).run Try.prog w = .ok (.func fn first cap) w := fun _ _ _ _ => rfl
  have hlim := hr1.2.1
  clear hr0 hc0 hr1 hc1 hB
  go_enter Try.func71, Try.ntmps71
  go_wp2_with (first | ((with_reducible refine gate_dst (N := 12) rfl ?_); refine Kd.R_make (Kd.int .u8) (w0 := w) w.heap.size 5 rfl (N := 12) rfl 34 _ _ rfl (n : Int) rfl rfl Try.underlying34 (.int .u8 0) 1 info5 rfl (by decide) (by omega) 0 (ok := fun k => w.heap.size ≤ k) (okp := fun _ => False) rfl (fun _ hk => hk.elim) (Nat.le_refl _) (by omega) (by omega) HB.out HB.out.size ?_; intro v2 w2 hv2 hb2 hg2 hat2; obtain ⟨A2, c2, ev2⟩ := Kd.R_slice hv2; subst ev2; have HV := Aside0.mk hv2; have HB2 := Aside0.mk hb2; clear hv2 hb2 hg2 hat2))
  have hst : CombSt w (w2.alloc (.cells #[.slice A2 n c2] 34 (0, 0))) w2.heap.size (.slice A2 n c2) (List.replicate n 0) := by
    have hv := HV.out
    rw [Int.toNat_natCast, up_zeros, show (up (List.replicate n (0 : B))).length = n by rw [up_length, List.length_replicate]] at hv
    exact ⟨blk_new _ _, Kd.R_step (Kd.R_mono (Kd.R_bound hv) fun k hk => Nat.ne_of_lt hk.2.2.1) (fun k hk hlt => (below_alloc (Below.refl _ w2) _).block k hlt), HB2.out.size, below_alloc HB2.out _⟩
  have HST := Aside0.mk hst
  generalize w2.heap.size = g at HST
  generalize w2.alloc (.cells #[.slice A2 n c2] 34 (0, 0)) = w3 at HST
  clear hst HV HB2
  go_loopw [16] (fun v16 wr => ∃ k : Nat, k ≤ (up2 Bs).length ∧ v16 = .int .i64 (k : Int) ∧ Aside0 (∃ v, CombSt w wr g v (applyPart n F Bs k))) (fun v16 _ => (up2 Bs).length - (intOf v16).toNat)
  case atStart => exact ⟨0, by omega, rfl, ⟨⟨_, HST.out⟩⟩⟩
  case round =>
    obtain ⟨k, hk, rfl, HA⟩ := hrel
    obtain ⟨v, hA⟩ := HA.out
    have HS := Aside0.mk hA
    clear hA HA HST
    by_cases hlt : k < (up2 Bs).length
    · obtain ⟨ad, A3, c3, e, hx, hl, hi⟩ := at_L1 HR1.out (k : Int) (by omega) (by omega)
      subst e
      obtain ⟨adf, ef, hxf⟩ := Kd.at_int HR0.out (k : Int) (by omega) (by rw [up_length]; rw [up2_length] at hlt; omega)
      subst ef
      rw [Int.toNat_natCast] at hx hxf
      rw [rd_L1_up2] at hx hl hi
      rw [getD_up] at hxf
      replace hx := (HS.out.2.2.2.cell (World.block_lt_of_cell? w _ hx)).trans hx
      replace hxf := (HS.out.2.2.2.cell (World.block_lt_of_cell? w _ hxf)).trans hxf
      have HI := Aside0.mk (Kd.C_below hi HS.out.2.2.2)
      have HL := Aside0.mk hl
      have hbl : (Bs.getD k []).length = n := HBL.out _ (getD_mem (by rw [up2_length] at hlt; exact hlt))
      have hal := applyPart_length n F Bs HBL.out k
      have HBK := Aside0.mk (show (applyPart n F Bs k).length = (Bs.getD k []).length by omega)
      have HAK := Aside0.mk (show (applyPart n F Bs k).length ≤ 140737488351232 by omega)
      have HSUC := Aside0.mk (applyPart_succ n F Bs k (by rw [up2_length] at hlt; omega) (by rw [up2_length] at hlt; exact hlt))
      have b1 := b2i_nonneg (F.getD k 0)
      have b2 := b2i_lt (F.getD k 0)
      have k0 : (0 : Int) ≤ (k : Int) := by omega
      have k1 : (k : Int) < ((up2 Bs).length : Int) := by omega
      have k2 : (k : Int) < ((up F).length : Int) := by rw [up_length]; rw [up2_length] at hlt; omega
      clear hi hl hbl hal
      generalize hfk : F.getD k 0 = fk at hxf HSUC b1 b2
      generalize hbk : Bs.getD k [] = bk at hx HI HL HBK HSUC
      clear hfk hbk
      by_cases hz : fk = 0
      · have hz1 : (b2i fk != 0) = false := by subst hz; rfl
        have hz2 : (b2i fk == 0) = true := by subst hz; rfl
        have HN := Aside0.mk (show CombSt w wr g v (applyPart n F Bs (k + 1)) by rw [HSUC.out, hz, addS_zero HBK.out]; exact HS.out)
        clear hz
        go_wp2
        go_roundw
        case rel => exact ⟨k + 1, by omega, by go_num, ⟨⟨_, HN.out⟩⟩⟩
        case measure => simp [intOf]; omega
      · have hz1 : (b2i fk != 0) = true := by rw [bne_iff_ne]; exact fun e => hz (b2i_eq_zero.1 e)
        have hz2 : (b2i fk == 0) = false := by rw [beq_eq_false_iff_ne]; exact fun e => hz (b2i_eq_zero.1 e)
        clear hz
        go_wp2_with (go_at_call 92; (with_reducible refine (combine1_calls w _ g v _ bk fk A3 c3 HBK.out HAK.out HI.out HL.out HS.out).mono ?_); rintro e w5 ⟨v5, rfl, hs5⟩; have HS5 := Aside0.mk hs5; clear hs5)
        go_roundw
        case rel => exact ⟨k + 1, by omega, by go_num, ⟨⟨_, by rw [HSUC.out]; exact HS5.out⟩⟩⟩
        case measure => simp [intOf]; omega
    · obtain rfl : k = (up2 Bs).length := by omega
      obtain ⟨Av, cv, rfl⟩ := Kd.R_slice HS.out.2.1
      have hcell : wr.cell? ⟨g, 0, none⟩ = some (.slice Av (up (applyPart n F Bs (up2 Bs).length)).length cv) := by rw [blk_cell HS.out.1]; rfl
      go_wp2
      go_ret
      exact ⟨_, rfl, by rw [← up2_length Bs]; exact Kd.R_mono HS.out.2.1 (fun _ _ => trivial), HS.out.2.2.2⟩
end Go.Proofs.Ytpkghpljgjlmjaa.K
/- reedsolomon.level: blocks of one length. -/
namespace Go.Proofs.Ytpkghpljgjlmjaa.K
open Go.RowKit Go.Proofs.YtpkghpljgjlmjaaW.PrintWords Go.Proofs.YtpkghpljgjlmjaaW.PrintLast Go.Proofs.YtpkghpljgjlmjaaW.PrintMore Kin
set_option linter.unusedSimpArgs false
set_option linter.unusedVariables false
theorem enters91 (args : Array Value) (w : World) : (callFunc 91 args).run Try.prog w = .ok (.enter 91 args) w := by
  go_simp
def offLen {α : Type} (n : Nat) (x : List α) : Bool := decide (x.length < 1) || decide (x.length > 65536) || decide (x.length ≠ n)
def levelB {α : Type} (l : List (List α)) : Bool := !(l.any (offLen (colsN l)))
set_option maxRecDepth 100000 in
theorem level1_calls (A0 : Option Addr) (c0 : Nat) (l0 : List (List Int)) (a : Addr) (A : Option Addr) (c : Nat) (x : List Int) (w : World) (hc : w.cell? a = some (.slice A0 l0.length c0)) (hr : Kd.C (Kd.slice 5 (Kd.int .u8)) w A0 l0.length l0) (hp : 0 < l0.length) (hx : x.length ≤ 9223372036854775807) :
    Calls Try.prog 91 #[.slice A x.length c, .pointer (some a)] w fun e w' => e = .returned (.bool (offLen (colsN l0) x)) ∧ w = w' := by
  obtain ⟨ad, A1, c1, e, hx0, hl1, hi1⟩ := at_L1 hr 0 (by omega) (by omega)
  subst e
  have hr1 : (rd_L1 l0 0).length = colsN l0 := by
    cases l0 with
    | nil => simp at hp
    | cons y l => rfl
  rw [hr1] at hx0 hl1
  rw [show (Int.toNat 0) = 0 from rfl, Addr.add_zero'] at hx0
  have hn2 := colsN_le hr
  have hp0 : (0 : Int) < (l0.length : Int) := by omega
  clear hr hi1 hr1 hl1
  generalize hcl : colsN l0 = n at hx0 hn2
  clear hcl
  by_cases h1 : x.length < 1
  · have H := Aside0.mk (show offLen n x = true by unfold offLen; simp [h1])
    have d1 : decide ((x.length : Int) < 1) = true := decide_eq_true (by omega)
    have d1' : decide (x.length < 1) = true := decide_eq_true h1
    clear h1
    go_enter Try.func91, Try.ntmps91
    go_wp2
    go_ret
    exact ⟨by rw [H.out]; first | rfl | (simp [*]; done), rfl⟩
  · by_cases h2 : x.length > 65536
    · have H := Aside0.mk (show offLen n x = true by unfold offLen; simp [h2])
      have d1 : decide ((x.length : Int) < 1) = false := decide_eq_false (by omega)
      have d2 : decide ((65536 : Int) < (x.length : Int)) = true := decide_eq_true (by omega)
      have d2' : decide (65536 < x.length) = true := decide_eq_true h2
      clear h1 h2
      go_enter Try.func91, Try.ntmps91
      go_wp2
      go_ret
      exact ⟨by rw [H.out]; first | rfl | (simp [*]; done), rfl⟩
    · have d1 : decide ((x.length : Int) < 1) = false := decide_eq_false (by omega)
      have d2 : decide ((65536 : Int) < (x.length : Int)) = false := decide_eq_false (by omega)
      have d2' : decide (65536 < x.length) = false := decide_eq_false h2
      by_cases h3 : x.length = n
      · have H := Aside0.mk (show offLen n x = false by unfold offLen; simp [h1, h2, h3]; omega)
        have d3 : ((x.length : Int) != (n : Int)) = false := by rw [bne_eq_false_iff_eq]; omega
        clear h1 h2 h3
        go_enter Try.func91, Try.ntmps91
        go_wp2
        go_ret
        exact ⟨by rw [H.out]; first | rfl | (simp [*]; done), rfl⟩
      · have H := Aside0.mk (show offLen n x = true by unfold offLen; simp [h3])
        have d3 : ((x.length : Int) != (n : Int)) = true := by rw [bne_iff_ne]; omega
        clear h1 h2 h3
        go_enter Try.func91, Try.ntmps91
        go_wp2
        go_ret
        exact ⟨by rw [H.out]; first | rfl | (simp [*]; done), rfl⟩
set_option maxRecDepth 100000 in
theorem indexFunc_nil (A0 : Option Addr) (c0 : Nat) (f : Nat) (a : Addr) (w : World) :
    Calls Try.prog 84 #[.slice A0 0 c0, .func (Fn.func f) #[] #[.pointer (some a)]] w fun e w' => e = .returned (.int .i64 (-1)) ∧ w = w' := by
  go_enter Try.func84, Try.ntmps84
  go_wp2
  go_loop [8] (fun v8 => v8 = .int .i64 0) (fun _ => 0)
  case atStart => rfl
  case round =>
    obtain rfl := hrel
    go_wp2
    go_ret
    exact ⟨rfl, rfl⟩
set_option maxRecDepth 100000 in
theorem containsFunc_nil (A0 : Option Addr) (c0 : Nat) (f : Nat) (a : Addr) (w : World) :
    Calls Try.prog 58 #[.slice A0 0 c0, .func (Fn.func f) #[] #[.pointer (some a)]] w fun e w' => e = .returned (.bool false) ∧ w = w' := by
  have h := Aside0.mk (indexFunc_nil A0 c0 f a w)
  go_enter Try.func58, Try.ntmps58
  go_wp2_with (go_at_call 84; (with_reducible refine h.out.mono ?_); rintro e w' ⟨rfl, rfl⟩)
  go_ret
  exact ⟨rfl, rfl⟩
def reedsolomon_level.f (l0 : List (List Int)) : Option Bool := some (levelB l0)
set_option maxRecDepth 100000 in
theorem reedsolomon_level.calls (A0 : Option Addr) (c0 : Nat) (l0 : List (List Int)) (r : Bool) (w : World) (hr0 : Kd.C (Kd.slice 5 (Kd.int .u8)) w A0 l0.length l0) (hc0 : l0.length ≤ c0) (h : reedsolomon_level.f l0 = some r) :
    Calls Try.prog 69 #[.slice A0 l0.length c0] w fun e w' => e = .returned (.bool r) ∧ Below w.heap.size w w' := by
  obtain rfl := Option.some.inj h
  have HR0 := Aside0.mk hr0
  have hmf : ∀ (fn : Fn) (first cap : Array Value) (w : World), (Instr.makeFunc fn first cap).run Try.prog w = .ok (.func fn first cap) w := fun _ _ _ _ => rfl
  have hb : Below w.heap.size w (w.alloc (.cells #[.slice A0 l0.length c0] 22 (0, 0))) := below_alloc (Below.refl _ _) _
  have hcell : (w.alloc (.cells #[.slice A0 l0.length c0] 22 (0, 0))).cell? ⟨w.heap.size, 0, none⟩ = some (.slice A0 l0.length c0) := by rw [blk_cell (blk_new _ _)]; rfl
  have HC : Aside0 (Calls Try.prog 58 #[.slice A0 l0.length c0, .func (Fn.func 91) #[] #[.pointer (some ⟨w.heap.size, 0, none⟩)]] (w.alloc (.cells #[.slice A0 l0.length c0] 22 (0, 0))) fun e w' => e = .returned (.bool (l0.any (offLen (colsN l0)))) ∧ w.alloc (.cells #[.slice A0 l0.length c0] 22 (0, 0)) = w') := by
    by_cases hp : 0 < l0.length
    · exact ⟨containsFunc_calls A0 c0 l0 91 ⟨w.heap.size, 0, none⟩ _ _ (Kd.C_below HR0.out hb) ⟨enters91, fun A c x hx _ => level1_calls A0 c0 l0 ⟨w.heap.size, 0, none⟩ A c x _ hcell (Kd.C_below HR0.out hb) hp hx.2.1⟩⟩
    · obtain rfl : l0 = [] := List.eq_nil_of_length_eq_zero (by omega)
      exact ⟨containsFunc_nil A0 c0 91 _ _⟩
  have HB := Aside0.mk hb
  clear hr0 hc0 h hb hcell
  go_enter Try.func69, Try.ntmps69
  go_wp2_with (first | (go_at_call 58; (with_reducible refine HC.out.mono ?_); rintro e w' ⟨rfl, rfl⟩))
  go_ret
  exact ⟨by first | rfl | (unfold levelB; rfl), HB.out⟩
theorem levelB_lim {Bs : List (List B)} (h : levelB (up2 Bs) = true) : colsN Bs ≤ 65536 ∧ ∀ b ∈ Bs, b.length = colsN Bs := by
  unfold levelB at h
  rw [Bool.not_eq_true', List.any_eq_false] at h
  have key : ∀ b ∈ Bs, b.length ≤ 65536 ∧ b.length = colsN Bs := by
    intro b hb
    have := h (up b) (List.mem_map.2 ⟨b, hb, rfl⟩)
    rw [colsN_up2] at this
    simp only [offLen, up_length, Bool.or_eq_true, decide_eq_true_eq, not_or, Nat.not_lt, ne_eq, Decidable.not_not] at this
    omega
  refine ⟨?_, fun b hb => (key b hb).2⟩
  cases Bs with
  | nil => exact Nat.zero_le _
  | cons y l => exact (key y List.mem_cons_self).1
end Go.Proofs.Ytpkghpljgjlmjaa.K
/- reedsolomon.Encode: all pieces of blocks. -/
namespace Go.Proofs.Ytpkghpljgjlmjaa.K
open Go.RowKit Go.Proofs.YtpkghpljgjlmjaaW.PrintWords Go.Proofs.YtpkghpljgjlmjaaW.PrintLast Go.Proofs.YtpkghpljgjlmjaaW.PrintMore Kin
set_option linter.unusedVariables false
set_option linter.unusedSimpArgs false
theorem S_append_step {P : Program} {ops : Array Oper} {o : Oper} {a : Act} {Q : Exit → Act → World → Prop} {Kc : Act → World → Prop} {α : Type} (d : Kd α) {w0 W : World} (base : Nat) (hw : Region.wanted o (yielded ops a.tmps) = true) (s x : Operand) (t e : TypeId) (z : Value) (bytes : Nat)
    (ho : o.op = .call { callee := .builtin .append, args := #[s, x], argTypes := #[t, t] })
    (ht : P.underlying t = some (.slice e)) (hinfo : (P.info? e).map (fun i => (i.zero, i.size, i.bytes)) = some (some z, d.sz, bytes)) (hz : z.cells.size = d.sz) (hs0 : 0 < d.sz) (hb0 : 0 < bytes)
    (v : Value) (xs : List α) (p : α) (cs : List Value) (ok okp : Nat → Prop) (hs : a.eval s = v) (hx : a.eval x = .slice (some ⟨W.heap.size, 0, none⟩) 1 1) (hp : d.M W base okp p cs) (hokp : ∀ k, okp k → ok k ∧ some k ≠ v.ownBlock) (hfresh : ∀ k, W.heap.size ≤ k → ok k)
    (HO : Kd.S d e W base (fun k => ok k ∧ ¬ okp k) v xs) (HB : Below base w0 W) (hbase : base ≤ W.heap.size) (hl : (xs.length + 1) * bytes ≤ 140737488355328)
    (h : ∀ v1 w1, Kd.S d e w1 base ok v1 (xs ++ [p]) → Below base w0 w1 → W.grownBy w1 v.ownBlock → (v1.ownBlock = v.ownBlock ∨ ∃ b, v1.ownBlock = some b ∧ W.heap.size ≤ b) → Kc (a.put o.dst v1) w1) :
    if Region.wanted o (yielded ops a.tmps) = true then Oper.wp P o a (W.alloc (.cells cs.toArray e)) Kc Q else Kc (a.put o.dst undef) (W.alloc (.cells cs.toArray e)) := by
  obtain ⟨f, hf, hR⟩ := Kd.S_tag HO xs.length okp (fun _ hk h2 => h2.2 hk)
  refine Kd.R_append_step (Kd.tag f d) base hw s x t e z bytes ho ht hinfo hz hs0 hb0 v xs.zipIdx (p, xs.length) cs ok okp hs hx (d.M_mono (fun k hk => ⟨hk, hf k hk⟩) hp) hokp hfresh (Kd.R_mono hR (fun _ hk => hk.1)) HB hbase (by rw [List.length_zipIdx]; exact hl) ?_
  intro v1 w1 hr
  rw [← Kd.zip_snoc] at hr
  exact h v1 w1 ⟨f, hr⟩
/-- A piece of blocks. -/
def encRow (d : Nat) (Bs : List (List B)) (i : Nat) : List B := applyPart (colsN Bs) (coefRow Bs.length d i) Bs Bs.length
def encM (d : Nat) (Bs : List (List B)) (t : Nat) : List (List B) := (List.range t).map (encRow d Bs)
theorem encM_length (d : Nat) (Bs : List (List B)) (t : Nat) : (encM d Bs t).length = t := by simp [encM]
theorem encM_snoc (d : Nat) (Bs : List (List B)) (i : Nat) : up2 (encM d Bs i) ++ [up (encRow d Bs i)] = up2 (encM d Bs (i + 1)) := by
  unfold encM
  rw [List.range_succ, List.map_append, up2_append]
  rfl
theorem encRow_calls {cs : Array Value} {d : Nat} (h : IsCoef cs d) (w : World) {g i n : Nat} {Bs : List (List B)} {A1 : Option Addr} {c1 : Nat} (hg : w.heap[g]? = some (.cells cs 86 (0, 0))) (hi : i < 16) (hB8 : Bs.length ≤ 8) (hn : n = colsN Bs ∧ n ≤ 65536) (hB : ∀ b ∈ Bs, b.length = n)
    (hr1 : Kd.C (Kd.slice 5 (Kd.int .u8)) w A1 (up2 Bs).length (up2 Bs)) (hc1 : (up2 Bs).length ≤ c1) :
    Calls Try.prog 71 #[.slice (some ⟨g, i * 8, none⟩) (up2 Bs).length 8, .slice A1 (up2 Bs).length c1, .int .i64 (n : Int)] w fun e w' => ∃ v0_ : Value, e = .returned (v0_) ∧ Kd.R (Kd.int .u8) 5 w' w.heap.size (fun _ => True) v0_ (up (encRow d Bs i)) ∧ Below w.heap.size w w' := by
  have hl : (up (coefRow Bs.length d i)).length = (up2 Bs).length := by rw [up_length, coefRow_length, up2_length]
  have := combine_calls (coefRow Bs.length d i) Bs n (some ⟨g, i * 8, none⟩) 8 A1 c1 w (by omega) (by rw [coefRow_length]; omega) hB (h.reads hg hi hB8) (by rw [hl, up2_length]; exact hB8) hr1 hc1
  rw [hl] at this
  unfold encRow
  rw [← hn.1]
  exact this
def f39.T8 : Bool × List (List Nat × List Nat) := (true, [([], []), ([], []), ([1], [1]), ([], []), ([3], [3]), ([2, 4], [2, 4]), ([], []), ([], []), ([7], [7]), ([8], [8]), ([9], [9]), ([5, 6, 10], [5, 6, 10]), ([11], [11]), ([0, 12, 11], [0, 12]), ([13, 13, 0, 1, 2, 3, 4, 5, 6, 7, 8, 9, 10, 11, 12, 13], [0, 13])])
def f39.B8 : List Nat := [0, 0, 2, 0, 8, 30, 0, 0, 128, 384, 896, 2046, 4094, 8191, 16383]
theorem f39.tab8 : rtab .any (opsOf Try.f39 8) = f39.T8 := by kernel_rfl
theorem f39.bits8 : waitsOk f39.T8.2 f39.B8 = true := by kernel_rfl
set_option maxRecDepth 100000 in
set_option maxHeartbeats 8000000 in
theorem encode_good (d t : Nat) (Bs : List (List B)) (A2 : Option Addr) (cB : Nat) (w : World) (hd1 : 1 ≤ d) (hd : d ≤ 8) (ht1 : d ≤ t) (ht : t ≤ 16) (hb1 : 1 ≤ Bs.length) (hb2 : Bs.length ≤ d) (hlv : levelB (up2 Bs) = true) (hr2 : Kd.C (Kd.slice 5 (Kd.int .u8)) w A2 (up2 Bs).length (up2 Bs)) (hc2 : (up2 Bs).length ≤ cB) :
    Calls Try.prog 39 #[.int .i64 (d : Int), .int .i64 (t : Int), .slice A2 (up2 Bs).length cB] w fun e w' => ∃ v0_ : Value, e = .returned (.tuple #[v0_, .int .i64 0]) ∧ Kd.S (Kd.slice 5 (Kd.int .u8)) 34 w' w.heap.size (fun _ => True) v0_ (up2 (encM d Bs t)) ∧ Below w.heap.size w w' := by
  have HLV := Aside0.mk (show reedsolomon_level.f (up2 Bs) = some true by rw [reedsolomon_level.f, hlv])
  have HV := Aside0.mk (show reedsolomon_Valid.f (d : Int) (t : Int) = some true by rw [rsvalid_eq, decide_eq_true (by omega)])
  have HB8 := Aside0.mk (show Bs.length ≤ 8 by omega)
  obtain ⟨adB, Ab, cb, e, hx0, hl0, hi0⟩ := at_L1 hr2 0 (by omega) (by rw [up2_length]; omega)
  subst e
  have hr1 : (rd_L1 (up2 Bs) 0).length = colsN Bs := by
    cases Bs with
    | nil => simp at hb1
    | cons y l => exact up_length y
  have hlvl := levelB_lim hlv
  rw [show (Int.toNat 0) = 0 from rfl, Addr.add_zero', hr1] at hx0
  have HRB := Aside0.mk hr2
  have HCB := Aside0.mk hc2
  have HBL := Aside0.mk hlvl.2
  have HNL := Aside0.mk (show colsN Bs = colsN Bs ∧ colsN Bs ≤ 65536 from ⟨rfl, hlvl.1⟩)
  have l0 : 0 < (up2 Bs).length := by rw [up2_length]; omega
  have l1 : (0 : Int) < ((up2 Bs).length : Int) := by rw [up2_length]; omega
  have l2 : ((up2 Bs).length : Int) ≤ 8 := by rw [up2_length]; omega
  have b1 : decide (((up2 Bs).length : Int) < 1) = false := decide_eq_false (by rw [up2_length]; omega)
  have b1' : decide ((up2 Bs).length < 1) = false := decide_eq_false (by rw [up2_length]; omega)
  have b2 : decide ((d : Int) < ((up2 Bs).length : Int)) = false := decide_eq_false (by rw [up2_length]; omega)
  have b2' : decide (d < (up2 Bs).length) = false := decide_eq_false (by rw [up2_length]; omega)
  clear hr1 hi0 hl0 hr2 hc2 hlv hlvl hb1 hb2
  generalize hcn : colsN Bs = n at hx0 HBL HNL
  have HCN := Aside0.mk hcn
  clear hcn
  have HX0 := Aside0.mk hx0
  clear hx0
  go_enter Try.func39, Try.ntmps39
  go_wp2_with (first | (go_at_call 37; (with_reducible refine (reedsolomon_Valid.calls _ _ true _ HV.out).mono ?_); rintro e w1 ⟨rfl, ⟨n1, rfl⟩⟩) | (go_at_call 69; (with_reducible refine (reedsolomon_level.calls _ _ _ true _ (Kd.C_drewN HRB.out n1) HCB.out HLV.out).mono ?_); rintro e w1b ⟨rfl, hb⟩; have HB1 := Aside0.mk ((pw_below_drewN (Below.refl w.heap.size w) n1).trans hb); clear hb) | (go_at_call 70; (with_reducible refine (coefficients_calls d hd1 hd _).mono ?_); rintro e w2 ⟨cs, rfl, hcs, hb⟩; have hst := hcs.store (w := w2.alloc (.cells Try.zeroCells86 86 (0, 0))) (g := w2.heap.size) (heap_alloc_new _ _) (by kernel_rfl); have hsz := hcs.1; have HC := Aside0.mk hcs; have HB2 := Aside0.mk (HB1.out.trans (hb.mono HB1.out.size)); clear hcs hb))
  have HG0 := Aside0.mk (setRow_heap _ _ _ cs _ _ (heap_alloc_new w2 (.cells Try.zeroCells86 86 (0, 0))))
  have HB3 : Aside0 (Below w.heap.size w ((w2.alloc (.cells Try.zeroCells86 86 (0, 0))).setRow w2.heap.size cs)) := ⟨below_setRow (below_alloc HB2.out _) HB2.out.size _⟩
  generalize (w2.alloc (.cells Try.zeroCells86 86 (0, 0))).setRow w2.heap.size cs = w3 at HG0 HB3 ⊢
  generalize w2.heap.size = g at HG0 ⊢
  clear hst hsz HB2 HB1
  go_loopw [9, 34] (fun v9 v34 wr => ∃ i : Nat, i ≤ t ∧ v34 = .int .i64 (i : Int) ∧ Aside0 (Kd.S (Kd.slice 5 (Kd.int .u8)) 34 wr w.heap.size (fun _ => True) v9 (up2 (encM d Bs i)) ∧ wr.heap[g]? = some (.cells cs 86 (0, 0)) ∧ Below w.heap.size w wr)) (fun _ v34 _ => t - (intOf v34).toNat)
  case atStart => exact ⟨0, by omega, rfl, ⟨Kd.S_nil _ _ _ _ _, HG0.out, HB3.out⟩⟩
  case round =>
    obtain ⟨i, hi, rfl, HA⟩ := hrel
    by_cases hlt : i < t
    · have HN := Aside0.mk HA.out.1
      have HG := Aside0.mk HA.out.2.1
      have HB := Aside0.mk HA.out.2.2
      have HI16 := Aside0.mk (show i < 16 by omega)
      have hxB := (HB.out.cell (World.block_lt_of_cell? w _ HX0.out)).trans HX0.out
      have HGN : Aside0 (∀ (v : Value) (W : World), Kd.S (Kd.slice 5 (Kd.int .u8)) 34 W w.heap.size (fun _ => True) v (up2 (encM d Bs i)) → W.heap[g]? = some (.cells cs 86 (0, 0)) → v.ownBlock ≠ some g) := ⟨fun v W hS hG hv => by
        obtain ⟨cells, hc⟩ := Kd.S_typed hS g hv
        rw [hG] at hc
        injection hc with hc
        injection hc with _ hc
        exact absurd hc (by decide)⟩
      have i0 : (0 : Int) ≤ (i : Int) := by omega
      have i1 : (i : Int) < 16 := by omega
      have i2 : (i : Int) < (t : Int) := by omega
      clear HA
      go_wp2
      refine start_ (n := 15) (S := fun w' => w'.cell? adB = some (.slice Ab n cb)) (ds := [11, 12, 13, 14]) #[false, false, false, false, false, false, false, false, false, false, false, false, false, false, false] (by kernel_rfl) rfl rfl hxB (fun hHeld => ?_)
      refine with_tabW f39.tab8 f39.bits8 (fun HT_ HW_ => ?_)
      have HN1 := Aside0.mk (Kd.S_drew HN.out)
      have HG1 := Aside0.mk (show wr.drew.heap[g]? = some (.cells cs 86 (0, 0)) from HG.out)
      have HB1 := Aside0.mk (below_drew HB.out)
      have HRB1 := Aside0.mk (Kd.C_below HRB.out HB1.out)
      clear HN HG HB hxB
      generalize wr.drew = W1 at HN1 HG1 HB1 HRB1 hHeld ⊢
      refine pure_ (i := 0) (N := some 37) (v := ?_) (a' := ?_) #[true, false, false, false, false, false, false, false, false, false, false, false, false, false, false] rfl rfl (any_of HT_.out (by kernel_rfl)) (fun _ _ _ h => h) (Or.inl ⟨by rfl, ?_⟩) ?_ ?_
      rotate_left
      · intro w'
        go_simp
        with_reducible rfl
      rotate_left
      · simp only [Act.put, List.setIfInBounds_toArray, List.set_cons_zero, List.set_cons_succ, i64_w, i32_w]
        rfl
      refine pure_ (i := 1) (N := some 38) (v := ?_) (a' := ?_) #[true, true, false, false, false, false, false, false, false, false, false, false, false, false, false] rfl rfl (any_of HT_.out (by kernel_rfl)) (fun _ _ _ h => h) (Or.inl ⟨by rfl, ?_⟩) ?_ ?_
      rotate_left
      · intro w'
        go_simp
        with_reducible rfl
      rotate_left
      · simp only [Act.put, List.setIfInBounds_toArray, List.set_cons_zero, List.set_cons_succ, i64_w, i32_w]
        rfl
      refine pure_ (i := 2) (N := some 39) (v := ?_) (a' := ?_) #[true, true, true, false, false, false, false, false, false, false, false, false, false, false, false] rfl rfl (any_of HT_.out (by kernel_rfl)) (fun _ _ _ h => h) (Or.inl ⟨by rfl, ?_⟩) ?_ ?_
      rotate_left
      · intro w'
        go_simp
        with_reducible rfl
      rotate_left
      · simp only [Act.put, List.setIfInBounds_toArray, List.set_cons_zero, List.set_cons_succ, i64_w, i32_w]
        rfl
      refine pure_ (i := 3) (N := some 40) (v := ?_) (a' := ?_) #[true, true, true, true, false, false, false, false, false, false, false, false, false, false, false] rfl rfl (any_of HT_.out (by kernel_rfl)) (fun _ _ _ h => h) (Or.inl ⟨by rfl, ?_⟩) ?_ ?_
      rotate_left
      · intro w'
        go_simp
        with_reducible rfl
      rotate_left
      · simp only [Act.put, List.setIfInBounds_toArray, List.set_cons_zero, List.set_cons_succ, i64_w, i32_w]
        rfl
      refine pure_ (i := 4) (N := some 41) (v := ?_) (a' := ?_) #[true, true, true, true, true, false, false, false, false, false, false, false, false, false, false] rfl rfl (any_of HT_.out (by kernel_rfl)) (fun _ _ _ h => h) (Or.inl ⟨by rfl, ?_⟩) ?_ ?_
      rotate_left
      · intro w'
        go_simp
        with_reducible rfl
      rotate_left
      · simp only [Act.put, List.setIfInBounds_toArray, List.set_cons_zero, List.set_cons_succ, i64_w, i32_w]
        rfl
      refine pure_ (i := 6) (N := some 43) (v := ?_) (a' := ?_) #[true, true, true, true, true, false, true, false, false, false, false, false, false, false, false] rfl rfl (any_of HT_.out (by kernel_rfl)) (fun _ _ _ h => h) (Or.inl ⟨by rfl, ?_⟩) ?_ ?_
      rotate_left
      · intro w'
        go_simp
        with_reducible rfl
      rotate_left
      · simp only [Act.put, List.setIfInBounds_toArray, List.set_cons_zero, List.set_cons_succ, i64_w, i32_w]
        rfl
      refine pure_ (i := 7) (N := some 44) (v := ?_) (a' := ?_) #[true, true, true, true, true, false, true, true, false, false, false, false, false, false, false] rfl rfl (any_of HT_.out (by kernel_rfl)) (fun _ _ _ h => h) (Or.inl ⟨by rfl, ?_⟩) ?_ ?_
      rotate_left
      · intro w'
        go_simp
        with_reducible rfl
      rotate_left
      · simp only [Act.put, List.setIfInBounds_toArray, List.set_cons_zero, List.set_cons_succ, i64_w, i32_w]
        rfl
      refine pure_ (i := 8) (N := some 45) (v := ?_) (a' := ?_) #[true, true, true, true, true, false, true, true, true, false, false, false, false, false, false] rfl rfl (any_of HT_.out (by kernel_rfl)) (fun _ _ _ h => h) (Or.inl ⟨by rfl, ?_⟩) ?_ ?_
      rotate_left
      · intro w'
        go_simp
        with_reducible rfl
      rotate_left
      · simp only [Act.put, List.setIfInBounds_toArray, List.set_cons_zero, List.set_cons_succ, i64_w, i32_w]
        rfl
      refine take_ (i := 9) (N := some 46) (v := ?_) (a' := ?_) #[true, true, true, true, true, false, true, true, true, true, false, false, false, false, false] rfl rfl (take_ofW HT_.out HW_.out (by kernel_rfl)) (fun _ _ _ h => h) (Or.inl ⟨by rfl, ?_⟩) hHeld ?_ ?_
      rotate_left
      · intro w' s0
        go_simp
        with_reducible rfl
      rotate_left
      · simp only [Act.put, List.setIfInBounds_toArray, List.set_cons_zero, List.set_cons_succ, i64_w, i32_w]
        rfl
      refine pure_ (i := 10) (N := some 47) (v := ?_) (a' := ?_) #[true, true, true, true, true, false, true, true, true, true, true, false, false, false, false] rfl rfl (any_of HT_.out (by kernel_rfl)) (fun _ _ _ h => h) (Or.inl ⟨by rfl, ?_⟩) ?_ ?_
      rotate_left
      · intro w'
        go_simp
        with_reducible rfl
      rotate_left
      · simp only [Act.put, List.setIfInBounds_toArray, List.set_cons_zero, List.set_cons_succ, i64_w, i32_w]
        rfl
      refine one_ (i := 5) (N := some 42) #[true, true, true, true, true, true, true, true, true, true, true, false, false, false, false] rfl rfl (one_of HT_.out (by kernel_rfl)) (by decide) (fun K hK => ?_)
      refine event_step (v := .slice (some ⟨g, i * 8, none⟩) (up2 Bs).length 8) (w1 := W1) (by rfl) (by first | (go_simp; done) | (go_simp; rfl)) ?_
      refine hK.out _ _ hHeld (fun hHeld => ?_)
      clear hK K
      refine norm_ (a' := ?_) ?_ ?_
      rotate_left
      · show Act.put _ (some 42) _ = _
        simp only [Act.put, List.setIfInBounds_toArray, List.set_cons_zero, List.set_cons_succ, i64_w, i32_w]
        rfl
      refine last_ (i := 11) (N := some 48) #[true, true, true, true, true, true, true, true, true, true, true, true, false, false, false] rfl rfl (one_of HT_.out (by kernel_rfl)) (by decide) (fun K hK => ?_)
      refine goes_ Try.func71 (by kernel_rfl) rfl #[.slice (some ⟨g, i * 8, none⟩) (up2 Bs).length 8, .slice (some adB) (up2 Bs).length cB, .int .i64 (n : Int)] (by rfl) rfl rfl (by (try simp only [List.map_toArray, List.map_cons, List.map_nil]); first | done | rfl | (simp only [List.length_drop, List.length_take]; rfl)) ?_
      with_reducible refine (encRow_calls HC.out W1 HG1.out HI16.out HB8.out ⟨HCN.out.symm, HNL.out.2⟩ HBL.out HRB1.out HCB.out).mono ?_
      rintro e w4 ⟨v4, rfl, hv4, hb4⟩
      refine ⟨_, rfl, ?_⟩
      obtain ⟨A4, c4, rfl⟩ := Kd.R_slice hv4
      have HV4 := Aside0.mk hv4
      have HB4 := Aside0.mk hb4
      clear hv4 hb4
      refine hK.out _ _ ?_
      clear hK K
      refine norm_ (a' := ?_) ?_ ?_
      rotate_left
      · show Act.put _ (some 48) _ = _
        simp only [Act.put, List.setIfInBounds_toArray, List.set_cons_zero, List.set_cons_succ, i64_w, i32_w]
        rfl
      refine last_ (i := 12) (N := some 49) #[true, true, true, true, true, true, true, true, true, true, true, true, true, false, false] rfl rfl (one_of HT_.out (by kernel_rfl)) (by decide) (fun K hK => ?_)
      refine event_step (v := .slice (some ⟨w4.heap.size, 0, none⟩) 1 1) (w1 := w4.alloc (.cells #[.slice A4 (up (encRow d Bs i)).length c4] 34 (0, 0))) (by rfl) (by first | (go_simp; done) | (go_simp; rfl)) ?_
      refine hK.out _ _ ?_
      clear hK K
      refine norm_ (a' := ?_) ?_ ?_
      rotate_left
      · show Act.put _ (some 49) _ = _
        simp only [Act.put, List.setIfInBounds_toArray, List.set_cons_zero, List.set_cons_succ, i64_w, i32_w]
        rfl
      refine last_ (i := 13) (N := some 50) #[true, true, true, true, true, true, true, true, true, true, true, true, true, true, false] rfl rfl (one_of HT_.out (by kernel_rfl)) (by decide) (fun K hK => ?_)
      refine S_append_step (Kd.slice 5 (Kd.int .u8)) (w0 := w) w.heap.size (by rfl) (.tmp 37) (.tmp 49) 22 34 (.slice none 0 0) 24 rfl Try.underlying22 info34 rfl (by decide) (by omega) u9 (up2 (encM d Bs i)) (up (encRow d Bs i)) [.slice A4 (up (encRow d Bs i)).length c4] (fun _ => True) (fun k_ => W1.heap.size ≤ k_) rfl rfl ?aP ?aK (fun _ _ => trivial) ?aO ?aB ?aS ?aL ?_
      case aP => exact ⟨_, rfl, Kd.R_mono (Kd.R_lower (Kd.R_bound HV4.out) HB1.out.size) (fun k hk => hk.2.1)⟩
      case aK => exact fun k hk => ⟨trivial, fun e => by have := Kd.S_lt HN1.out k e.symm; omega⟩
      case aO => exact Kd.S_mono (Kd.S_below (Kd.S_bound HN1.out) HB4.out) (fun k hk => ⟨trivial, by have := hk.2.2.1; omega⟩)
      case aB => exact HB1.out.trans (HB4.out.mono HB1.out.size)
      case aS => exact Nat.le_trans HB1.out.size HB4.out.size
      case aL => rw [up2_length, encM_length]; omega
      intro v10 w10 ho hb hg hat
      rw [encM_snoc] at ho
      have HN10 := Aside0.mk ho
      have HB10 := Aside0.mk hb
      have HG10 := Aside0.mk (blk_grown ((HB4.out.block g (blk_lt HG1.out)).trans HG1.out) hg (fun e => HGN.out u9 W1 HN1.out HG1.out e.symm))
      clear ho hb hg hat
      refine hK.out _ _ ?_
      clear hK K
      refine norm_ (a' := ?_) ?_ ?_
      rotate_left
      · show Act.put _ (some 50) _ = _
        simp only [Act.put, List.setIfInBounds_toArray, List.set_cons_zero, List.set_cons_succ, i64_w, i32_w]
        rfl
      refine pure_ (i := 14) (N := some 9) (v := ?_) (a' := ?_) #[true, true, true, true, true, true, true, true, true, true, true, true, true, true, true] rfl rfl (any_of HT_.out (by kernel_rfl)) (fun _ _ _ h => h) (Or.inl ⟨by rfl, ?_⟩) ?_ ?_
      rotate_left
      · intro w'
        go_simp
        with_reducible rfl
      rotate_left
      · simp only [Act.put, List.setIfInBounds_toArray, List.set_cons_zero, List.set_cons_succ, i64_w, i32_w]
        rfl
      refine done_ (done_of HT_.out (by kernel_rfl)) ?_
      go_wp2
      go_roundw
      case rel => exact ⟨i + 1, by omega, by go_num, ⟨HN10.out, HG10.out, HB10.out⟩⟩
      case measure => simp [intOf]; omega
    · obtain rfl : i = t := by omega
      have HS := Aside0.mk HA.out.1
      have HB := Aside0.mk HA.out.2.2
      clear HA
      obtain ⟨Av, cv, rfl⟩ := Kd.S_slice HS.out
      go_wp2
      go_ret2
      exact ⟨_, rfl, HS.out, HB.out⟩
end Go.Proofs.Ytpkghpljgjlmjaa.K
/- The elimination of package matrix: its state in memory; scale. -/
namespace Go.Proofs.Ytpkghpljgjlmjaa.K
open Go.RowKit Go.Proofs.YtpkghpljgjlmjaaW.PrintWords Go.Proofs.YtpkghpljgjlmjaaW.PrintLast Go.Proofs.YtpkghpljgjlmjaaW.PrintMore Kin
set_option linter.unusedSimpArgs false
set_option linter.unusedVariables false

/-- Nothing but the state's block and the rows' block was written. -/
structure FrameE (w w' : World) (gx gr : Nat) : Prop where
  os : w'.os = w.os
  tape : w'.tape = w.tape
  output : w'.output = w.output
  size : w.heap.size ≤ w'.heap.size
  block : ∀ k, k < w.heap.size → k ≠ gx → k ≠ gr → w'.heap[k]? = w.heap[k]?
section
variable {w w1 w2 : World} {gx gr : Nat}
theorem FrameE.refl (w : World) (gx gr : Nat) : FrameE w w gx gr := ⟨rfl, rfl, rfl, Nat.le_refl _, fun _ _ _ _ => rfl⟩
theorem FrameE.trans (h : FrameE w w1 gx gr) (k : FrameE w1 w2 gx gr) : FrameE w w2 gx gr :=
  ⟨k.os.trans h.os, k.tape.trans h.tape, k.output.trans h.output, Nat.le_trans h.size k.size, fun i hi h1 h2 => (k.block i (Nat.lt_of_lt_of_le hi h.size) h1 h2).trans (h.block i hi h1 h2)⟩
theorem FrameE.below (hb : Below w.heap.size w w1) (gx gr : Nat) : FrameE w w1 gx gr := ⟨hb.os, hb.tape, hb.output, hb.size, fun i hi _ _ => hb.block i hi⟩
theorem FrameE.drewN (h : FrameE w w1 gx gr) (n : Nat) : FrameE w (w1.drewN n) gx gr := ⟨h.os, h.tape, h.output, h.size, h.block⟩
theorem FrameE.drew (h : FrameE w w1 gx gr) : FrameE w w1.drew gx gr := ⟨h.os, h.tape, h.output, h.size, h.block⟩
theorem FrameE.set (h : FrameE w w1 gx gr) {p : Addr} (hp : p.block = gx ∨ p.block = gr) (v : Value) : FrameE w (w1.setCell p v) gx gr :=
  ⟨h.os, h.tape, h.output, by have := h.size; simpa [World.setCell] using this, fun i hi h1 h2 => (Below.heap_setCell w1 p v i (by rcases hp with hp | hp <;> rw [hp] <;> assumption)).trans (h.block i hi h1 h2)⟩
theorem FrameE.toBelow {base : Nat} {w0 : World} (hb : Below base w0 w) (h : FrameE w w1 gx gr) (h1 : base ≤ gx) (h2 : base ≤ gr) (h3 : base ≤ w.heap.size) : Below base w0 w1 :=
  hb.trans ⟨h.os, h.tape, h.output, h.size, fun k hk => h.block k (by omega) (by omega) (by omega)⟩
theorem FrameE.cell (h : FrameE w w1 gx gr) {a : Addr} {v : Value} (hc : w.cell? a = some v) (h1 : a.block ≠ gx) (h2 : a.block ≠ gr) : w1.cell? a = some v :=
  (World.cell?_of_block (h.block _ (World.block_lt_of_cell? w a hc) h1 h2)).trans hc
end

theorem getD_up2' (m : List (List B)) (i : Nat) : (up2 m).getD i [] = up (m.getD i []) := by
  simp only [up2, List.getD_eq_getElem?_getD, List.getElem?_map]
  cases m[i]? <;> rfl
/-- The state of an elimination: at block gx; its rows' slice is at block gr. X: blocks that the pivots' row is none of. -/
structure Elim (w : World) (base gx gr c : Nat) (X : Nat → Prop) (R : List (List B)) (piv : List Int) (d : B) : Prop where
  piv : ∃ vp, w.heap[gx]? = some (.cells #[.slice (some ⟨gr, 0, none⟩) R.length c, vp, .int .u8 (b2i d)] 80 (0, 0)) ∧ Kd.R (Kd.int .i64) 3 w base (fun k => ¬ X k ∧ k ≠ gx ∧ k ≠ gr) vp piv
  rows : Kd.S D 34 w base (fun _ => True) (.slice (some ⟨gr, 0, none⟩) R.length c) (up2 R)
  baseX : base ≤ gx
  baseR : base ≤ gr
  ne : gx ≠ gr
section
variable {w w1 : World} {base gx gr c : Nat} {X : Nat → Prop} {R : List (List B)} {piv : List Int} {d : B}
theorem Elim.lt (h : Elim w base gx gr c X R piv d) : gx < w.heap.size := by
  obtain ⟨vp, hb, _⟩ := h.piv
  exact blk_lt hb
theorem Elim.ltr (h : Elim w base gx gr c X R piv d) : gr < w.heap.size := Kd.S_lt h.rows gr rfl
/-- A call that only makes. -/
theorem Elim.below (h : Elim w base gx gr c X R piv d) (hb : Below w.heap.size w w1) : Elim w1 base gx gr c X R piv d := by
  obtain ⟨vp, hg, hp⟩ := h.piv
  exact ⟨⟨vp, (hb.block _ h.lt).trans hg, Kd.R_below hp hb⟩, Kd.S_below h.rows hb, h.baseX, h.baseR, h.ne⟩
theorem Elim.drewN (h : Elim w base gx gr c X R piv d) (n : Nat) : Elim (w.drewN n) base gx gr c X R piv d := h.below (pw_below_drewN (Below.refl _ _) n)
theorem Elim.drew (h : Elim w base gx gr c X R piv d) : Elim w.drew base gx gr c X R piv d := h.below (below_drew (Below.refl _ _))
/-- 'x.det = e'. -/
theorem Elim.setDet (h : Elim w base gx gr c X R piv d) (e : B) : Elim (w.setCell ⟨gx, 2, none⟩ (.int .u8 (b2i e))) base gx gr c X R piv e := by
  obtain ⟨vp, hg, hp⟩ := h.piv
  refine ⟨⟨vp, ?_, Kd.R_far (p := ⟨gx, 2, none⟩) hp (fun k hk => hk.2.1) _⟩, ?_, h.baseX, h.baseR, h.ne⟩
  · rw [blk_set hg]
    rfl
  · have := Kd.S_types h.rows hg (by decide)
    exact Kd.S_mono (Kd.S_far (p := ⟨gx, 2, none⟩) this (fun k hk => hk.2) _) (fun _ hk => hk.1)
/-- 'x.rows[i] = y', y made since w. -/
theorem Elim.putRow (h : Elim w base gx gr c X R piv d) {v : Value} {y : List B} (hb : Below w.heap.size w w1) (hv : Kd.R (Kd.int .u8) 5 w1 w.heap.size (fun _ => True) v (up y)) (i : Nat) (hi : i < R.length) :
    Elim (w1.setCell ⟨gr, i, none⟩ v) base gx gr c X (R.set i y) piv d := by
  have h1 := h.below hb
  obtain ⟨vp, hg, hp⟩ := h1.piv
  have hS := S_put_fresh h.rows hb hv (Nat.le_trans h.baseX (Nat.le_of_lt h.lt)) h.ltr (i : Int) (by omega) (by omega)
  rw [Int.toNat_natCast, set_up2] at hS
  refine ⟨⟨vp, ?_, Kd.R_far (p := ⟨gr, i, none⟩) hp (fun k hk => hk.2.2) _⟩, ?_, h.baseX, h.baseR, h.ne⟩
  · rw [List.length_set]
    exact (Below.heap_setCell w1 _ v gx h.ne).trans hg
  · rw [List.length_set]
    exact hS
theorem Elim.cells (h : Elim w base gx gr c X R piv d) : w.cell? ⟨gx, 0, none⟩ = some (.slice (some ⟨gr, 0, none⟩) R.length c) ∧ w.cell? ⟨gx, 2, none⟩ = some (.int .u8 (b2i d)) ∧ ∀ j, w.frozen? ⟨gx, j, none⟩ = false := by
  obtain ⟨vp, hg, hp⟩ := h.piv
  exact ⟨by rw [blk_cell hg]; rfl, by rw [blk_cell hg]; rfl, fun j => blk_frozen hg j⟩
theorem Elim.read (h : Elim w base gx gr c X R piv d) (i : Nat) (hi : i < R.length) :
    ∃ A co, w.cell? ⟨gr, i, none⟩ = some (.slice A (up (R.getD i [])).length co) ∧ (up (R.getD i [])).length ≤ co ∧ (Kd.int .u8).C w A (up (R.getD i [])).length (up (R.getD i [])) ∧ w.frozen? ⟨gr, i, none⟩ = false := by
  obtain ⟨_, ce, hcl3, hM3, hcc3, hfr3, _, _⟩ := Kd.S_elem h.rows [] (i : Int) (by omega) (by omega)
  obtain ⟨ve, rfl, ge⟩ := hM3
  have hxo := hcc3 0 _ rfl
  have hfo := hfr3 0
  rw [show (i : Int).toNat * (D).sz + 0 = i from by rw [Int.toNat_natCast]; show i * 1 + 0 = i; omega] at hxo hfo
  rw [Int.toNat_natCast, getD_up2'] at ge
  obtain ⟨Ao, co, rfl⟩ := Kd.R_slice ge
  obtain ⟨_, hoc, hoR⟩ := Kd.R_reads' ge
  exact ⟨Ao, co, hxo, hoc, hoR, hfo⟩
end
/-- The row after 'scale'. -/
def scaleRow (R : List (List B)) (row col : Nat) : List (List B) := R.set row ((R.getD row []).map fun x => gmul x (ginv ((R.getD row []).getD col 0)))
set_option maxRecDepth 100000 in
set_option maxHeartbeats 2000000 in
theorem escale_calls {w : World} {base gx gr c : Nat} {X : Nat → Prop} {R : List (List B)} {piv : List Int} {d : B} (h : Elim w base gx gr c X R piv d) (row col : Nat) (hrow : row < R.length) (hcol : col < (R.getD row []).length) (hlim : (R.getD row []).length ≤ 140737488351232) (hn : R.length ≤ 9223372036854775807) :
    Calls Try.prog 103 #[.pointer (some ⟨gx, 0, none⟩), .int .i64 (row : Int), .int .i64 (col : Int)] w fun e w' => e = .returned (.tuple #[]) ∧ Elim w' base gx gr c X (scaleRow R row col) piv (gmul d ((R.getD row []).getD col 0)) ∧ FrameE w w' gx gr := by
  obtain ⟨hx0, hx2, hfx⟩ := h.cells
  have hfx2 := hfx 2
  obtain ⟨A, co, hxr, hlr, hCr, hfr⟩ := h.read row hrow
  have HE := Aside0.mk h
  clear hfx h
  obtain ⟨ad, e, hxb⟩ := Kd.at_int hCr (col : Int) (by omega) (by rw [up_length]; omega)
  subst e
  rw [Int.toNat_natCast, getD_up] at hxb
  have HCR := Aside0.mk hCr
  have HLR := Aside0.mk hlr
  have HLIM := Aside0.mk hlim
  have HSR := Aside0.mk (show scaleRow R row col = R.set row ((R.getD row []).map fun x => gmul x (ginv ((R.getD row []).getD col 0))) from rfl)
  have r0 : (0 : Int) ≤ (row : Int) := by omega
  have r1 : (row : Int) < (R.length : Int) := by omega
  have c0' : (0 : Int) ≤ (col : Int) := by omega
  have c1' : (col : Int) < ((up (R.getD row [])).length : Int) := by rw [up_length]; omega
  have hgx := HE.out.ne
  have hgx' : gr ≠ gx := Ne.symm hgx
  clear hcol hlim hCr hlr
  generalize hrr : R.getD row [] = rr at hxr hxb HCR HLR HLIM HSR c1' ⊢
  generalize hpp : rr.getD col 0 = pp at hxb HSR ⊢
  have HRR := Aside0.mk hrr
  clear hrr hpp
  have HM := Aside0.mk (mul_b d pp (k := 9) (by omega))
  have HI := Aside0.mk (inv_b pp (k := 18) (by omega))
  generalize (if pp = 0 then (1 : Int) else 0) = ec at HI
  go_enter Try.func103, Try.ntmps103
  go_wp2_with (first | (go_at_call 68; (with_reducible refine (gf256_Mul.calls 9 _ _ _ _ HM.out).mono ?_); rintro e w' ⟨rfl, ⟨n1, rfl⟩⟩) | (go_at_call 78; (with_reducible refine (gf256_Inv.calls 18 _ _ _ _ HI.out).mono ?_); rintro e w' ⟨rfl, ⟨n2, rfl⟩⟩))
  have hEW := ((HE.out.drewN n1).setDet (gmul d pp)).drewN n2
  have hFW : FrameE w (((w.drewN n1).setCell ⟨gx, 2, none⟩ (.int .u8 (b2i (gmul d pp)))).drewN n2) gx gr := (((FrameE.refl w gx gr).drewN n1).set (p := ⟨gx, 2, none⟩) (.inl rfl) _).drewN n2
  generalize (((w.drewN n1).setCell ⟨gx, 2, none⟩ (.int .u8 (b2i (gmul d pp)))).drewN n2) = W at hEW hFW ⊢
  clear hx0 hx2 hfx2 hfr hxr hxb HCR HLR
  have HEW := Aside0.mk hEW
  have HFW := Aside0.mk hFW
  obtain ⟨hx0, _, _⟩ := hEW.cells
  obtain ⟨A2, co2, hxr, hlr, hCr, hfr⟩ := hEW.read row hrow
  rw [HRR.out] at hxr hlr hCr
  have HCR := Aside0.mk hCr
  have HLR := Aside0.mk hlr
  have HS := Aside0.mk (scale_up rr (ginv pp) HLIM.out)
  have hgl := hEW.ltr
  clear hCr hlr hEW hFW
  go_region_with
    (first | (go_at_call 88; refine (gf256_Scale.calls _ _ (up rr) _ _ _ (by exact Kd.C_drew HCR.out) HLR.out HS.out).mono ?_; rintro e w4 ⟨v4, rfl, hv4, hb4⟩; have hx4 : w4.cell? ⟨gr, row, none⟩ = some (.slice A2 (up rr).length co2) := (hb4.cell hgl).trans hxr; have hf4 : w4.frozen? ⟨gr, row, none⟩ = false := (hb4.frozen hgl).trans hfr; have hx5 : w4.cell? ⟨gx, 0, none⟩ = some (.slice (some ⟨gr, 0, none⟩) R.length c) := (hb4.cell HEW.out.lt).trans hx0; have HV4 := Aside0.mk hv4; have HB4 := Aside0.mk hb4; obtain ⟨A4, c4, rfl⟩ := Kd.R_slice HV4.out; clear hv4 hb4))
  all_goals
    have hP := HEW.out.drew.putRow HB4.out HV4.out row hrow
    have HP := Aside0.mk hP
    have HFN := Aside0.mk (((HFW.out.drew).trans (FrameE.below HB4.out gx gr)).set (p := ⟨gr, row, none⟩) (.inr rfl) (.slice A4 (up (rr.map fun x => gmul x (ginv pp))).length c4))
    clear hP
    go_wp2
    go_end0
    exact ⟨rfl, by rw [HSR.out]; exact HP.out, HFN.out⟩
end Go.Proofs.Ytpkghpljgjlmjaa.K
