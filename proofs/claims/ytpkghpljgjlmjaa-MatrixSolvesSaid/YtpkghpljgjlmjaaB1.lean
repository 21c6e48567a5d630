/- Walks and plain facts behind the laws of package matrix. No conditions. -/
import Derived.Test.YtpkghpljgjlmjaaProg
import Derived.Below
import Derived.Deep.Draws
import Derived.Deep.AppendLies
import Derived.Maps.AppendAt
import Derived.OwnWalk
import Derived.Laws.BytesArg
import Derived.Laws.MakeOwn
import Derived.Laws.OwnMore
import Derived.Deep.OwnRows
import Derived.Tactics
import Derived.Lib.ConvBytes
import Derived.Laws.Slices
import Derived.WalkKit
import Derived.KernelRfl
import Derived.RowKit3
import Derived.Deep.LoopGhost
import Derived.Deep.QuietTactic
import Derived.BigQuiet
import Derived.WideLaws
import Derived.Deep.DeepCutAuto
import Derived.Deep.CutBlock
import Derived.Deep.RegionHeld3
import Derived.Laws.Rows
import Derived.Lib.AppendStr
import Derived.ArgAppend
import Derived.Laws.IdiomCopy
import Derived.OrdersHeld
import Derived.Laws.BitsLemmas
import Derived.RowKit
import Derived.Test.YtpkghpljgjlmjaaU1
import Derived.WalkSpells
import Derived.Laws.BitsAllLaws
import Derived.Deep.RegionWith
import Derived.Outline
-- Lines of this claim, written by the session's own program kprint.py (it runs print.py).
namespace Go.Proofs.Ytpkghpljgjlmjaa.K
open Go.RowKit Go.Proofs.YtpkghpljgjlmjaaW.PrintWords Go.Proofs.YtpkghpljgjlmjaaW.PrintLast Go.Proofs.YtpkghpljgjlmjaaW.PrintMore
attribute [local go_sem] max2_int min2_int max_two min_two max_three min_three max_four min_four   -- for this text's walks alone
set_option linter.unusedVariables false
set_option linter.unusedSimpArgs false



def errW : Option Int → Value
  | none => .nilIface
  | some c => .iface 0 (.int .i64 c)
theorem errW_none : errW none = .nilIface := rfl
theorem errW_some (c : Int) : errW (some c) = .iface 0 (.int .i64 c) := rfl
theorem info5 : (Try.prog.info? 5).map (fun i => (i.zero, i.size, i.bytes)) = some (some (.int .u8 0), 1, 1) := by kernel_rfl
theorem info34 : (Try.prog.info? 34).map (fun i => (i.zero, i.size, i.bytes)) = some (some (.slice none 0 0), 1, 24) := by kernel_rfl
-- the values' own types
def rd_L1 (xs : List (List Int)) (i : Int) : (List Int) := xs.getD i.toNat ([] : List Int)
theorem at_L1 {w : World} {A : Option Addr} {n : Nat} {xs : List (List Int)} (h : Kd.C (Kd.slice 5 (Kd.int .u8)) w A n xs) (i : Int) (h0 : 0 ≤ i) (h1 : i < n) : ∃ ad A0 c0, A = some ad ∧ w.cell? (ad.add i.toNat) = some (.slice A0 (rd_L1 xs i).length c0) ∧ (rd_L1 xs i).length ≤ c0 ∧ (Kd.int .u8).C w A0 (rd_L1 xs i).length (rd_L1 xs i) := by
  obtain ⟨ad, c, e, _, hK, hc0⟩ := Kd.C_get h ([] : List Int) i h0 h1
  have hc : ∀ j u, c[j]? = some u → w.cell? (ad.add (i.toNat * 1 + j)) = some u := hc0
  obtain ⟨A0, c0, rfl, l0, g0⟩ := hK
  exact ⟨ad, A0, c0, e, by have hq := hc 0 _ rfl; rwa [Nat.mul_one, Nat.add_zero] at hq, l0, g0⟩
end Go.Proofs.Ytpkghpljgjlmjaa.K
-- Lines of this claim, written by the session's own program kprint.py (it runs print.py).
namespace Go.Proofs.Ytpkghpljgjlmjaa.K
open Go.RowKit Go.Proofs.YtpkghpljgjlmjaaW.PrintWords Go.Proofs.YtpkghpljgjlmjaaW.PrintLast Go.Proofs.YtpkghpljgjlmjaaW.PrintMore
attribute [local go_sem] max2_int min2_int max_two min_two max_three min_three max_four min_four   -- for this text's walks alone
set_option linter.unusedVariables false
set_option linter.unusedSimpArgs false

/-! ### kinkeepref04_Same: function 23 -/
def kinkeepref04_Same.l0 : Nat → List (List Int) → List (List Int) → Int → Option (Bool)
  | 0, _, _, _ => none
  | k + 1, x0, x1, x5 => if x5 < (x0.length : Int) then (if 0 ≤ x5 then (if x5 < (x1.length : Int) then (if (strOfNums (rd_L1 x0 x5)).toList = (strOfNums (rd_L1 x1 x5)).toList then (kinkeepref04_Same.l0 k x0 x1 (wrap64 (x5 + 1))) else (some false)) else (none)) else (none)) else (some true)
def kinkeepref04_Same.f (k : Nat) (l0 : List (List Int)) (l1 : List (List Int)) : Option (Bool) := if (l0.length : Int) = (l1.length : Int) then (kinkeepref04_Same.l0 k l0 l1 0) else (some false)
set_option maxHeartbeats 8000000 in
set_option maxRecDepth 100000 in
theorem kinkeepref04_Same.calls (k : Nat) (A0 : Option Addr) (c0 : Nat) (l0 : List (List Int)) (A1 : Option Addr) (c1 : Nat) (l1 : List (List Int)) (r : Bool) (w : World) (hr0 : Kd.C (Kd.slice 5 (Kd.int .u8)) w A0 l0.length l0) (hc0 : l0.length ≤ c0) (hr1 : Kd.C (Kd.slice 5 (Kd.int .u8)) w A1 l1.length l1) (hc1 : l1.length ≤ c1) (h : kinkeepref04_Same.f k l0 l1 = some r) :
    Calls Try.prog 23 #[.slice A0 l0.length c0, .slice A1 l1.length c1] w fun e w' => e = .returned (.bool r) ∧ Drawn0 w w' := by
  have HR0 := Aside0.mk hr0
  have HC0 := Aside0.mk hc0
  clear hr0 hc0
  have HR1 := Aside0.mk hr1
  have HC1 := Aside0.mk hc1
  clear hr1 hc1
  have H : (if (l0.length : Int) = (l1.length : Int) then (kinkeepref04_Same.l0 k l0 l1 0) else (some false)) = some r := h
  clear h
  by_cases c3 : (l0.length : Int) = (l1.length : Int)
  · rw [if_pos c3] at H
    have c3b0 : ((l0.length : Int) == (l1.length : Int)) = true := beq_iff_eq.mpr c3
    have c3b1 : ((l0.length : Int) != (l1.length : Int)) = false := bne_eq_false_iff_eq.mpr c3
    have c3b2 : (l0.length == l1.length) = true := by first | simpa using c3 | (simp at c3 ⊢; omega)
    clear c3
    have H' := Aside0.mk H
    clear H
    go_enter Try.func23, Try.ntmps23
    go_wp2
    repeat (go_quiet (fail); try go_wp2)
    go_loopg [5] k (fun kq v5 w' => ∃ (x5_1 : Int), v5 = .int .i64 x5_1 ∧ Aside0 (kinkeepref04_Same.l0 kq l0 l1 x5_1 = some r) ∧ Aside0 (kq ≤ k) ∧ Drawn0 w w')
    case atStart => exact ⟨(0), (by first | rfl | (simp; done) | (simp [*]; done)), H', ⟨Nat.le_refl _⟩, by repeat (first | exact Drawn0.refl _ | apply Drawn0.step)⟩
    case round =>
      clear H'
      try clear c1
      try clear c2
      try clear p2
      try clear c3
      try clear c3b0
      try clear c3b1
      try clear c3b2
      obtain ⟨x5_1, rfl, HA, HK1, ⟨m1, rfl⟩⟩ := hrel
      cases gk with
      | zero => exact absurd HA.out (by simp [kinkeepref04_Same.l0])
      | succ k1 =>
        have H := HA.out
        clear HA
        simp only [kinkeepref04_Same.l0] at H
        by_cases c4 : x5_1 < (l0.length : Int)
        · rw [if_pos c4] at H
          have c4b0 : decide (x5_1 < (l0.length : Int)) = true := decide_eq_true c4
          clear c4
          by_cases c5 : 0 ≤ x5_1
          · rw [if_pos c5] at H
            have c5b0 : decide (0 ≤ x5_1) = true := decide_eq_true c5
            clear c5
            by_cases c6 : x5_1 < (l1.length : Int)
            · rw [if_pos c6] at H
              have c6b0 : decide (x5_1 < (l1.length : Int)) = true := decide_eq_true c6
              clear c6
              by_cases c7 : (strOfNums (rd_L1 l0 x5_1)).toList = (strOfNums (rd_L1 l1 x5_1)).toList
              · rw [if_pos c7] at H
                have c7b0 : ((strOfNums (rd_L1 l0 x5_1)).toList == (strOfNums (rd_L1 l1 x5_1)).toList) = true := beq_iff_eq.mpr c7
                have c7b1 : ((strOfNums (rd_L1 l0 x5_1)).toList != (strOfNums (rd_L1 l1 x5_1)).toList) = false := bne_eq_false_iff_eq.mpr c7
                clear c7
                have H' := Aside0.mk H
                clear H
                have p208 : 0 ≤ (x5_1 : Int) := of_decide_eq_true (by first | (with_reducible assumption) | assumption)
                have q208 : x5_1 < (l0.length : Int) := of_decide_eq_true (by first | (with_reducible assumption) | assumption)
                obtain ⟨ad208, A208_0, c208_0, e208, hx208_0, hl208_0, hi208_0⟩ := at_L1 HR0.out x5_1 p208 q208
                cases e208
                have HR208_0 := Aside0.mk hi208_0
                have HC208_0 := Aside0.mk hl208_0
                clear hi208_0 hl208_0
                replace p208 := eq_true p208
                replace q208 := eq_true q208
                have hcv8 := Kd.C_string (P := Try.prog) (A := A208_0) (c := c208_0) Try.underlying34 Try.underlying5 Try.underlying9 HR208_0.out
                have hcv8d := fun n_ => Kd.C_string (P := Try.prog) (A := A208_0) (c := c208_0) Try.underlying34 Try.underlying5 Try.underlying9 (Kd.C_drewN HR208_0.out n_)
                have hcv8e := fun n_ m_ => Kd.C_string (P := Try.prog) (A := A208_0) (c := c208_0) Try.underlying34 Try.underlying5 Try.underlying9 (Kd.C_drewN (Kd.C_drewN HR208_0.out n_) m_)
                have p209 : 0 ≤ (x5_1 : Int) := of_decide_eq_true (by first | (with_reducible assumption) | assumption)
                have q209 : x5_1 < (l1.length : Int) := of_decide_eq_true (by first | (with_reducible assumption) | assumption)
                obtain ⟨ad209, A209_0, c209_0, e209, hx209_0, hl209_0, hi209_0⟩ := at_L1 HR1.out x5_1 p209 q209
                cases e209
                have HR209_0 := Aside0.mk hi209_0
                have HC209_0 := Aside0.mk hl209_0
                clear hi209_0 hl209_0
                replace p209 := eq_true p209
                replace q209 := eq_true q209
                have hcv9 := Kd.C_string (P := Try.prog) (A := A209_0) (c := c209_0) Try.underlying34 Try.underlying5 Try.underlying9 HR209_0.out
                have hcv9d := fun n_ => Kd.C_string (P := Try.prog) (A := A209_0) (c := c209_0) Try.underlying34 Try.underlying5 Try.underlying9 (Kd.C_drewN HR209_0.out n_)
                have hcv9e := fun n_ m_ => Kd.C_string (P := Try.prog) (A := A209_0) (c := c209_0) Try.underlying34 Try.underlying5 Try.underlying9 (Kd.C_drewN (Kd.C_drewN HR209_0.out n_) m_)
                go_wp2
                repeat (go_quiet (fail); try go_wp2)
                go_roundg k1
                case measure => have := HK1.out; omega
                case rel => exact ⟨(wrap64 (x5_1 + 1)), (by first | rfl | (simp; done) | (simp [*]; done)), H', ⟨by have := HK1.out; omega⟩, by repeat (first | exact Drawn0.refl _ | apply Drawn0.step)⟩
              · rw [if_neg c7] at H
                have c7b0 : ((strOfNums (rd_L1 l0 x5_1)).toList == (strOfNums (rd_L1 l1 x5_1)).toList) = false := beq_eq_false_iff_ne.mpr c7
                have c7b1 : ((strOfNums (rd_L1 l0 x5_1)).toList != (strOfNums (rd_L1 l1 x5_1)).toList) = true := bne_iff_ne.mpr c7
                obtain rfl := Option.some.inj H
                have p208 : 0 ≤ (x5_1 : Int) := of_decide_eq_true (by first | (with_reducible assumption) | assumption)
                have q208 : x5_1 < (l0.length : Int) := of_decide_eq_true (by first | (with_reducible assumption) | assumption)
                obtain ⟨ad208, A208_0, c208_0, e208, hx208_0, hl208_0, hi208_0⟩ := at_L1 HR0.out x5_1 p208 q208
                cases e208
                have HR208_0 := Aside0.mk hi208_0
                have HC208_0 := Aside0.mk hl208_0
                clear hi208_0 hl208_0
                replace p208 := eq_true p208
                replace q208 := eq_true q208
                have hcv10 := Kd.C_string (P := Try.prog) (A := A208_0) (c := c208_0) Try.underlying34 Try.underlying5 Try.underlying9 HR208_0.out
                have hcv10d := fun n_ => Kd.C_string (P := Try.prog) (A := A208_0) (c := c208_0) Try.underlying34 Try.underlying5 Try.underlying9 (Kd.C_drewN HR208_0.out n_)
                have hcv10e := fun n_ m_ => Kd.C_string (P := Try.prog) (A := A208_0) (c := c208_0) Try.underlying34 Try.underlying5 Try.underlying9 (Kd.C_drewN (Kd.C_drewN HR208_0.out n_) m_)
                have p209 : 0 ≤ (x5_1 : Int) := of_decide_eq_true (by first | (with_reducible assumption) | assumption)
                have q209 : x5_1 < (l1.length : Int) := of_decide_eq_true (by first | (with_reducible assumption) | assumption)
                obtain ⟨ad209, A209_0, c209_0, e209, hx209_0, hl209_0, hi209_0⟩ := at_L1 HR1.out x5_1 p209 q209
                cases e209
                have HR209_0 := Aside0.mk hi209_0
                have HC209_0 := Aside0.mk hl209_0
                clear hi209_0 hl209_0
                replace p209 := eq_true p209
                replace q209 := eq_true q209
                have hcv11 := Kd.C_string (P := Try.prog) (A := A209_0) (c := c209_0) Try.underlying34 Try.underlying5 Try.underlying9 HR209_0.out
                have hcv11d := fun n_ => Kd.C_string (P := Try.prog) (A := A209_0) (c := c209_0) Try.underlying34 Try.underlying5 Try.underlying9 (Kd.C_drewN HR209_0.out n_)
                have hcv11e := fun n_ m_ => Kd.C_string (P := Try.prog) (A := A209_0) (c := c209_0) Try.underlying34 Try.underlying5 Try.underlying9 (Kd.C_drewN (Kd.C_drewN HR209_0.out n_) m_)
                go_wp2
                repeat (go_quiet (fail); try go_wp2)
                go_ret
                exact ⟨by first | rfl | (simp; done) | (simp [*]; done), by repeat (first | exact Drawn0.refl _ | apply Drawn0.step)⟩
            · rw [if_neg c6] at H
              exact absurd H (by simp)
          · rw [if_neg c5] at H
            exact absurd H (by simp)
        · rw [if_neg c4] at H
          have c4b0 : decide (x5_1 < (l0.length : Int)) = false := decide_eq_false c4
          clear c4
          obtain rfl := Option.some.inj H
          go_wp2
          repeat (go_quiet (fail); try go_wp2)
          go_ret
          exact ⟨by first | rfl | (simp; done) | (simp [*]; done), by repeat (first | exact Drawn0.refl _ | apply Drawn0.step)⟩
  · rw [if_neg c3] at H
    have c3b0 : ((l0.length : Int) == (l1.length : Int)) = false := beq_eq_false_iff_ne.mpr c3
    have c3b1 : ((l0.length : Int) != (l1.length : Int)) = true := bne_iff_ne.mpr c3
    have c3b2 : (l0.length == l1.length) = false := by first | simpa using c3 | (simp at c3 ⊢; omega)
    obtain rfl := Option.some.inj H
    go_enter Try.func23, Try.ntmps23
    go_wp2
    repeat (go_quiet (fail); try go_wp2)
    go_ret
    exact ⟨by first | rfl | (simp; done) | (simp [*]; done), by repeat (first | exact Drawn0.refl _ | apply Drawn0.step)⟩
/-! ### kinkeepref04_Ints: function 29 -/
def kinkeepref04_Ints.l0 : Nat → List Int → List Int → Int → Option (Bool)
  | 0, _, _, _ => none
  | k + 1, x0, x1, x5 => if x5 < (x0.length : Int) then (if 0 ≤ x5 then (if x5 < (x1.length : Int) then (if (rd x0 x5) = (rd x1 x5) then (kinkeepref04_Ints.l0 k x0 x1 (wrap64 (x5 + 1))) else (some false)) else (none)) else (none)) else (some true)
def kinkeepref04_Ints.f (k : Nat) (l0 : List Int) (l1 : List Int) : Option (Bool) := if (l0.length : Int) = (l1.length : Int) then (kinkeepref04_Ints.l0 k l0 l1 0) else (some false)
set_option maxHeartbeats 8000000 in
set_option maxRecDepth 100000 in
theorem kinkeepref04_Ints.calls (k : Nat) (A0 : Option Addr) (c0 : Nat) (l0 : List Int) (A1 : Option Addr) (c1 : Nat) (l1 : List Int) (r : Bool) (w : World) (hr0 : Kd.C (Kd.int .i64) w A0 l0.length l0) (hc0 : l0.length ≤ c0) (hr1 : Kd.C (Kd.int .i64) w A1 l1.length l1) (hc1 : l1.length ≤ c1) (h : kinkeepref04_Ints.f k l0 l1 = some r) :
    Calls Try.prog 29 #[.slice A0 l0.length c0, .slice A1 l1.length c1] w fun e w' => e = .returned (.bool r) ∧ Drawn0 w w' := by
  have HR0 := Aside0.mk hr0
  have HC0 := Aside0.mk hc0
  clear hr0 hc0
  have HR1 := Aside0.mk hr1
  have HC1 := Aside0.mk hc1
  clear hr1 hc1
  have H : (if (l0.length : Int) = (l1.length : Int) then (kinkeepref04_Ints.l0 k l0 l1 0) else (some false)) = some r := h
  clear h
  by_cases c3 : (l0.length : Int) = (l1.length : Int)
  · rw [if_pos c3] at H
    have c3b0 : ((l0.length : Int) == (l1.length : Int)) = true := beq_iff_eq.mpr c3
    have c3b1 : ((l0.length : Int) != (l1.length : Int)) = false := bne_eq_false_iff_eq.mpr c3
    have c3b2 : (l0.length == l1.length) = true := by first | simpa using c3 | (simp at c3 ⊢; omega)
    clear c3
    have H' := Aside0.mk H
    clear H
    go_enter Try.func29, Try.ntmps29
    go_wp2
    repeat (go_quiet (fail); try go_wp2)
    go_loopg [5] k (fun kq v5 w' => ∃ (x5_1 : Int), v5 = .int .i64 x5_1 ∧ Aside0 (kinkeepref04_Ints.l0 kq l0 l1 x5_1 = some r) ∧ Aside0 (kq ≤ k) ∧ Drawn0 w w')
    case atStart => exact ⟨(0), (by first | rfl | (simp; done) | (simp [*]; done)), H', ⟨Nat.le_refl _⟩, by repeat (first | exact Drawn0.refl _ | apply Drawn0.step)⟩
    case round =>
      clear H'
      try clear c1
      try clear c2
      try clear p2
      try clear c3
      try clear c3b0
      try clear c3b1
      try clear c3b2
      obtain ⟨x5_1, rfl, HA, HK1, ⟨m1, rfl⟩⟩ := hrel
      cases gk with
      | zero => exact absurd HA.out (by simp [kinkeepref04_Ints.l0])
      | succ k1 =>
        have H := HA.out
        clear HA
        simp only [kinkeepref04_Ints.l0] at H
        by_cases c4 : x5_1 < (l0.length : Int)
        · rw [if_pos c4] at H
          have c4b0 : decide (x5_1 < (l0.length : Int)) = true := decide_eq_true c4
          clear c4
          by_cases c5 : 0 ≤ x5_1
          · rw [if_pos c5] at H
            have c5b0 : decide (0 ≤ x5_1) = true := decide_eq_true c5
            clear c5
            by_cases c6 : x5_1 < (l1.length : Int)
            · rw [if_pos c6] at H
              have c6b0 : decide (x5_1 < (l1.length : Int)) = true := decide_eq_true c6
              clear c6
              by_cases c7 : (rd l0 x5_1) = (rd l1 x5_1)
              · rw [if_pos c7] at H
                have c7b0 : ((rd l0 x5_1) == (rd l1 x5_1)) = true := beq_iff_eq.mpr c7
                have c7b1 : ((rd l0 x5_1) != (rd l1 x5_1)) = false := bne_eq_false_iff_eq.mpr c7
                clear c7
                have H' := Aside0.mk H
                clear H
                have p210 : 0 ≤ (x5_1 : Int) := of_decide_eq_true (by first | (with_reducible assumption) | assumption)
                have q210 : x5_1 < (l0.length : Int) := of_decide_eq_true (by first | (with_reducible assumption) | assumption)
                obtain ⟨ad210, e210, hx210_0⟩ := Kd.at_int HR0.out x5_1 p210 q210
                cases e210
                replace p210 := eq_true p210
                replace q210 := eq_true q210
                have p211 : 0 ≤ (x5_1 : Int) := of_decide_eq_true (by first | (with_reducible assumption) | assumption)
                have q211 : x5_1 < (l1.length : Int) := of_decide_eq_true (by first | (with_reducible assumption) | assumption)
                obtain ⟨ad211, e211, hx211_0⟩ := Kd.at_int HR1.out x5_1 p211 q211
                cases e211
                replace p211 := eq_true p211
                replace q211 := eq_true q211
                go_wp2
                repeat (go_quiet (fail); try go_wp2)
                go_roundg k1
                case measure => have := HK1.out; omega
                case rel => exact ⟨(wrap64 (x5_1 + 1)), (by first | rfl | (simp; done) | (simp [*]; done)), H', ⟨by have := HK1.out; omega⟩, by repeat (first | exact Drawn0.refl _ | apply Drawn0.step)⟩
              · rw [if_neg c7] at H
                have c7b0 : ((rd l0 x5_1) == (rd l1 x5_1)) = false := beq_eq_false_iff_ne.mpr c7
                have c7b1 : ((rd l0 x5_1) != (rd l1 x5_1)) = true := bne_iff_ne.mpr c7
                obtain rfl := Option.some.inj H
                have p210 : 0 ≤ (x5_1 : Int) := of_decide_eq_true (by first | (with_reducible assumption) | assumption)
                have q210 : x5_1 < (l0.length : Int) := of_decide_eq_true (by first | (with_reducible assumption) | assumption)
                obtain ⟨ad210, e210, hx210_0⟩ := Kd.at_int HR0.out x5_1 p210 q210
                cases e210
                replace p210 := eq_true p210
                replace q210 := eq_true q210
                have p211 : 0 ≤ (x5_1 : Int) := of_decide_eq_true (by first | (with_reducible assumption) | assumption)
                have q211 : x5_1 < (l1.length : Int) := of_decide_eq_true (by first | (with_reducible assumption) | assumption)
                obtain ⟨ad211, e211, hx211_0⟩ := Kd.at_int HR1.out x5_1 p211 q211
                cases e211
                replace p211 := eq_true p211
                replace q211 := eq_true q211
                go_wp2
                repeat (go_quiet (fail); try go_wp2)
                go_ret
                exact ⟨by first | rfl | (simp; done) | (simp [*]; done), by repeat (first | exact Drawn0.refl _ | apply Drawn0.step)⟩
            · rw [if_neg c6] at H
              exact absurd H (by simp)
          · rw [if_neg c5] at H
            exact absurd H (by simp)
        · rw [if_neg c4] at H
          have c4b0 : decide (x5_1 < (l0.length : Int)) = false := decide_eq_false c4
          clear c4
          obtain rfl := Option.some.inj H
          go_wp2
          repeat (go_quiet (fail); try go_wp2)
          go_ret
          exact ⟨by first | rfl | (simp; done) | (simp [*]; done), by repeat (first | exact Drawn0.refl _ | apply Drawn0.step)⟩
  · rw [if_neg c3] at H
    have c3b0 : ((l0.length : Int) == (l1.length : Int)) = false := beq_eq_false_iff_ne.mpr c3
    have c3b1 : ((l0.length : Int) != (l1.length : Int)) = true := bne_iff_ne.mpr c3
    have c3b2 : (l0.length == l1.length) = false := by first | simpa using c3 | (simp at c3 ⊢; omega)
    obtain rfl := Option.some.inj H
    go_enter Try.func29, Try.ntmps29
    go_wp2
    repeat (go_quiet (fail); try go_wp2)
    go_ret
    exact ⟨by first | rfl | (simp; done) | (simp [*]; done), by repeat (first | exact Drawn0.refl _ | apply Drawn0.step)⟩
/-! ### kinkeeplaw04_few: function 15 -/
def kinkeeplaw04_few.l0 : Nat → List (List Int) → Int → Int → Option (Bool)
  | 0, _, _, _ => none
  | k + 1, x0, x1, x5 => if x5 < (x0.length : Int) then (if 0 ≤ x5 then (if ((rd_L1 x0 x5).length : Int) > x1 then (some false) else (kinkeeplaw04_few.l0 k x0 x1 (wrap64 (x5 + 1)))) else (none)) else (some (decide ((x0.length : Int) ≤ x1)))
def kinkeeplaw04_few.f (k : Nat) (l0 : List (List Int)) (a1 : Int) : Option (Bool) := kinkeeplaw04_few.l0 k l0 a1 0
end Go.Proofs.Ytpkghpljgjlmjaa.K
-- Lines of this claim, written by the session's own program kprint.py (it runs print.py).
namespace Go.Proofs.Ytpkghpljgjlmjaa.K
open Go.RowKit Go.Proofs.YtpkghpljgjlmjaaW.PrintWords Go.Proofs.YtpkghpljgjlmjaaW.PrintLast Go.Proofs.YtpkghpljgjlmjaaW.PrintMore
attribute [local go_sem] max2_int min2_int max_two min_two max_three min_three max_four min_four   -- for this text's walks alone
set_option linter.unusedVariables false
set_option linter.unusedSimpArgs false

/-! ### gf256_Add: function 89 -/
def gf256_Add.f (a0 : Int) (a1 : Int) : Option (Int) := some (Go.bits .xor .u8 a0 a1)
set_option maxHeartbeats 8000000 in
set_option maxRecDepth 100000 in
theorem gf256_Add.calls (a0 : Int) (a1 : Int) (r : Int) (w : World) (h : gf256_Add.f a0 a1 = some r) :
    Calls Try.prog 89 #[.int .u8 a0, .int .u8 a1] w fun e w' => e = .returned (.int .u8 r) ∧ Drawn0 w w' := by
  have H : (some (Go.bits .xor .u8 a0 a1)) = some r := h
  clear h
  obtain rfl := Option.some.inj H
  go_enter Try.func89, Try.ntmps89
  go_wp2
  go_ret
  exact ⟨by first | rfl | (simp; done) | (simp [*]; done), by repeat (first | exact Drawn0.refl _ | apply Drawn0.step)⟩
/-! ### gf256_double: function 90 -/
def gf256_double.f (a0 : Int) : Option (Int) := if a0 ≥ 128 then (some (Go.bits .xor .u8 ((a0 * 2) % 256) 29)) else (some ((a0 * 2) % 256))
set_option maxHeartbeats 8000000 in
set_option maxRecDepth 100000 in
theorem gf256_double.calls (a0 : Int) (r : Int) (w : World) (h : gf256_double.f a0 = some r) :
    Calls Try.prog 90 #[.int .u8 a0] w fun e w' => e = .returned (.int .u8 r) ∧ Drawn0 w w' := by
  have H : (if a0 ≥ 128 then (some (Go.bits .xor .u8 ((a0 * 2) % 256) 29)) else (some ((a0 * 2) % 256))) = some r := h
  clear h
  by_cases c2 : a0 ≥ 128
  · rw [if_pos c2] at H
    have c2b0 : decide (128 ≤ a0) = true := decide_eq_true c2
    clear c2
    obtain rfl := Option.some.inj H
    go_enter Try.func90, Try.ntmps90
    go_wp2
    go_ret
    exact ⟨by first | rfl | (simp; done) | (simp [*]; done), by repeat (first | exact Drawn0.refl _ | apply Drawn0.step)⟩
  · rw [if_neg c2] at H
    have c2b0 : decide (128 ≤ a0) = false := decide_eq_false c2
    clear c2
    obtain rfl := Option.some.inj H
    go_enter Try.func90, Try.ntmps90
    go_wp2
    go_ret
    exact ⟨by first | rfl | (simp; done) | (simp [*]; done), by repeat (first | exact Drawn0.refl _ | apply Drawn0.step)⟩
/-! ### gf256_Mul: function 68 -/
def gf256_Mul.l0 : Nat → Int → Int → Int → Option (Int)
  | 0, _, _, _ => none
  | k + 1, x0, x1, x5 => if x1 > 0 then (if (Go.bits .and .u8 x1 1) = 1 then ((gf256_Add.f x5 x0).bind fun t101 => ((gf256_double.f x0).bind fun t102 => (gf256_Mul.l0 k t102 (x1 / 2) t101))) else ((gf256_double.f x0).bind fun t103 => (gf256_Mul.l0 k t103 (x1 / 2) x5))) else (some x5)
def gf256_Mul.f (k : Nat) (a0 : Int) (a1 : Int) : Option (Int) := gf256_Mul.l0 k a0 a1 0
set_option maxHeartbeats 8000000 in
set_option maxRecDepth 100000 in
theorem gf256_Mul.calls (k : Nat) (a0 : Int) (a1 : Int) (r : Int) (w : World) (h : gf256_Mul.f k a0 a1 = some r) :
    Calls Try.prog 68 #[.int .u8 a0, .int .u8 a1] w fun e w' => e = .returned (.int .u8 r) ∧ Drawn0 w w' := by
  have H : (gf256_Mul.l0 k a0 a1 0) = some r := h
  clear h
  have H' := Aside0.mk H
  clear H
  go_enter Try.func68, Try.ntmps68
  go_wp2
  go_loopg [0, 1, 5] k (fun kq v0 v1 v5 w' => ∃ (x0_1 : Int) (x1_1 : Int) (x5_1 : Int), v0 = .int .u8 x0_1 ∧ v1 = .int .u8 x1_1 ∧ v5 = .int .u8 x5_1 ∧ Aside0 (gf256_Mul.l0 kq x0_1 x1_1 x5_1 = some r) ∧ Aside0 (kq ≤ k) ∧ Drawn0 w w')
  case atStart => exact ⟨(a0), (a1), (0), (by first | rfl | (simp; done) | (simp [*]; done)), (by first | rfl | (simp; done) | (simp [*]; done)), (by first | rfl | (simp; done) | (simp [*]; done)), H', ⟨Nat.le_refl _⟩, by repeat (first | exact Drawn0.refl _ | apply Drawn0.step)⟩
  case round =>
    clear H'
    try clear p2
    obtain ⟨x0_1, x1_1, x5_1, rfl, rfl, rfl, HA, HK1, ⟨m1, rfl⟩⟩ := hrel
    cases gk with
    | zero => exact absurd HA.out (by simp [gf256_Mul.l0])
    | succ k1 =>
      have H := HA.out
      clear HA
      simp only [gf256_Mul.l0] at H
      by_cases c3 : x1_1 > 0
      · rw [if_pos c3] at H
        have c3b0 : decide (0 < x1_1) = true := decide_eq_true c3
        clear c3
        by_cases c4 : (Go.bits .and .u8 x1_1 1) = 1
        · rw [if_pos c4] at H
          have c4b0 : ((Go.bits .and .u8 x1_1 1) == 1) = true := beq_iff_eq.mpr c4
          have c4b1 : ((Go.bits .and .u8 x1_1 1) != 1) = false := bne_eq_false_iff_eq.mpr c4
          clear c4
          replace H := Option.bind_eq_some_iff.mp H
          obtain ⟨t101, A50, H⟩ := H
          replace H : ((gf256_double.f x0_1).bind fun t102 => (gf256_Mul.l0 k1 t102 (x1_1 / 2) t101)) = some r := H
          have A5 := Aside0.mk A50
          clear A50
          replace H := Option.bind_eq_some_iff.mp H
          obtain ⟨t102, A60, H⟩ := H
          replace H : (gf256_Mul.l0 k1 t102 (x1_1 / 2) t101) = some r := H
          have A6 := Aside0.mk A60
          clear A60
          have H' := Aside0.mk H
          clear H
          go_wp2_with (first | ((with_reducible refine gate_callee (f := 89) rfl ?_); refine goesL_ (some 13) rfl rfl Try.func89 (by kernel_rfl) rfl #[.int .u8 x5_1, .int .u8 x0_1] rfl (by (try simp only [List.map_toArray, List.map_cons, List.map_nil]); first | done | rfl | (simp only [List.length_drop, List.length_take]; rfl)) ?_; (with_reducible refine (gf256_Add.calls x5_1 x0_1 t101 _ A5.out).mono ?_); rintro e w' ⟨rfl, ⟨nd, rfl⟩⟩; refine ⟨_, rfl, ?_⟩) | ((with_reducible refine gate_callee (f := 90) rfl ?_); refine goesL_ (some 15) rfl rfl Try.func90 (by kernel_rfl) rfl #[.int .u8 x0_1] rfl (by (try simp only [List.map_toArray, List.map_cons, List.map_nil]); first | done | rfl | (simp only [List.length_drop, List.length_take]; rfl)) ?_; (with_reducible refine (gf256_double.calls x0_1 t102 _ A6.out).mono ?_); rintro e w' ⟨rfl, ⟨nd, rfl⟩⟩; refine ⟨_, rfl, ?_⟩))
          go_roundg k1
          case measure => have := HK1.out; omega
          case rel => exact ⟨(t102), (x1_1 / 2), (t101), (by first | rfl | (simp; done) | (simp [*]; done)), (by first | rfl | (simp; done) | (simp [*]; done)), (by first | rfl | (simp; done) | (simp [*]; done)), H', ⟨by have := HK1.out; omega⟩, by repeat (first | exact Drawn0.refl _ | apply Drawn0.step)⟩
        · rw [if_neg c4] at H
          have c4b0 : ((Go.bits .and .u8 x1_1 1) == 1) = false := beq_eq_false_iff_ne.mpr c4
          have c4b1 : ((Go.bits .and .u8 x1_1 1) != 1) = true := bne_iff_ne.mpr c4
          replace H := Option.bind_eq_some_iff.mp H
          obtain ⟨t103, A70, H⟩ := H
          replace H : (gf256_Mul.l0 k1 t103 (x1_1 / 2) x5_1) = some r := H
          have A7 := Aside0.mk A70
          clear A70
          have H' := Aside0.mk H
          clear H
          go_wp2_with (first | ((with_reducible refine gate_callee (f := 90) rfl ?_); refine goesL_ (some 15) rfl rfl Try.func90 (by kernel_rfl) rfl #[.int .u8 x0_1] rfl (by (try simp only [List.map_toArray, List.map_cons, List.map_nil]); first | done | rfl | (simp only [List.length_drop, List.length_take]; rfl)) ?_; (with_reducible refine (gf256_double.calls x0_1 t103 _ A7.out).mono ?_); rintro e w' ⟨rfl, ⟨nd, rfl⟩⟩; refine ⟨_, rfl, ?_⟩))
          go_roundg k1
          case measure => have := HK1.out; omega
          case rel => exact ⟨(t103), (x1_1 / 2), (x5_1), (by first | rfl | (simp; done) | (simp [*]; done)), (by first | rfl | (simp; done) | (simp [*]; done)), (by first | rfl | (simp; done) | (simp [*]; done)), H', ⟨by have := HK1.out; omega⟩, by repeat (first | exact Drawn0.refl _ | apply Drawn0.step)⟩
      · rw [if_neg c3] at H
        have c3b0 : decide (0 < x1_1) = false := decide_eq_false c3
        clear c3
        obtain rfl := Option.some.inj H
        go_wp2
        go_ret
        exact ⟨by first | rfl | (simp; done) | (simp [*]; done), by repeat (first | exact Drawn0.refl _ | apply Drawn0.step)⟩
/-! ### gf256_raise: function 96 -/
def gf256_raise.l0 : Nat → Int → Int → Int → Option (Int)
  | 0, _, _, _ => none
  | k + 1, x0, x1, x5 => if x1 > 0 then (if (Go.bits .and .i64 x1 1) = 1 then ((gf256_Mul.f k x5 x0).bind fun t104 => ((gf256_Mul.f k x0 x0).bind fun t105 => (gf256_raise.l0 k t105 (x1 / 2) t104))) else ((gf256_Mul.f k x0 x0).bind fun t106 => (gf256_raise.l0 k t106 (x1 / 2) x5))) else (some x5)
def gf256_raise.f (k : Nat) (a0 : Int) (a1 : Int) : Option (Int) := gf256_raise.l0 k a0 a1 1
set_option maxHeartbeats 8000000 in
set_option maxRecDepth 100000 in
theorem gf256_raise.calls (k : Nat) (a0 : Int) (a1 : Int) (r : Int) (w : World) (h : gf256_raise.f k a0 a1 = some r) :
    Calls Try.prog 96 #[.int .u8 a0, .int .i64 a1] w fun e w' => e = .returned (.int .u8 r) ∧ Drawn0 w w' := by
  have H : (gf256_raise.l0 k a0 a1 1) = some r := h
  clear h
  have H' := Aside0.mk H
  clear H
  go_enter Try.func96, Try.ntmps96
  go_wp2
  go_loopg [0, 1, 5] k (fun kq v0 v1 v5 w' => ∃ (x0_1 : Int) (x1_1 : Int) (x5_1 : Int), v0 = .int .u8 x0_1 ∧ v1 = .int .i64 x1_1 ∧ v5 = .int .u8 x5_1 ∧ Aside0 (gf256_raise.l0 kq x0_1 x1_1 x5_1 = some r) ∧ Aside0 (kq ≤ k) ∧ Drawn0 w w')
  case atStart => exact ⟨(a0), (a1), (1), (by first | rfl | (simp; done) | (simp [*]; done)), (by first | rfl | (simp; done) | (simp [*]; done)), (by first | rfl | (simp; done) | (simp [*]; done)), H', ⟨Nat.le_refl _⟩, by repeat (first | exact Drawn0.refl _ | apply Drawn0.step)⟩
  case round =>
    clear H'
    try clear p2
    obtain ⟨x0_1, x1_1, x5_1, rfl, rfl, rfl, HA, HK1, ⟨m1, rfl⟩⟩ := hrel
    cases gk with
    | zero => exact absurd HA.out (by simp [gf256_raise.l0])
    | succ k1 =>
      have H := HA.out
      clear HA
      simp only [gf256_raise.l0] at H
      by_cases c3 : x1_1 > 0
      · rw [if_pos c3] at H
        have c3b0 : decide (0 < x1_1) = true := decide_eq_true c3
        clear c3
        by_cases c4 : (Go.bits .and .i64 x1_1 1) = 1
        · rw [if_pos c4] at H
          have c4b0 : ((Go.bits .and .i64 x1_1 1) == 1) = true := beq_iff_eq.mpr c4
          have c4b1 : ((Go.bits .and .i64 x1_1 1) != 1) = false := bne_eq_false_iff_eq.mpr c4
          clear c4
          replace H := Option.bind_eq_some_iff.mp H
          obtain ⟨t104, A50, H⟩ := H
          replace H : ((gf256_Mul.f k1 x0_1 x0_1).bind fun t105 => (gf256_raise.l0 k1 t105 (x1_1 / 2) t104)) = some r := H
          have A5 := Aside0.mk A50
          clear A50
          replace H := Option.bind_eq_some_iff.mp H
          obtain ⟨t105, A60, H⟩ := H
          replace H : (gf256_raise.l0 k1 t105 (x1_1 / 2) t104) = some r := H
          have A6 := Aside0.mk A60
          clear A60
          have H' := Aside0.mk H
          clear H
          go_wp2_with (first | ((with_reducible refine gate_callee (f := 68) rfl ?_); refine goesL_ (some 13) rfl rfl Try.func68 (by kernel_rfl) rfl #[.int .u8 x5_1, .int .u8 x0_1] rfl (by (try simp only [List.map_toArray, List.map_cons, List.map_nil]); first | done | rfl | (simp only [List.length_drop, List.length_take]; rfl)) ?_; (with_reducible refine (gf256_Mul.calls k1 x5_1 x0_1 t104 _ A5.out).mono ?_); rintro e w' ⟨rfl, ⟨nd, rfl⟩⟩; refine ⟨_, rfl, ?_⟩) | ((with_reducible refine gate_callee (f := 68) rfl ?_); refine goesL_ (some 16) rfl rfl Try.func68 (by kernel_rfl) rfl #[.int .u8 x0_1, .int .u8 x0_1] rfl (by (try simp only [List.map_toArray, List.map_cons, List.map_nil]); first | done | rfl | (simp only [List.length_drop, List.length_take]; rfl)) ?_; (with_reducible refine (gf256_Mul.calls k1 x0_1 x0_1 t105 _ A6.out).mono ?_); rintro e w' ⟨rfl, ⟨nd, rfl⟩⟩; refine ⟨_, rfl, ?_⟩))
          go_roundg k1
          case measure => have := HK1.out; omega
          case rel => exact ⟨(t105), (x1_1 / 2), (t104), (by first | rfl | (simp; done) | (simp [*]; done)), (by first | rfl | (simp; done) | (simp [*]; done)), (by first | rfl | (simp; done) | (simp [*]; done)), H', ⟨by have := HK1.out; omega⟩, by repeat (first | exact Drawn0.refl _ | apply Drawn0.step)⟩
        · rw [if_neg c4] at H
          have c4b0 : ((Go.bits .and .i64 x1_1 1) == 1) = false := beq_eq_false_iff_ne.mpr c4
          have c4b1 : ((Go.bits .and .i64 x1_1 1) != 1) = true := bne_iff_ne.mpr c4
          replace H := Option.bind_eq_some_iff.mp H
          obtain ⟨t106, A70, H⟩ := H
          replace H : (gf256_raise.l0 k1 t106 (x1_1 / 2) x5_1) = some r := H
          have A7 := Aside0.mk A70
          clear A70
          have H' := Aside0.mk H
          clear H
          go_wp2_with (first | ((with_reducible refine gate_callee (f := 68) rfl ?_); refine goesL_ (some 16) rfl rfl Try.func68 (by kernel_rfl) rfl #[.int .u8 x0_1, .int .u8 x0_1] rfl (by (try simp only [List.map_toArray, List.map_cons, List.map_nil]); first | done | rfl | (simp only [List.length_drop, List.length_take]; rfl)) ?_; (with_reducible refine (gf256_Mul.calls k1 x0_1 x0_1 t106 _ A7.out).mono ?_); rintro e w' ⟨rfl, ⟨nd, rfl⟩⟩; refine ⟨_, rfl, ?_⟩))
          go_roundg k1
          case measure => have := HK1.out; omega
          case rel => exact ⟨(t106), (x1_1 / 2), (x5_1), (by first | rfl | (simp; done) | (simp [*]; done)), (by first | rfl | (simp; done) | (simp [*]; done)), (by first | rfl | (simp; done) | (simp [*]; done)), H', ⟨by have := HK1.out; omega⟩, by repeat (first | exact Drawn0.refl _ | apply Drawn0.step)⟩
      · rw [if_neg c3] at H
        have c3b0 : decide (0 < x1_1) = false := decide_eq_false c3
        clear c3
        obtain rfl := Option.some.inj H
        go_wp2
        go_ret
        exact ⟨by first | rfl | (simp; done) | (simp [*]; done), by repeat (first | exact Drawn0.refl _ | apply Drawn0.step)⟩
/-! ### gf256_Inv: function 78 -/
def gf256_Inv.f (k : Nat) (a0 : Int) : Option (Int × Int) := if a0 = 0 then (some (0, 1)) else ((gf256_raise.f k a0 254).bind fun t107 => (some (t107, 0)))
set_option maxHeartbeats 8000000 in
set_option maxRecDepth 100000 in
theorem gf256_Inv.calls (k : Nat) (a0 : Int) (r1 : Int) (r2 : Int) (w : World) (h : gf256_Inv.f k a0 = some (r1, r2)) :
    Calls Try.prog 78 #[.int .u8 a0] w fun e w' => e = .returned (.tuple #[.int .u8 r1, .int .i64 r2]) ∧ Drawn0 w w' := by
  have H : (if a0 = 0 then (some (0, 1)) else ((gf256_raise.f k a0 254).bind fun t107 => (some (t107, 0)))) = some (r1, r2) := h
  clear h
  by_cases c2 : a0 = 0
  · rw [if_pos c2] at H
    have c2b0 : (a0 == 0) = true := beq_iff_eq.mpr c2
    have c2b1 : (a0 != 0) = false := bne_eq_false_iff_eq.mpr c2
    clear c2
    simp only [Option.some.injEq, Prod.mk.injEq] at H
    obtain ⟨rfl, rfl⟩ := H
    go_enter Try.func78, Try.ntmps78
    go_wp2
    go_ret2
    exact ⟨by first | rfl | (simp; done) | (simp [*]; done), by repeat (first | exact Drawn0.refl _ | apply Drawn0.step)⟩
  · rw [if_neg c2] at H
    have c2b0 : (a0 == 0) = false := beq_eq_false_iff_ne.mpr c2
    have c2b1 : (a0 != 0) = true := bne_iff_ne.mpr c2
    replace H := Option.bind_eq_some_iff.mp H
    obtain ⟨t107, A30, H⟩ := H
    replace H : (some (t107, 0)) = some (r1, r2) := H
    have A3 := Aside0.mk A30
    clear A30
    simp only [Option.some.injEq, Prod.mk.injEq] at H
    obtain ⟨rfl, rfl⟩ := H
    go_enter Try.func78, Try.ntmps78
    go_wp2_with (first | ((with_reducible refine gate_callee (f := 96) rfl ?_); refine goesL_ (some 7) rfl rfl Try.func96 (by kernel_rfl) rfl #[.int .u8 a0, .int .i64 254] rfl (by (try simp only [List.map_toArray, List.map_cons, List.map_nil]); first | done | rfl | (simp only [List.length_drop, List.length_take]; rfl)) ?_; (with_reducible refine (gf256_raise.calls k a0 254 t107 _ A3.out).mono ?_); rintro e w' ⟨rfl, ⟨nd, rfl⟩⟩; refine ⟨_, rfl, ?_⟩))
    go_ret2
    exact ⟨by first | rfl | (simp; done) | (simp [*]; done), by repeat (first | exact Drawn0.refl _ | apply Drawn0.step)⟩
/-! ### matrix_zero: function 64 -/
def matrix_zero.l0 : Nat → Int → List (List Int) → Int → Int → Option ((List (List Int)))
  | 0, _, _, _, _ => none
  | k + 1, x1, x5, x10, x11 => if x11 < x10 then (if 0 ≤ x1 then (if (x1 : Int).toNat ≤ 281474976710656 then (if 0 ≤ x11 then (if x11 < (x5.length : Int) then (matrix_zero.l0 k x1 (x5.set (x11 : Int).toNat (List.replicate (x1 : Int).toNat 0)) x10 (wrap64 (x11 + 1))) else (none)) else (none)) else (none)) else (none)) else (some x5)
def matrix_zero.f (k : Nat) (a0 : Int) (a1 : Int) : Option ((List (List Int))) := if 0 ≤ a0 then (if (a0 : Int).toNat ≤ 11728124029610 then ((some (List.replicate (a0 : Int).toNat [] : List (List Int))).bind fun y110 => (matrix_zero.l0 k a1 y110 (y110.length : Int) 0)) else (none)) else (none)
set_option maxHeartbeats 8000000 in
set_option maxRecDepth 100000 in
theorem matrix_zero.calls (k : Nat) (a0 : Int) (a1 : Int) (r : List (List Int)) (w : World) (h : matrix_zero.f k a0 a1 = some r) :
    Calls Try.prog 64 #[.int .i64 a0, .int .i64 a1] w fun e w' => ∃ v0_ : Value, e = .returned (v0_) ∧ Kd.S (Kd.slice 5 (Kd.int .u8)) 34 w' w.heap.size (fun _ => True) v0_ r ∧ Below w.heap.size w w' := by
  have HB := Aside0.mk (Below.refl w.heap.size w)
  have H : (if 0 ≤ a0 then (if (a0 : Int).toNat ≤ 11728124029610 then ((some (List.replicate (a0 : Int).toNat [] : List (List Int))).bind fun y110 => (matrix_zero.l0 k a1 y110 (y110.length : Int) 0)) else (none)) else (none)) = some r := h
  clear h
  by_cases c3 : 0 ≤ a0
  · rw [if_pos c3] at H
    have c3b0 := eq_true c3
    have c3b1 : decide (0 ≤ a0) = true := decide_eq_true c3
    clear c3
    by_cases c4 : (a0 : Int).toNat ≤ 11728124029610
    · rw [if_pos c4] at H
      have c4b0 := eq_true c4
      have c4b1 : decide ((a0 : Int).toNat ≤ 11728124029610) = true := decide_eq_true c4
      clear c4
      obtain ⟨y110, hy110⟩ : ∃ y_ : List (List Int), y_ = (List.replicate (a0 : Int).toNat []) := ⟨_, rfl⟩
      replace H : (matrix_zero.l0 k a1 y110 (y110.length : Int) 0) = some r := by first | (rw [hy110]; with_reducible exact H) | (have H2_ := (Option.bind_some _ _).symm.trans H; rw [hy110]; with_reducible exact H2_) | (have H2_ := (Option.bind_some _ _).symm.trans H; with_reducible exact H2_) | with_reducible exact H | (rw [hy110]; exact H) | exact H
      have Ny110 := Aside0.mk hy110
      clear hy110
      have H' := Aside0.mk H
      clear H
      go_enter Try.func64, Try.ntmps64
      go_wp2_with (first | ((with_reducible refine gate_dst (N := 8) rfl ?_); refine Kd.S_make (Kd.slice 5 (Kd.int .u8)) _ 34 rfl (N := 8) rfl 22 _ _ rfl a0 rfl rfl Try.underlying22 (.slice none 0 0) 24 info34 rfl (by decide) (by omega) [] (ok := fun _ => True) (okp := fun _ => True) ⟨_, rfl, Kd.R_nil _ _ _ _ _⟩ (fun _ hk => hk) trivial (of_decide_eq_true (by first | (with_reducible assumption) | assumption)) (Nat.le_trans (Nat.mul_le_mul_right _ (of_decide_eq_true (by first | (with_reducible assumption) | assumption) : a0.toNat ≤ 11728124029610)) (by omega)) (Below.refl _ _) (Nat.le_refl _) ?_; intro v111 w5 ho6 hb hg_ hnew_; clear hg_ hnew_; (first | rw [← Ny110.out] at ho6 | (simp only [Int.reduceToNat] at ho6; rw [← Ny110.out] at ho6)); have n0_ := Aside0.mk (Kd.S_lower ho6 (below_size (by repeat (first | (with_reducible first | exact HB.out | apply below_alloc | apply pw_below_drewN | apply below_drew1) | exact HB.out)))); have n1_ := Aside0.mk (below_step (by repeat (first | (with_reducible first | exact HB.out | apply below_alloc | apply pw_below_drewN | apply below_drew1) | exact HB.out)) hb); clear HB; have HO112 := n0_; have HB := n1_; clear n0_ n1_; clear hb ho6; obtain ⟨Ao7, co7, eo7⟩ := Kd.S_slice HO112.out; subst eo7))
      go_loopg [11] k (fun kq v11 w' => ∃ (x5_1 : List (List Int)) (x11_1 : Int), v11 = .int .i64 x11_1 ∧ Aside0 (matrix_zero.l0 kq a1 x5_1 (y110.length : Int) x11_1 = some r) ∧ Aside0 (kq ≤ k) ∧ Aside0 (Kd.S (Kd.slice 5 (Kd.int .u8)) 34 w' w.heap.size (fun _ => True) (.slice Ao7 y110.length co7) x5_1) ∧ Aside0 (Below w.heap.size w w'))
      case atStart => exact ⟨(y110), (0), (by first | rfl | (simp; done) | (simp [*]; done)), H', ⟨Nat.le_refl _⟩, ⟨by (with_reducible repeat (first | apply Kd.S_alloc | apply Kd.S_drewN | apply Kd.S_drew)); exact HO112.out⟩, ⟨by repeat (first | (with_reducible first | exact HB.out | apply below_alloc | apply pw_below_drewN | apply below_drew1) | exact HB.out)⟩⟩
      case round =>
        clear H'
        try clear p2
        try clear c3
        try clear c3b0
        try clear c3b1
        try clear c4
        try clear c4b0
        try clear c4b1
        try clear c6
        obtain ⟨x5_1, x11_1, rfl, HA, HK1, HO_5, HB⟩ := hrel
        have hl5_1 := (Kd.S_reads' HO_5.out).1
        rw [hl5_1] at HO_5
        (try simp only [hl5_1])
        cases gk with
        | zero => exact absurd HA.out (by simp [matrix_zero.l0])
        | succ k1 =>
          have H := HA.out
          clear HA
          simp only [matrix_zero.l0] at H
          by_cases c8 : x11_1 < (y110.length : Int)
          · rw [if_pos c8] at H
            have c8b0 : decide (x11_1 < (y110.length : Int)) = true := decide_eq_true c8
            (try (have c8b0x := c8b0; rw [hl5_1] at c8b0x))
            clear c8
            by_cases c9 : 0 ≤ a1
            · rw [if_pos c9] at H
              have c9b0 := eq_true c9
              (try (have c9b0x := c9b0; rw [hl5_1] at c9b0x))
              have c9b1 : decide (0 ≤ a1) = true := decide_eq_true c9
              (try (have c9b1x := c9b1; rw [hl5_1] at c9b1x))
              clear c9
              by_cases c10 : (a1 : Int).toNat ≤ 281474976710656
              · rw [if_pos c10] at H
                have c10b0 := eq_true c10
                (try (have c10b0x := c10b0; rw [hl5_1] at c10b0x))
                have c10b1 : decide ((a1 : Int).toNat ≤ 281474976710656) = true := decide_eq_true c10
                (try (have c10b1x := c10b1; rw [hl5_1] at c10b1x))
                clear c10
                obtain ⟨y113, hy113⟩ : ∃ y_ : List Int, y_ = (List.replicate (a1 : Int).toNat 0) := ⟨_, rfl⟩
                replace H : (if 0 ≤ x11_1 then (if x11_1 < (x5_1.length : Int) then (matrix_zero.l0 k1 a1 (x5_1.set (x11_1 : Int).toNat y113) (y110.length : Int) (wrap64 (x11_1 + 1))) else (none)) else (none)) = some r := by first | (rw [hy113]; with_reducible exact H) | (have H2_ := (Option.bind_some _ _).symm.trans H; rw [hy113]; with_reducible exact H2_) | (have H2_ := (Option.bind_some _ _).symm.trans H; with_reducible exact H2_) | with_reducible exact H | (rw [hy113]; exact H) | exact H
                have Ny113 := Aside0.mk hy113
                clear hy113
                by_cases c11 : 0 ≤ x11_1
                · rw [if_pos c11] at H
                  have c11b0 : decide (0 ≤ x11_1) = true := decide_eq_true c11
                  (try (have c11b0x := c11b0; rw [hl5_1] at c11b0x))
                  clear c11
                  by_cases c12 : x11_1 < (x5_1.length : Int)
                  · rw [if_pos c12] at H
                    have c12b0 : decide (x11_1 < (x5_1.length : Int)) = true := decide_eq_true c12
                    (try (have c12b0x := c12b0; rw [hl5_1] at c12b0x))
                    clear c12
                    obtain ⟨y116, hy116⟩ : ∃ y_ : List (List Int), y_ = (x5_1.set (x11_1 : Int).toNat y113) := ⟨_, rfl⟩
                    replace H : (matrix_zero.l0 k1 a1 y116 (y110.length : Int) (wrap64 (x11_1 + 1))) = some r := by first | (rw [hy116]; with_reducible exact H) | (have H2_ := (Option.bind_some _ _).symm.trans H; rw [hy116]; with_reducible exact H2_) | (have H2_ := (Option.bind_some _ _).symm.trans H; with_reducible exact H2_) | with_reducible exact H | (rw [hy116]; exact H) | exact H
                    have Ny116 := Aside0.mk hy116
                    clear hy116
                    have H' := Aside0.mk H
                    clear H
                    go_wp2_with (first | ((with_reducible refine gate_dst (N := 17) rfl ?_); refine Kd.R_make (Kd.int .u8) _ 5 rfl (N := 17) rfl 34 _ _ rfl a1 rfl rfl Try.underlying34 (.int .u8 0) 1 info5 rfl (by decide) (by omega) 0 (ok := fun _ => True) (okp := fun _ => True) rfl (fun _ hk => hk) trivial (of_decide_eq_true (by first | (with_reducible assumption) | assumption)) (Nat.le_trans (Nat.mul_le_mul_right _ (of_decide_eq_true (by first | (with_reducible assumption) | assumption) : a1.toNat ≤ 281474976710656)) (by omega)) (Below.refl _ _) (Nat.le_refl _) ?_; intro v114 w14 ho15 hb hg_ hnew_; clear hg_ hnew_; (first | rw [← Ny113.out] at ho15 | (simp only [Int.reduceToNat] at ho15; rw [← Ny113.out] at ho15)); have n0_ := Aside0.mk (Kd.S_elder' (by (with_reducible repeat (first | apply Kd.S_alloc | apply Kd.S_drewN | apply Kd.S_drew)); exact HO_5.out) (Kd.R_base ho15) hb); have n1_ := Aside0.mk (Kd.R_lower ho15 (below_size (by repeat (first | (with_reducible first | exact HB.out | apply below_alloc | apply pw_below_drewN | apply below_drew1) | exact HB.out)))); have n2_ := Aside0.mk (below_step (by repeat (first | (with_reducible first | exact HB.out | apply below_alloc | apply pw_below_drewN | apply below_drew1) | exact HB.out)) hb); clear HO_5; clear HB; have HO_5 := n0_; have HO115 := n1_; have HB := n2_; clear n0_ n1_ n2_; clear hb ho15; have p13 : 0 ≤ (x11_1 : Int) := of_decide_eq_true (by first | (with_reducible assumption) | assumption); have q13 : (x11_1 : Int) < ((x5_1.length : Int) : Int) := of_decide_eq_true (by first | (with_reducible assumption) | assumption); obtain ⟨go13, co13, eo13, gb13, gl13, cl13, HG13⟩ := Kd.S_form HO_5.out (by omega); (first | cases eo13 | (injection eo13 with ea_ en_ ec_; (first | subst ea_ | (injection ea_ with ea_; subst ea_)); subst ec_; clear en_)); have GB13 := Aside0.mk gb13; have GG13 := Aside0.mk HG13; clear gb13 gl13 HG13; obtain ⟨_, ce13, hcl13, hM13, hcc13, hfr13, _, _⟩ := Kd.S_elem HO_5.out [] (x11_1 : Int) p13 q13; obtain ⟨ve13_0, rfl, ge13_0⟩ := hM13; have hx13_0 := hcc13 0 _ rfl; have hf13_0 := hfr13 0; (try simp only [show ((Kd.slice 5 (Kd.int .u8))).sz = 1 from rfl, Nat.mul_one, Nat.add_zero] at hx13_0); (try simp only [show ((Kd.slice 5 (Kd.int .u8))).sz = 1 from rfl, Nat.mul_one, Nat.add_zero] at hf13_0); clear hcl13 hcc13 hfr13; (try clear hM13); replace p13 := eq_true p13; replace q13 := eq_true q13; have n_ := Aside0.mk (Kd.S_mono (ok' := (fun k_ => some k_ ≠ (v114 : Value).ownBlock)) HO_5.out (fun k_ hk => hk.2)); clear HO_5; have HO_5 := n_; clear n_; have HX16 := Aside0.mk (show Kd.S (Kd.slice 5 (Kd.int .u8)) 34 w14 w.heap.size (fun k_ => ((fun _ => True)) k_ ∧ ¬ ((fun k_ => some k_ = (v114 : Value).ownBlock)) k_) (.slice (some ⟨go13, 0, none⟩) x5_1.length co7) x5_1 from (by (with_reducible repeat (first | apply Kd.S_alloc | apply Kd.S_drewN | apply Kd.S_drew)); exact Kd.S_mono HO_5.out (fun k_ hk => ⟨trivial, fun e_ => hk e_⟩))); obtain ⟨oki16, ce16, hcl16, hM16, hcc16, hfr16, hoki16, hH16⟩ := Kd.S_elem HX16.out [] (x11_1 : Int) (of_decide_eq_true (by first | (with_reducible assumption) | assumption)) (by have h_ : (x11_1 : Int) < ((x5_1.length : Int) : Int) := of_decide_eq_true (by first | (with_reducible assumption) | assumption); first | exact h_ | (have e_ := (Kd.S_reads' HO_5.out).1; omega) | simpa using h_); obtain ⟨ve16_0, rfl, ge16_0⟩ := hM16; have HP16 := Kd.S_seg hH16 (of_decide_eq_true (by first | (with_reducible assumption) | assumption)) (by have h_ : (x11_1 : Int) < ((x5_1.length : Int) : Int) := of_decide_eq_true (by first | (with_reducible assumption) | assumption); first | exact h_ | (have e_ := (Kd.S_reads' HO_5.out).1; omega) | simpa using h_) (seg := [v114]) (j := 0) (show 1 ≤ 1 from by decide) (x' := y113) (Kd.M_row (Kd.R_mono (Kd.R_tight rfl (Kd.R_mono (ok' := fun k_ => ((fun _ => True)) k_ ∧ k_ ≠ go13) (Kd.R_apart' (HO115.out) (Kd.S_typed HO_5.out) (by decide)) (fun k_ hk => ⟨trivial, fun e_ => (hk.2) (by rw [e_]; rfl)⟩))) (fun _ h_ => Or.inr (h_)))) (fun _ hk => hk) (fun k_ hk_ => ((Kd.R_mono (ok' := fun k_ => ((fun _ => True)) k_ ∧ k_ ≠ go13) (Kd.R_apart' (HO115.out) (Kd.S_typed HO_5.out) (by decide)) (fun k_ hk => ⟨trivial, fun e_ => (hk.2) (by rw [e_]; rfl)⟩))).1 k_ hk_.symm); have hx16_0 := hcc16 0 _ rfl; (try simp only [show ((Kd.slice 5 (Kd.int .u8))).sz = 1 from rfl, Nat.mul_one, Nat.add_zero] at hx16_0); have hf16_0 := hfr16 0; (try simp only [show ((Kd.slice 5 (Kd.int .u8))).sz = 1 from rfl, Nat.mul_one, Nat.add_zero] at hf16_0); clear hcl16 hcc16 hfr16 hoki16 hH16; (try clear hM16); (try simp only [show ((Kd.slice 5 (Kd.int .u8))).sz = 1 from rfl, Nat.mul_one, Nat.add_zero] at HP16)) | ((with_reducible refine gate_store (t := 34) (p := 18) rfl ?_); refine store_event (t := 34) (p := 18) (v := ?vo_w17) (w1 := (w14.setCell ⟨go13, (x11_1 : Int).toNat, none⟩ (v114))) ?hg ?ho ?hn ?hr ?_; (case ho => rfl); (case hg => rfl); (case hn => rfl); (case hr => first | (go_simp; done) | (go_simp; rfl) | (obtain ⟨A_, c_, e_⟩ : ∃ A_ c_, v114 = .slice A_ _ c_ := Kd.R_slice (Aside0.out (by assumption)); rw [e_]; go_simp; done) | (obtain ⟨A_, c_, e_⟩ : ∃ A_ c_, v114 = .slice A_ _ c_ := Kd.R_slice (Aside0.out (by assumption)); rw [e_]; go_simp; rfl)); intro w17 hw; have hg : w14.grownBy w17 (some go13) := (by rw [hw]; exact HP16.2); have hp_ : Kd.S (Kd.slice 5 (Kd.int .u8)) 34 w17 w.heap.size (fun _ => True) (.slice (some ⟨go13, 0, none⟩) x5_1.length co7) y116 := (by rw [hw, Ny116.out]; exact HP16.1); clear HP16; have n0_ := Aside0.mk (hp_); have n1_ := Aside0.mk ((by rw [hw]; exact below_set (HB.out) GB13.out : Below w.heap.size w w17)); clear HO_5; clear HB; clear HO115; have HO_5 := n0_; have HB := n1_; clear n0_ n1_; clear hg hw hp_))
                    (try simp only [← hl5_1])
                    go_roundg k1
                    case measure => have := HK1.out; omega
                    case rel => exact ⟨(y116), (wrap64 (x11_1 + 1)), (by first | rfl | (simp; done) | (simp [*]; done)), H', ⟨by have := HK1.out; omega⟩, ⟨by (try simp only [hl5_1]); (with_reducible repeat (first | apply Kd.S_alloc | apply Kd.S_drewN | apply Kd.S_drew)); exact HO_5.out⟩, ⟨by repeat (first | (with_reducible first | exact HB.out | apply below_alloc | apply pw_below_drewN | apply below_drew1) | exact HB.out)⟩⟩
                  · rw [if_neg c12] at H
                    exact absurd H (by simp)
                · rw [if_neg c11] at H
                  exact absurd H (by simp)
              · rw [if_neg c10] at H
                exact absurd H (by simp)
            · rw [if_neg c9] at H
              exact absurd H (by simp)
          · rw [if_neg c8] at H
            have c8b0 : decide (x11_1 < (y110.length : Int)) = false := decide_eq_false c8
            (try (have c8b0x := c8b0; rw [hl5_1] at c8b0x))
            clear c8
            obtain rfl := Option.some.inj H
            go_wp2
            go_ret
            exact ⟨_, by first | rfl | (simp [errW_none, errW_some] <;> rfl) | (simp [*, errW_none, errW_some] <;> rfl), by (with_reducible repeat (first | apply Kd.S_alloc | apply Kd.S_drewN | apply Kd.S_drew)); exact HO_5.out, by repeat (first | (with_reducible first | exact HB.out | apply below_alloc | apply pw_below_drewN | apply below_drew1) | exact HB.out)⟩
    · rw [if_neg c4] at H
      exact absurd H (by simp)
  · rw [if_neg c3] at H
    exact absurd H (by simp)
/-! ### matrix_columns: function 56 -/
def matrix_columns.f (l0 : List (List Int)) : Option (Int) := if (l0.length : Int) = 0 then (some 0) else (if 0 < (l0.length : Int) then (some ((rd_L1 l0 0).length : Int)) else (none))
set_option maxHeartbeats 8000000 in
set_option maxRecDepth 100000 in
theorem matrix_columns.calls (A0 : Option Addr) (c0 : Nat) (l0 : List (List Int)) (r : Int) (w : World) (hr0 : Kd.C (Kd.slice 5 (Kd.int .u8)) w A0 l0.length l0) (hc0 : l0.length ≤ c0) (h : matrix_columns.f l0 = some r) :
    Calls Try.prog 56 #[.slice A0 l0.length c0] w fun e w' => e = .returned (.int .i64 r) ∧ Drawn0 w w' := by
  have HR0 := Aside0.mk hr0
  have HC0 := Aside0.mk hc0
  clear hr0 hc0
  have H : (if (l0.length : Int) = 0 then (some 0) else (if 0 < (l0.length : Int) then (some ((rd_L1 l0 0).length : Int)) else (none))) = some r := h
  clear h
  by_cases c2 : (l0.length : Int) = 0
  · rw [if_pos c2] at H
    have c2b0 : ((l0.length : Int) == 0) = true := beq_iff_eq.mpr c2
    have c2b1 : ((l0.length : Int) != 0) = false := bne_eq_false_iff_eq.mpr c2
    clear c2
    obtain rfl := Option.some.inj H
    go_enter Try.func56, Try.ntmps56
    go_wp2
    go_ret
    exact ⟨by first | rfl | (simp; done) | (simp [*]; done), by repeat (first | exact Drawn0.refl _ | apply Drawn0.step)⟩
  · rw [if_neg c2] at H
    have c2b0 : ((l0.length : Int) == 0) = false := beq_eq_false_iff_ne.mpr c2
    have c2b1 : ((l0.length : Int) != 0) = true := bne_iff_ne.mpr c2
    have c2b2 : ¬ (l0 = []) := fun h_ => c2 (by rw [h_]; rfl)
    by_cases c3 : 0 < (l0.length : Int)
    · rw [if_pos c3] at H
      have c3b0 : decide (0 < (l0.length : Int)) = true := decide_eq_true c3
      have c3b1 : decide (0 < l0.length) = true := decide_eq_true (by omega)
      clear c3
      obtain rfl := Option.some.inj H
      have p117 : 0 ≤ (0 : Int) := (by omega)
      have q117 : 0 < (l0.length : Int) := of_decide_eq_true (by first | (with_reducible assumption) | assumption)
      obtain ⟨ad117, A117_0, c117_0, e117, hx117_0, hl117_0, hi117_0⟩ := at_L1 HR0.out 0 p117 q117
      cases e117
      have qi117 : (0 < l0.length) = True := eq_true (by omega)
      (try rw [show ((0 : Int)).toNat = 0 from rfl] at hx117_0)
      (try rw [Addr.add_zero'] at hx117_0)
      have HR117_0 := Aside0.mk hi117_0
      have HC117_0 := Aside0.mk hl117_0
      clear hi117_0 hl117_0
      replace p117 := eq_true p117
      replace q117 := eq_true q117
      go_enter Try.func56, Try.ntmps56
      go_wp2
      go_ret
      exact ⟨by first | rfl | (simp; done) | (simp [*]; done), by repeat (first | exact Drawn0.refl _ | apply Drawn0.step)⟩
    · rw [if_neg c3] at H
      exact absurd H (by simp)
/-! ### matrix_size: function 57 -/
def matrix_size.f (a0 : Int) : Option (Bool) := if a0 ≥ 0 then (some (decide (a0 ≤ 64))) else (some false)
set_option maxHeartbeats 8000000 in
set_option maxRecDepth 100000 in
theorem matrix_size.calls (a0 : Int) (r : Bool) (w : World) (h : matrix_size.f a0 = some r) :
    Calls Try.prog 57 #[.int .i64 a0] w fun e w' => e = .returned (.bool r) ∧ Drawn0 w w' := by
  have H : (if a0 ≥ 0 then (some (decide (a0 ≤ 64))) else (some false)) = some r := h
  clear h
  by_cases c2 : a0 ≥ 0
  · rw [if_pos c2] at H
    have c2b0 : decide (0 ≤ a0) = true := decide_eq_true c2
    clear c2
    obtain rfl := Option.some.inj H
    go_enter Try.func57, Try.ntmps57
    go_wp2
    go_ret
    exact ⟨by first | rfl | (simp; done) | (simp [*]; done), by repeat (first | exact Drawn0.refl _ | apply Drawn0.step)⟩
  · rw [if_neg c2] at H
    have c2b0 : decide (0 ≤ a0) = false := decide_eq_false c2
    clear c2
    obtain rfl := Option.some.inj H
    go_enter Try.func57, Try.ntmps57
    go_wp2
    go_ret
    exact ⟨by first | rfl | (simp; done) | (simp [*]; done), by repeat (first | exact Drawn0.refl _ | apply Drawn0.step)⟩
end Go.Proofs.Ytpkghpljgjlmjaa.K
-- Lines of this claim, written by the session's own program kprint.py (it runs print.py).
namespace Go.Proofs.Ytpkghpljgjlmjaa.K
open Go.RowKit Go.Proofs.YtpkghpljgjlmjaaW.PrintWords Go.Proofs.YtpkghpljgjlmjaaW.PrintLast Go.Proofs.YtpkghpljgjlmjaaW.PrintMore
attribute [local go_sem] max2_int min2_int max_two min_two max_three min_three max_four min_four   -- for this text's walks alone
set_option linter.unusedVariables false
set_option linter.unusedSimpArgs false
/-! ### slices_Index_int_int: function 85 -/
def slices_Index_int_int.l0 : Nat → List Int → Int → Int → Int → Option (Int)
  | 0, _, _, _, _ => none
  | k + 1, x0, x1, x7, x8 => if x8 < x7 then (if 0 ≤ x8 then (if x8 < (x0.length : Int) then (if x1 = (rd x0 x8) then (some x8) else (slices_Index_int_int.l0 k x0 x1 x7 (wrap64 (x8 + 1)))) else (none)) else (none)) else (some (-1))
def slices_Index_int_int.f (k : Nat) (l0 : List Int) (a1 : Int) : Option (Int) := slices_Index_int_int.l0 k l0 a1 (l0.length : Int) 0
set_option maxHeartbeats 8000000 in
set_option maxRecDepth 100000 in
theorem slices_Index_int_int.calls (k : Nat) (A0 : Option Addr) (c0 : Nat) (l0 : List Int) (a1 : Int) (r : Int) (w : World) (hr0 : Kd.C (Kd.int .i64) w A0 l0.length l0) (hc0 : l0.length ≤ c0) (h : slices_Index_int_int.f k l0 a1 = some r) :
    Calls Try.prog 85 #[.slice A0 l0.length c0, .int .i64 a1] w fun e w' => e = .returned (.int .i64 r) ∧ Drawn0 w w' := by
  have HR0 := Aside0.mk hr0
  have HC0 := Aside0.mk hc0
  clear hr0 hc0
  have H : (slices_Index_int_int.l0 k l0 a1 (l0.length : Int) 0) = some r := h
  clear h
  have H' := Aside0.mk H
  clear H
  go_enter Try.func85, Try.ntmps85
  go_wp2
  go_loopg [8] k (fun kq v8 w' => ∃ (x8_1 : Int), v8 = .int .i64 x8_1 ∧ Aside0 (slices_Index_int_int.l0 kq l0 a1 (l0.length : Int) x8_1 = some r) ∧ Aside0 (kq ≤ k) ∧ Drawn0 w w')
  case atStart => exact ⟨(0), (by first | rfl | (simp; done) | (simp [*]; done)), H', ⟨Nat.le_refl _⟩, by repeat (first | exact Drawn0.refl _ | apply Drawn0.step)⟩
  case round =>
    clear H'
    try clear p2
    obtain ⟨x8_1, rfl, HA, HK1, ⟨m1, rfl⟩⟩ := hrel
    cases gk with
    | zero => exact absurd HA.out (by simp [slices_Index_int_int.l0])
    | succ k1 =>
      have H := HA.out
      clear HA
      simp only [slices_Index_int_int.l0] at H
      by_cases c3 : x8_1 < (l0.length : Int)
      · rw [if_pos c3] at H
        have c3b0 : decide (x8_1 < (l0.length : Int)) = true := decide_eq_true c3
        clear c3
        by_cases c4 : 0 ≤ x8_1
        · rw [if_pos c4] at H
          have c4b0 : decide (0 ≤ x8_1) = true := decide_eq_true c4
          clear c4
          by_cases c5 : x8_1 < (l0.length : Int)
          · rw [if_pos c5] at H
            have c5b0 : decide (x8_1 < (l0.length : Int)) = true := decide_eq_true c5
            clear c5
            by_cases c6 : a1 = (rd l0 x8_1)
            · rw [if_pos c6] at H
              have c6b0 : (a1 == (rd l0 x8_1)) = true := beq_iff_eq.mpr c6
              have c6b1 : (a1 != (rd l0 x8_1)) = false := bne_eq_false_iff_eq.mpr c6
              clear c6
              obtain rfl := Option.some.inj H
              have p228 : 0 ≤ (x8_1 : Int) := of_decide_eq_true (by first | (with_reducible assumption) | assumption)
              have q228 : x8_1 < (l0.length : Int) := of_decide_eq_true (by first | (with_reducible assumption) | assumption)
              obtain ⟨ad228, e228, hx228_0⟩ := Kd.at_int HR0.out x8_1 p228 q228
              cases e228
              replace p228 := eq_true p228
              replace q228 := eq_true q228
              go_wp2
              go_ret
              exact ⟨by first | rfl | (simp; done) | (simp [*]; done), by repeat (first | exact Drawn0.refl _ | apply Drawn0.step)⟩
            · rw [if_neg c6] at H
              have c6b0 : (a1 == (rd l0 x8_1)) = false := beq_eq_false_iff_ne.mpr c6
              have c6b1 : (a1 != (rd l0 x8_1)) = true := bne_iff_ne.mpr c6
              have H' := Aside0.mk H
              clear H
              have p228 : 0 ≤ (x8_1 : Int) := of_decide_eq_true (by first | (with_reducible assumption) | assumption)
              have q228 : x8_1 < (l0.length : Int) := of_decide_eq_true (by first | (with_reducible assumption) | assumption)
              obtain ⟨ad228, e228, hx228_0⟩ := Kd.at_int HR0.out x8_1 p228 q228
              cases e228
              replace p228 := eq_true p228
              replace q228 := eq_true q228
              go_wp2
              go_roundg k1
              case measure => have := HK1.out; omega
              case rel => exact ⟨(wrap64 (x8_1 + 1)), (by first | rfl | (simp; done) | (simp [*]; done)), H', ⟨by have := HK1.out; omega⟩, by repeat (first | exact Drawn0.refl _ | apply Drawn0.step)⟩
          · rw [if_neg c5] at H
            exact absurd H (by simp)
        · rw [if_neg c4] at H
          exact absurd H (by simp)
      · rw [if_neg c3] at H
        have c3b0 : decide (x8_1 < (l0.length : Int)) = false := decide_eq_false c3
        clear c3
        obtain rfl := Option.some.inj H
        go_wp2
        go_ret
        exact ⟨by first | rfl | (simp; done) | (simp [*]; done), by repeat (first | exact Drawn0.refl _ | apply Drawn0.step)⟩
/-! ### slices_Contains_int_int: function 60 -/
def slices_Contains_int_int.f (k : Nat) (l0 : List Int) (a1 : Int) : Option (Bool) := (slices_Index_int_int.f k l0 a1).bind fun t229 => (some (decide (t229 ≥ 0)))
set_option maxHeartbeats 8000000 in
set_option maxRecDepth 100000 in
theorem slices_Contains_int_int.calls (k : Nat) (A0 : Option Addr) (c0 : Nat) (l0 : List Int) (a1 : Int) (r : Bool) (w : World) (hr0 : Kd.C (Kd.int .i64) w A0 l0.length l0) (hc0 : l0.length ≤ c0) (h : slices_Contains_int_int.f k l0 a1 = some r) :
    Calls Try.prog 60 #[.slice A0 l0.length c0, .int .i64 a1] w fun e w' => e = .returned (.bool r) ∧ Drawn0 w w' := by
  have HR0 := Aside0.mk hr0
  have HC0 := Aside0.mk hc0
  clear hr0 hc0
  have H : ((slices_Index_int_int.f k l0 a1).bind fun t229 => (some (decide (t229 ≥ 0)))) = some r := h
  clear h
  replace H := Option.bind_eq_some_iff.mp H
  obtain ⟨t229, A30, H⟩ := H
  replace H : (some (decide (t229 ≥ 0))) = some r := H
  have A3 := Aside0.mk A30
  clear A30
  obtain rfl := Option.some.inj H
  go_enter Try.func60, Try.ntmps60
  go_wp2_with (first | ((with_reducible refine gate_callee (f := 85) rfl ?_); refine goesL_ (some 7) rfl rfl Try.func85 (by kernel_rfl) rfl #[.slice A0 l0.length c0, .int .i64 a1] rfl (by (try simp only [List.map_toArray, List.map_cons, List.map_nil]); first | done | rfl | (simp only [List.length_drop, List.length_take]; rfl)) ?_; (with_reducible refine (slices_Index_int_int.calls k _ _ l0 a1 t229 _ ?side1 ?side2 A3.out).mono ?_); (case side1 => repeat (first | exact HR0.out | (with_reducible refine Kd.C_alloc ?_ _) | (with_reducible refine Kd.C_drewN ?_ _) | (with_reducible refine Kd.C_drew ?_))); (case side2 => exact HC0.out); rintro e w' ⟨rfl, ⟨nd, rfl⟩⟩; refine ⟨_, rfl, ?_⟩))
  go_ret
  exact ⟨by first | rfl | (simp; done) | (simp [*]; done), by repeat (first | exact Drawn0.refl _ | apply Drawn0.step)⟩
end Go.Proofs.Ytpkghpljgjlmjaa.K
/- slices.IndexFunc, slices.ContainsFunc over rows of bytes at a closure with one captured variable; matrix.Valid. -/
namespace Go.Proofs.Ytpkghpljgjlmjaa.K
open Go.RowKit Go.Proofs.YtpkghpljgjlmjaaW.PrintWords Go.Proofs.YtpkghpljgjlmjaaW.PrintLast Go.Proofs.YtpkghpljgjlmjaaW.PrintMore
set_option linter.unusedVariables false

/-- What a closure with one captured variable answers of rows of bytes. -/
structure Tests (w : World) (f : Nat) (cap : Value) (p : List Int → Bool) : Prop where
  enters : ∀ (args : Array Value) (w : World), (callFunc f args).run Try.prog w = .ok (.enter f args) w
  calls : ∀ (A : Option Addr) (c : Nat) (x : List Int), (Kd.int .u8).C w A x.length x → x.length ≤ c →
    Calls Try.prog f #[.slice A x.length c, cap] w fun e w' => e = .returned (.bool (p x)) ∧ w = w'
def idxOf (l : List (List Int)) (p : List Int → Bool) : Int := match l.findIdx? p with | some i => i | none => -1
theorem idxOf_none {l : List (List Int)} {p : List Int → Bool} (h : ∀ x ∈ l, p x = false) : idxOf l p = -1 := by
  unfold idxOf
  rw [List.findIdx?_eq_none_iff.2 h]
theorem rd_L1_mem (l : List (List Int)) (k : Nat) (hk : k < l.length) : rd_L1 l (k : Int) = l[k] := by
  simp [rd_L1, List.getD_eq_getElem?_getD, List.getElem?_eq_getElem hk]
theorem idxOf_some {l : List (List Int)} {p : List Int → Bool} {k : Nat} (hk : k < l.length) (h : ∀ j, (hj : j < k) → p (l[j]'(by omega)) = false) (hp : p l[k] = true) : idxOf l p = k := by
  unfold idxOf
  have : l.findIdx? p = some k := by
    rw [List.findIdx?_eq_some_iff_getElem]
    exact ⟨hk, hp, fun j hj => by simp [h j hj]⟩
  rw [this]
theorem idxOf_any (l : List (List Int)) (p : List Int → Bool) : decide (idxOf l p ≥ 0) = l.any p := by
  unfold idxOf
  cases h : l.findIdx? p with
  | none =>
    rw [List.findIdx?_eq_none_iff] at h
    have : l.any p = false := by simpa [List.any_eq_false] using h
    rw [this]; rfl
  | some i =>
    have : l.any p = true := by
      obtain ⟨hi, hp, _⟩ := List.findIdx?_eq_some_iff_getElem.1 h
      exact List.any_eq_true.2 ⟨_, List.getElem_mem hi, hp⟩
    rw [this]; simp
set_option maxRecDepth 100000 in
set_option maxHeartbeats 400000 in
theorem indexFunc_calls (A0 : Option Addr) (c0 : Nat) (l0 : List (List Int)) (f : Nat) (a : Addr) (p : List Int → Bool) (w : World) (hr0 : Kd.C (Kd.slice 5 (Kd.int .u8)) w A0 l0.length l0) (hT : Tests w f (.pointer (some a)) p) :
    Calls Try.prog 84 #[.slice A0 l0.length c0, .func (Fn.func f) #[] #[.pointer (some a)]] w fun e w' => e = .returned (.int .i64 (idxOf l0 p)) ∧ w = w' := by
  have HR0 := Aside0.mk hr0
  have hlen := hr0.2.1
  have hent := hT.enters
  clear hr0
  go_enter Try.func84, Try.ntmps84
  go_wp2
  go_loop [8] (fun v8 => ∃ k : Nat, k ≤ l0.length ∧ v8 = .int .i64 (k : Int) ∧ Aside0 (∀ j, (hj : j < l0.length) → j < k → p l0[j] = false)) (fun v8 => l0.length - (intOf v8).toNat)
  case atStart => exact ⟨0, by omega, rfl, ⟨fun j _ hj => absurd hj (by omega)⟩⟩
  case round =>
    obtain ⟨k, hk, rfl, HA⟩ := hrel
    by_cases hlt : k < l0.length
    · obtain ⟨ad, A1, c1, e, hx, hl, hi⟩ := at_L1 HR0.out (k : Int) (by omega) (by omega)
      subst e
      rw [Int.toNat_natCast] at hx
      generalize hy : rd_L1 l0 (k : Int) = y at hx hl hi
      have HY := Aside0.mk hy
      have HC := Aside0.mk (hT.calls A1 c1 y hi hl)
      clear hl hi hy
      cases hp : p y with
      | true =>
        have HP := Aside0.mk hp
        rw [hp] at HC
        clear hp
        go_wp2_with ((with_reducible refine HC.out.mono ?_); rintro e w' ⟨rfl, rfl⟩)
        go_ret
        have := HA.out
        refine ⟨?_, rfl⟩
        rw [idxOf_some hlt (fun j hj => this j (by omega) hj) (by rw [← rd_L1_mem l0 k hlt, HY.out]; exact HP.out)]
        rfl
      | false =>
        have HP := Aside0.mk hp
        rw [hp] at HC
        clear hp
        go_wp2_with ((with_reducible refine HC.out.mono ?_); rintro e w' ⟨rfl, rfl⟩)
        go_round
        case rel =>
          refine ⟨k + 1, by omega, by go_num, ⟨fun j hj hj2 => ?_⟩⟩
          by_cases hjk : j = k
          · subst hjk
            rw [← rd_L1_mem l0 j hlt, HY.out]
            exact HP.out
          · exact HA.out j hj (by omega)
        case measure => simp [intOf]; omega
    · have := HA.out
      have hE : idxOf l0 p = -1 := idxOf_none (fun x hx => by obtain ⟨j, hj, rfl⟩ := List.getElem_of_mem hx; exact this j hj (by omega))
      have HE := Aside0.mk hE
      clear hE this
      go_wp2
      go_ret
      exact ⟨by rw [HE.out]; rfl, rfl⟩
set_option maxRecDepth 100000 in
set_option maxHeartbeats 400000 in
theorem containsFunc_calls (A0 : Option Addr) (c0 : Nat) (l0 : List (List Int)) (f : Nat) (a : Addr) (p : List Int → Bool) (w : World) (hr0 : Kd.C (Kd.slice 5 (Kd.int .u8)) w A0 l0.length l0) (hT : Tests w f (.pointer (some a)) p) :
    Calls Try.prog 58 #[.slice A0 l0.length c0, .func (Fn.func f) #[] #[.pointer (some a)]] w fun e w' => e = .returned (.bool (l0.any p)) ∧ w = w' := by
  have h := Aside0.mk (indexFunc_calls A0 c0 l0 f a p w hr0 hT)
  have he := Aside0.mk (idxOf_any l0 p)
  generalize idxOf l0 p = i at h he
  go_enter Try.func58, Try.ntmps58
  go_wp2_with (go_at_call 84; (with_reducible refine h.out.mono ?_); rintro e w' ⟨rfl, rfl⟩)
  go_ret
  exact ⟨by rw [← he.out]; rfl, rfl⟩
theorem enters59 (args : Array Value) (w : World) : (callFunc 59 args).run Try.prog w = .ok (.enter 59 args) w := by
  go_simp
/-- 'len(row) != n', n a captured variable. -/
theorem valid1_calls (n : Nat) (hn : n ≤ 9223372036854775807) (a : Addr) (A : Option Addr) (c : Nat) (x : List Int) (w : World) (hc : w.cell? a = some (.int .i64 (n : Int))) (hx : x.length ≤ 9223372036854775807) :
    Calls Try.prog 59 #[.slice A x.length c, .pointer (some a)] w fun e w' => e = .returned (.bool (decide (x.length ≠ n))) ∧ w = w' := by
  by_cases h : x.length = n
  · have h1 : ((x.length : Int) != (n : Int)) = false := by rw [bne_eq_false_iff_eq]; omega
    have h2 : decide (x.length ≠ n) = false := by simp [h]
    have H := Aside0.mk h2
    clear h h2
    go_enter Try.func59, Try.ntmps59
    go_wp2
    go_ret
    exact ⟨by rw [H.out]; rfl, rfl⟩
  · have h1 : ((x.length : Int) != (n : Int)) = true := by rw [bne_iff_ne]; omega
    have h2 : decide (x.length ≠ n) = true := by simp [h]
    have H := Aside0.mk h2
    clear h h2
    go_enter Try.func59, Try.ntmps59
    go_wp2
    go_ret
    exact ⟨by rw [H.out]; rfl, rfl⟩
theorem tests59 (n : Nat) (hn : n ≤ 9223372036854775807) (a : Addr) (w : World) (hc : w.cell? a = some (.int .i64 (n : Int))) : Tests w 59 (.pointer (some a)) (fun x => decide (x.length ≠ n)) :=
  ⟨enters59, fun A c x hx _ => valid1_calls n hn a A c x w hc hx.2.1⟩
/-- P4.1: at most 64 rows of one length, at most 64. -/
def colsN {α : Type} (l : List (List α)) : Nat := (l.headD []).length
def validB {α : Type} (l : List (List α)) : Bool := decide (l.length ≤ 64) && (decide (colsN l ≤ 64) && l.all (fun x => decide (x.length = colsN l)))
def matrix_Valid.f (l0 : List (List Int)) : Option (Bool) := some (validB l0)
theorem columns_eq (l : List (List Int)) : matrix_columns.f l = some (colsN l : Int) := by
  cases l with
  | nil => rfl
  | cons x l =>
    unfold matrix_columns.f
    rw [if_neg (by simp; omega), if_pos (by simp)]
    rfl
theorem size_eq (n : Nat) : matrix_size.f (n : Int) = some (decide (n ≤ 64)) := by
  unfold matrix_size.f
  rw [if_pos (by omega)]
  congr 1
  rw [decide_eq_decide]
  omega
set_option maxRecDepth 100000 in
set_option maxHeartbeats 1000000 in
theorem matrix_Valid.calls (A0 : Option Addr) (c0 : Nat) (l0 : List (List Int)) (r : Bool) (w : World) (hr0 : Kd.C (Kd.slice 5 (Kd.int .u8)) w A0 l0.length l0) (hc0 : l0.length ≤ c0) (h : matrix_Valid.f l0 = some r) :
    Calls Try.prog 17 #[.slice A0 l0.length c0] w fun e w' => e = .returned (.bool r) ∧ Below w.heap.size w w' := by
  have hr := Option.some.inj h
  clear h
  have hmf : ∀ (fn : Fn) (first cap : Array Value) (w : World), (Instr.makeFunc fn first cap).run Try.prog w = .ok (.func fn first cap) w := fun _ _ _ _ => rfl
  have hlen := hr0.2.1
  have HR0 := Aside0.mk hr0
  have HC0 := Aside0.mk hc0
  have HF1 := Aside0.mk (columns_eq l0)
  have HF2 := Aside0.mk (size_eq l0.length)
  have HF3 := Aside0.mk (size_eq (colsN l0))
  clear hr0 hc0
  have HS := Aside0.mk hlen
  have hcols : colsN l0 ≤ 9223372036854775807 := by
    unfold colsN
    cases l0 with
    | nil => simp
    | cons x l =>
      obtain ⟨ad, A1, c1, _, _, _, hi⟩ := at_L1 HR0.out 0 (by omega) (by simp)
      exact hi.2.1
  have HR := Aside0.mk hr
  clear hr
  cases h1 : decide (l0.length ≤ 64) with
  | false =>
    have HF := Aside0.mk (show r = false by rw [← HR.out, validB, h1]; rfl)
    rw [h1] at HF2
    clear h1 HR
    go_enter Try.func17, Try.ntmps17
    go_wp2_with (first | (go_at_call 56; (with_reducible refine (matrix_columns.calls _ _ l0 _ _ HR0.out HC0.out HF1.out).mono ?_); rintro e w' ⟨rfl, ⟨n1, rfl⟩⟩) | ((with_reducible refine gate_dst (N := 3) rfl ?_); refine box_event rfl (N := 3) rfl (cs := #[.int .i64 0]) (t := 3) ?hrun ?_; (case hrun => first | (go_simp; done) | (go_simp; rfl)); intro g hg w1 hb1 hB1; have hx1 : w1.cell? ⟨g, 0, none⟩ = some (.int .i64 0) := (by rw [blk_cell hb1]; rfl); have hf1 := blk_frozen hb1 0; have HB1 := Aside0.mk (below_step (pw_below_drewN (Below.refl w.heap.size w) n1) hB1); have HG := Aside0.mk (show w.heap.size ≤ g by rw [hg]; exact Nat.le_refl _); clear hg hb1 hB1) | (go_at_call 57; (with_reducible refine (matrix_size.calls _ _ _ HF2.out).mono ?_); rintro e w' ⟨rfl, ⟨n2, rfl⟩⟩))
    go_ret
    exact ⟨by rw [HF.out]; rfl, pw_below_drewN (HB1.out.setCell HG.out _) _⟩
  | true =>
    cases h2 : decide (colsN l0 ≤ 64) with
    | false =>
      have HF := Aside0.mk (show r = false by rw [← HR.out, validB, h1, h2]; rfl)
      rw [h1] at HF2
      rw [h2] at HF3
      clear h1 h2 HR
      go_enter Try.func17, Try.ntmps17
      go_wp2_with (first | (go_at_call 56; (with_reducible refine (matrix_columns.calls _ _ l0 _ _ HR0.out HC0.out HF1.out).mono ?_); rintro e w' ⟨rfl, ⟨n1, rfl⟩⟩) | ((with_reducible refine gate_dst (N := 3) rfl ?_); refine box_event rfl (N := 3) rfl (cs := #[.int .i64 0]) (t := 3) ?hrun ?_; (case hrun => first | (go_simp; done) | (go_simp; rfl)); intro g hg w1 hb1 hB1; have hx1 : w1.cell? ⟨g, 0, none⟩ = some (.int .i64 0) := (by rw [blk_cell hb1]; rfl); have hf1 := blk_frozen hb1 0; have HB1 := Aside0.mk (below_step (pw_below_drewN (Below.refl w.heap.size w) n1) hB1); have HG := Aside0.mk (show w.heap.size ≤ g by rw [hg]; exact Nat.le_refl _); clear hg hb1 hB1) | (go_at_call_of 57 (Value.int .i64 (l0.length : Int)); (with_reducible refine (matrix_size.calls _ _ _ HF2.out).mono ?_); rintro e w' ⟨rfl, ⟨n2, rfl⟩⟩) | (go_at_call_of 57 (Value.int .i64 (colsN l0 : Int)); (with_reducible refine (matrix_size.calls _ _ _ HF3.out).mono ?_); rintro e w' ⟨rfl, ⟨n3, rfl⟩⟩))
      go_ret
      exact ⟨by rw [HF.out]; rfl, pw_below_drewN (HB1.out.setCell HG.out _) _⟩
    | true =>
      have HF := Aside0.mk (show r = !(l0.any fun x => !decide (x.length = colsN l0)) by
        rw [← HR.out, validB, h1, h2]
        rw [Bool.eq_iff_iff]
        simp)
      rw [h1] at HF2
      rw [h2] at HF3
      clear h1 h2 HR
      go_enter Try.func17, Try.ntmps17
      go_wp2_with (first | (go_at_call 56; (with_reducible refine (matrix_columns.calls _ _ l0 _ _ HR0.out HC0.out HF1.out).mono ?_); rintro e w' ⟨rfl, ⟨n1, rfl⟩⟩) | ((with_reducible refine gate_dst (N := 3) rfl ?_); refine box_event rfl (N := 3) rfl (cs := #[.int .i64 0]) (t := 3) ?hrun ?_; (case hrun => first | (go_simp; done) | (go_simp; rfl)); intro g hg w1 hb1 hB1; have hx1 : w1.cell? ⟨g, 0, none⟩ = some (.int .i64 0) := (by rw [blk_cell hb1]; rfl); have hf1 := blk_frozen hb1 0; have HB1 := Aside0.mk (below_step (pw_below_drewN (Below.refl w.heap.size w) n1) hB1); have HG := Aside0.mk (show w.heap.size ≤ g by rw [hg]; exact Nat.le_refl _); clear hg hb1 hB1) | (go_at_call_of 57 (Value.int .i64 (l0.length : Int)); (with_reducible refine (matrix_size.calls _ _ _ HF2.out).mono ?_); rintro e w' ⟨rfl, ⟨n2, rfl⟩⟩) | (go_at_call_of 57 (Value.int .i64 (colsN l0 : Int)); (with_reducible refine (matrix_size.calls _ _ _ HF3.out).mono ?_); rintro e w' ⟨rfl, ⟨n3, rfl⟩⟩))
      refine (containsFunc_calls A0 c0 l0 59 ⟨g, 0, none⟩ (fun x => decide (x.length ≠ colsN l0)) _ (Kd.C_below HR0.out (pw_below_drewN (HB1.out.setCell HG.out _) _)) (tests59 _ hcols _ _ ?hc)).mono ?_
      case hc => go_simp
      rintro e w' ⟨rfl, rfl⟩
      go_wp2
      go_ret
      exact ⟨by rw [HF.out]; rfl, pw_below_drewN (HB1.out.setCell HG.out _) _⟩
end Go.Proofs.Ytpkghpljgjlmjaa.K
namespace Go.Proofs.Ytpkghpljgjlmjaa.K
open Go.RowKit Go.Proofs.YtpkghpljgjlmjaaW.PrintWords Go.Proofs.YtpkghpljgjlmjaaW.PrintLast Go.Proofs.YtpkghpljgjlmjaaW.PrintMore
set_option linter.unusedVariables false

/-- slices.Clone at []byte: a new row with the same bytes (nil for nil). -/
def slices_Clone_byte_byte.f (l0 : List Int) : Option (List Int) := if l0.length ≤ 140737488351232 then some l0 else none
set_option maxRecDepth 100000 in
set_option maxHeartbeats 400000 in
theorem slices_Clone_byte_byte.calls (A0 : Option Addr) (c0 : Nat) (l0 : List Int) (r : List Int) (w : World) (hr0 : Kd.C (Kd.int .u8) w A0 l0.length l0) (hc0 : l0.length ≤ c0) (h : slices_Clone_byte_byte.f l0 = some r) :
    Calls Try.prog 63 #[.slice A0 l0.length c0] w fun e w' => ∃ v0_ : Value, e = .returned (v0_) ∧ Kd.R (Kd.int .u8) 5 w' w.heap.size (fun _ => True) v0_ r ∧ Below w.heap.size w w' := by
  unfold slices_Clone_byte_byte.f at h
  split at h
  · rename_i hlen
    obtain rfl := Option.some.inj h
    clear h
    have HB := Aside0.mk (Below.refl w.heap.size w)
    have HL := Aside0.mk hlen
    clear hlen
    cases A0 with
    | none =>
      have h0 : l0 = [] := by
        rcases hr0 with ⟨_, _, h3⟩
        cases l0 with
        | nil => rfl
        | cons x l => obtain ⟨ad, e, _⟩ := h3 (by simp); cases e
      subst h0
      clear hr0
      have heq := fun W => Lib.run_eql_slice_nil (P := Try.prog) W 34 5 none 0 c0 0 0 Try.underlying34
      go_enter Try.func63, Try.ntmps63
      go_wp2
      go_ret
      exact ⟨_, rfl, Kd.R_nil _ _ _ _ _, HB.out⟩
    | some ad =>
      have heq := fun W => Lib.run_eql_slice_nil (P := Try.prog) W 34 5 (some ad) l0.length c0 0 0 Try.underlying34
      have HR0 := Aside0.mk hr0
      clear hr0
      go_enter Try.func63, Try.ntmps63
      go_wp2_with (first | ((with_reducible refine gate_dst (N := 5) rfl ?_); refine Kd.R_lit (Kd.int .u8) (w0 := w) w.heap.size 5 rfl (N := 5) rfl (xs := ([] : List Int)) (inner := []) (ok := fun _ => True) (okp := fun _ => False) ?hrun (Reps.none _ _) (fun _ _ => trivial) trivial HB.out (Nat.le_refl _) (by simp) ?_; (case hrun => first | (go_simp; done) | (go_simp; rfl)); intro v1 w1 hv1 hb1 hg1 hat1; have HV1 := Aside0.mk hv1; have HB1 := Aside0.mk hb1; clear hv1 hb1 hg1 hat1) | ((with_reducible refine gate_dst (N := 7) rfl ?_); refine Kd.R_append_row (Value.int .u8) (0 : Int) (h1 := fun _ => rfl) (w0 := w) w.heap.size rfl (.tmp 5) (.tmp 6) 34 5 (.int .u8 0) 1 rfl Try.underlying34 info5 rfl (by decide) v1 [] l0 (some ad) l0.length c0 (fun _ => True) rfl rfl (fun _ _ => trivial) HV1.out (Kd.C_below HR0.out HB1.out) HB1.out HB1.out.size ?hl ?_; (case hl => have := HL.out; simp only [List.length_nil]; omega); intro v2 w2 hv2 hb2 hg2 hat2; have HV2 := Aside0.mk hv2; have HB2 := Aside0.mk hb2; clear hv2 hb2 hg2 hat2))
      go_ret
      exact ⟨_, rfl, HV2.out, HB2.out⟩
  · cases h
end Go.Proofs.Ytpkghpljgjlmjaa.K
/- The field of 256 elements on bytes: the product bit by bit, its laws, inverses. No program in sight. -/
namespace Kin

abbrev B := UInt8
/-- 2 times a. -/
def gdbl (a : B) : B := if 128 ≤ a then (a <<< 1) ^^^ 0x1d else a <<< 1
def gbit (b : B) (i : Nat) : Bool := b.toNat.testBit i
/-- The part of a product that the bits of b from i on give, a already doubled i times; n of them. -/
def gmulFrom : Nat → Nat → B → B → B
  | 0, _, _, _ => 0
  | n + 1, i, a, b => (if gbit b i then a else 0) ^^^ gmulFrom n (i + 1) (gdbl a) b
def gmul (a b : B) : B := gmulFrom 8 0 a b
theorem bx_comm (a b : B) : a ^^^ b = b ^^^ a := UInt8.xor_comm a b
theorem bx_assoc (a b c : B) : a ^^^ b ^^^ c = a ^^^ (b ^^^ c) := UInt8.xor_assoc a b c
theorem zero_bx (a : B) : 0 ^^^ a = a := UInt8.zero_xor
theorem bx_self (a : B) : a ^^^ a = 0 := UInt8.xor_self
theorem bx_left_comm (a b c : B) : a ^^^ (b ^^^ c) = b ^^^ (a ^^^ c) := by rw [← bx_assoc, bx_comm a b, bx_assoc]
theorem bx_swap4 (a b c d : B) : (a ^^^ b) ^^^ (c ^^^ d) = (a ^^^ c) ^^^ (b ^^^ d) := by
  rw [bx_assoc, bx_assoc, bx_left_comm b c d]
theorem all_bytes {p : B → Prop} [DecidablePred p] (h : ∀ n : Fin 256, p (UInt8.ofNat n.val)) : ∀ a, p a := by
  intro a
  have := h ⟨a.toNat, a.toNat_lt⟩
  simpa using this
/-- A function that keeps sums. -/
def Additive (f : B → B) : Prop := ∀ a b, f (a ^^^ b) = f a ^^^ f b
theorem Additive.zero {f : B → B} (h : Additive f) : f 0 = 0 := by
  have := h 0 0
  rw [bx_self] at this
  rw [this, bx_self]
theorem byte_bits : ∀ a : B, a = (if gbit a 0 then 1 else 0) ^^^ ((if gbit a 1 then 2 else 0) ^^^ ((if gbit a 2 then 4 else 0) ^^^ ((if gbit a 3 then 8 else 0) ^^^ ((if gbit a 4 then 16 else 0) ^^^ ((if gbit a 5 then 32 else 0) ^^^ ((if gbit a 6 then 64 else 0) ^^^ (if gbit a 7 then 128 else 0))))))) :=
  all_bytes (by decide +kernel)
theorem Additive.ite {f : B → B} (h : Additive f) (c : Bool) (x : B) : f (if c then x else 0) = if c then f x else 0 := by
  cases c
  · exact h.zero
  · rfl
theorem Additive.ext {f g : B → B} (hf : Additive f) (hg : Additive g) (h : ∀ i : Fin 8, f (1 <<< UInt8.ofNat i.val) = g (1 <<< UInt8.ofNat i.val)) : ∀ a, f a = g a := by
  intro a
  have h0 : f 1 = g 1 := h 0
  have h1 : f 2 = g 2 := h 1
  have h2 : f 4 = g 4 := h 2
  have h3 : f 8 = g 8 := h 3
  have h4 : f 16 = g 16 := h 4
  have h5 : f 32 = g 32 := h 5
  have h6 : f 64 = g 64 := h 6
  have h7 : f 128 = g 128 := h 7
  rw [byte_bits a]
  simp only [hf _ _, hg _ _, hf.ite, hg.ite, h0, h1, h2, h3, h4, h5, h6, h7]
theorem gbit_xor (a b : B) (i : Nat) : gbit (a ^^^ b) i = (gbit a i ^^ gbit b i) := by
  simp [gbit, UInt8.toNat_xor, Nat.testBit_xor]
theorem ite_xor (x y : Bool) (a : B) : (if (x ^^ y) then a else 0) = (if x then a else 0) ^^^ (if y then a else 0) := by
  cases x <;> cases y <;> simp
theorem gmulFrom_add_right (n : Nat) : ∀ (i : Nat) (a b c : B), gmulFrom n i a (b ^^^ c) = gmulFrom n i a b ^^^ gmulFrom n i a c := by
  induction n with
  | zero => intro i a b c; simp [gmulFrom]
  | succ n ih =>
    intro i a b c
    simp only [gmulFrom, ih, gbit_xor, ite_xor]
    rw [bx_swap4]
theorem gmul_add_right (a b c : B) : gmul a (b ^^^ c) = gmul a b ^^^ gmul a c := gmulFrom_add_right 8 0 a b c
theorem gdbl_eq (a : B) : gdbl a = (a <<< 1) ^^^ (if gbit a 7 then 0x1d else 0) := by
  revert a
  exact all_bytes (by decide +kernel)
theorem shl_xor (a b : B) : (a ^^^ b) <<< 1 = (a <<< 1) ^^^ (b <<< 1) := by
  exact UInt8.shiftLeft_xor
theorem gdbl_additive : Additive gdbl := by
  intro a b
  rw [gdbl_eq, gdbl_eq, gdbl_eq, gbit_xor, ite_xor, shl_xor, bx_swap4]
theorem gmulFrom_add_left (n : Nat) : ∀ (i : Nat) (a a' b : B), gmulFrom n i (a ^^^ a') b = gmulFrom n i a b ^^^ gmulFrom n i a' b := by
  induction n with
  | zero => intro i a b c; simp [gmulFrom]
  | succ n ih =>
    intro i a a' b
    have e : (if gbit b i then a ^^^ a' else 0) = (if gbit b i then a else 0) ^^^ (if gbit b i then a' else 0) := by
      cases gbit b i <;> simp
    simp only [gmulFrom, gdbl_additive a a', ih, e]
    rw [bx_swap4]
theorem gmul_add_left (a b c : B) : gmul (a ^^^ b) c = gmul a c ^^^ gmul b c := gmulFrom_add_left 8 0 a b c
theorem gmul_zero (a : B) : gmul a 0 = 0 := Additive.zero (f := fun b => gmul a b) (gmul_add_right a)
theorem zero_gmul (a : B) : gmul 0 a = 0 := Additive.zero (f := fun b => gmul b a) (fun x y => gmul_add_left x y a)
theorem gmul_one : ∀ a : B, gmul a 1 = a := all_bytes (by decide +kernel)
theorem gmul_comm (a b : B) : gmul a b = gmul b a := by
  revert b
  refine Additive.ext (f := fun b => gmul a b) (g := fun b => gmul b a) (gmul_add_right a) (fun x y => gmul_add_left x y a) ?_
  intro j
  revert a
  refine Additive.ext (f := fun a => gmul a (1 <<< UInt8.ofNat j.val)) (g := fun a => gmul (1 <<< UInt8.ofNat j.val) a) (fun x y => gmul_add_left x y _) (gmul_add_right _) ?_
  intro i
  revert i j
  decide +kernel
theorem one_gmul (a : B) : gmul 1 a = a := by rw [gmul_comm, gmul_one]
theorem gmul_assoc (a b c : B) : gmul (gmul a b) c = gmul a (gmul b c) := by
  revert c
  refine Additive.ext (f := fun c => gmul (gmul a b) c) (g := fun c => gmul a (gmul b c)) (gmul_add_right _) (fun x y => by simp only [gmul_add_right]) ?_
  intro k
  revert b
  refine Additive.ext (f := fun b => gmul (gmul a b) (1 <<< UInt8.ofNat k.val)) (g := fun b => gmul a (gmul b (1 <<< UInt8.ofNat k.val))) (fun x y => by simp only [gmul_add_right, gmul_add_left]) (fun x y => by simp only [gmul_add_right, gmul_add_left]) ?_
  intro j
  revert a
  refine Additive.ext (f := fun a => gmul (gmul a (1 <<< UInt8.ofNat j.val)) (1 <<< UInt8.ofNat k.val)) (g := fun a => gmul a (gmul (1 <<< UInt8.ofNat j.val) (1 <<< UInt8.ofNat k.val))) (fun x y => by simp only [gmul_add_left]) (fun x y => by simp only [gmul_add_left]) ?_
  intro i
  revert i j k
  decide +kernel
/-- Powers by squaring: the bits of n from the lowest on; f of them. -/
def graise : Nat → B → B → Nat → B
  | 0, out, _, _ => out
  | f + 1, out, a, n => if n = 0 then out else graise f (if n % 2 = 1 then gmul out a else out) (gmul a a) (n / 2)
def gpow (a : B) : Nat → B
  | 0 => 1
  | n + 1 => gmul (gpow a n) a
def ginv (a : B) : B := graise 8 1 a 254
theorem ginv_zero : ginv 0 = 0 := by decide +kernel
theorem gmul_ginv : ∀ a : B, a ≠ 0 → gmul a (ginv a) = 1 := all_bytes (by decide +kernel)
theorem ginv_gmul (a : B) (h : a ≠ 0) : gmul (ginv a) a = 1 := by rw [gmul_comm, gmul_ginv a h]
theorem ginv_ne_zero {a : B} (h : a ≠ 0) : ginv a ≠ 0 := by
  intro e
  have := gmul_ginv a h
  rw [e, gmul_zero] at this
  exact absurd this (by decide)
theorem gpow_add (a : B) (m n : Nat) : gpow a (m + n) = gmul (gpow a m) (gpow a n) := by
  induction n with
  | zero => rw [Nat.add_zero, gpow, gmul_one]
  | succ n ih => rw [← Nat.add_assoc, gpow, ih, gpow, gmul_assoc]
theorem gpow_sq (a : B) (n : Nat) : gpow (gmul a a) n = gpow a (2 * n) := by
  induction n with
  | zero => rfl
  | succ n ih => rw [gpow, ih, Nat.mul_succ, gpow_add a (2 * n) 2]; simp only [gpow, one_gmul]
theorem graise_eq (f : Nat) : ∀ (out a : B) (n : Nat), n < 2 ^ f → graise f out a n = gmul out (gpow a n) := by
  induction f with
  | zero => intro out a n h; obtain rfl : n = 0 := by omega
            rw [graise, gpow, gmul_one]
  | succ f ih =>
    intro out a n h
    rw [graise]
    split
    · next h0 => subst h0; rw [gpow, gmul_one]
    · rw [ih _ _ _ (by rw [Nat.pow_succ] at h; omega), gpow_sq]
      split
      · next h1 =>
        have : n = 1 + 2 * (n / 2) := by omega
        conv => rhs; rw [this, gpow_add]
        rw [gpow, gpow, one_gmul, gmul_assoc]
      · next h1 =>
        have : n = 2 * (n / 2) := by omega
        conv => rhs; rw [this]
theorem ginv_eq_gpow (a : B) : ginv a = gpow a 254 := by
  unfold ginv
  rw [graise_eq 8 1 a 254 (by decide), one_gmul]
end Kin
/- The printed functions of the field (Add, double, Mul, raise, Inv) compute what Gf.lean defines. -/
namespace Go.Proofs.Ytpkghpljgjlmjaa.K
open Go.RowKit Go.Proofs.YtpkghpljgjlmjaaW.PrintWords Kin
set_option linter.unusedVariables false

def b2i (x : B) : Int := (x.toNat : Int)
def up (l : List B) : List Int := l.map b2i
def up2 (m : List (List B)) : List (List Int) := m.map up
def isB (x : Int) : Bool := decide (0 ≤ x) && decide (x < 256)
def toB (x : Int) : B := UInt8.ofNat x.toNat
theorem b2i_nonneg (x : B) : 0 ≤ b2i x := Int.natCast_nonneg _
theorem b2i_lt (x : B) : b2i x < 256 := by have := x.toNat_lt; unfold b2i; omega
theorem b2i_inj {x y : B} (h : b2i x = b2i y) : x = y := UInt8.toNat_inj.1 (by unfold b2i at h; omega)
theorem b2i_eq {x y : B} : b2i x = b2i y ↔ x = y := ⟨b2i_inj, fun h => by rw [h]⟩
theorem b2i_zero : b2i 0 = 0 := rfl
theorem toNat_b2i (x : B) : (b2i x).toNat = x.toNat := by simp [b2i]
theorem toB_b2i (x : B) : toB (b2i x) = x := by simp [toB, b2i]
theorem b2i_toB {x : Int} (h : isB x = true) : b2i (toB x) = x := by
  simp only [isB, Bool.and_eq_true, decide_eq_true_eq] at h
  obtain ⟨n, rfl⟩ := Int.eq_ofNat_of_zero_le h.1
  have : n < 256 := by omega
  simp [toB, b2i, Nat.mod_eq_of_lt this]
theorem isB_b2i (x : B) : isB (b2i x) = true := by
  have h1 := b2i_nonneg x
  have h2 := b2i_lt x
  simp [isB, h1, h2]
theorem b2i_eq_zero {x : B} : b2i x = 0 ↔ x = 0 := by rw [← b2i_zero, b2i_eq]
theorem up_length (l : List B) : (up l).length = l.length := by simp [up]
theorem up2_length (l : List (List B)) : (up2 l).length = l.length := by simp [up2]
theorem up_cons (x : B) (l : List B) : up (x :: l) = b2i x :: up l := rfl
theorem up2_cons (x : List B) (l : List (List B)) : up2 (x :: l) = up x :: up2 l := rfl
theorem up_append (a b : List B) : up (a ++ b) = up a ++ up b := by simp [up]
theorem exists_up {l : List Int} (h : ∀ x ∈ l, isB x = true) : ∃ m : List B, l = up m := by
  induction l with
  | nil => exact ⟨[], rfl⟩
  | cons x l ih =>
    obtain ⟨m, rfl⟩ := ih (fun y hy => h y (List.mem_cons_of_mem _ hy))
    exact ⟨toB x :: m, by rw [up_cons, b2i_toB (h x List.mem_cons_self)]⟩
theorem isB_of_wf {x : Int} (h : (Lit.int .u8 x).wf = true) : isB x = true := by
  have : 0 ≤ x ∧ x ≤ 255 := by
    simp [Lit.wf, IntKind.min, IntKind.max, IntKind.signed, IntKind.bits] at h
    omega
  simp [isB]; omega
theorem rd_up (l : List B) (i : Int) : rd (up l) i = b2i (l.getD i.toNat 0) := by
  unfold rd up
  rw [List.getD_eq_getElem?_getD, List.getElem?_map, List.getD_eq_getElem?_getD]
  cases l[i.toNat]? <;> rfl
theorem set_up (l : List B) (i : Nat) (x : B) : (up l).set i (b2i x) = up (l.set i x) := by simp [up, List.map_set]
theorem set_up2 (l : List (List B)) (i : Nat) (x : List B) : (up2 l).set i (up x) = up2 (l.set i x) := by simp [up2, List.map_set]
theorem up_replicate (n : Nat) (x : B) : List.replicate n (b2i x) = up (List.replicate n x) := by simp [up]
theorem up_zeros (n : Nat) : List.replicate n (0 : Int) = up (List.replicate n 0) := by rw [← up_replicate]; rfl
theorem up2_replicate (n : Nat) (x : List B) : List.replicate n (up x) = up2 (List.replicate n x) := by simp [up2]
/-! the field's functions -/
theorem xor_b2i (a b : B) : Go.bits .xor .u8 (b2i a) (b2i b) = b2i (a ^^^ b) := by
  unfold b2i
  rw [u8_xor_nat _ _ a.toNat_lt b.toNat_lt, UInt8.toNat_xor]
theorem add_b (a b : B) : gf256_Add.f (b2i a) (b2i b) = some (b2i (a ^^^ b)) := by rw [gf256_Add.f, xor_b2i]
theorem double_b (a : B) : gf256_double.f (b2i a) = some (b2i (gdbl a)) := by
  revert a
  exact all_bytes (by decide +kernel)
def gmulN : Nat → B → Nat → B
  | 0, _, _ => 0
  | n + 1, a, m => (if m % 2 = 1 then a else 0) ^^^ gmulN n (gdbl a) (m / 2)
theorem gmulFrom_eq (n : Nat) : ∀ (i : Nat) (a b : B), gmulFrom n i a b = gmulN n a (b.toNat / 2 ^ i) := by
  induction n with
  | zero => intro i a b; rfl
  | succ n ih =>
    intro i a b
    rw [gmulFrom, gmulN, ih, Nat.div_div_eq_div_mul, ← Nat.pow_succ]
    congr 1
    simp [gbit, Nat.testBit_eq_decide_div_mod_eq]
theorem gmul_eq (a b : B) : gmul a b = gmulN 8 a b.toNat := by rw [gmul, gmulFrom_eq, Nat.pow_zero, Nat.div_one]
theorem gmulN_zero (n : Nat) : ∀ a, gmulN n a 0 = 0 := by
  induction n with
  | zero => intro a; rfl
  | succ n ih => intro a; simp [gmulN, ih]
theorem and_one (k : IntKind) (m : Nat) (h : Go.bits .and k (m : Int) 1 = ((m &&& 1 : Nat) : Int)) : (Go.bits .and k (m : Int) 1 = 1) ↔ m % 2 = 1 := by
  rw [h, Nat.and_one_is_mod]
  omega
theorem mul_l0 (n : Nat) : ∀ (k : Nat) (a out : B) (m : Nat), m < 2 ^ n → m < 256 → n < k → gf256_Mul.l0 k (b2i a) (m : Int) (b2i out) = some (b2i (out ^^^ gmulN n a m)) := by
  induction n with
  | zero =>
    intro k a out m hm _ hk
    obtain ⟨k, rfl⟩ : ∃ j, k = j + 1 := ⟨k - 1, by omega⟩
    have h0 : m = 0 := by omega
    subst h0
    simp [gf256_Mul.l0, gmulN]
  | succ n ih =>
    intro k a out m hm h256 hk
    obtain ⟨k, rfl⟩ : ∃ j, k = j + 1 := ⟨k - 1, by omega⟩
    by_cases h0 : m = 0
    · subst h0
      simp [gf256_Mul.l0, gmulN_zero]
    · have hd : ((m : Int) / 2) = ((m / 2 : Nat) : Int) := by omega
      simp only [gf256_Mul.l0]
      rw [if_pos (by omega)]
      have hand := and_one .u8 m (by have := u8_and_nat m 1 h256 (by decide); exact_mod_cast this)
      by_cases h1 : m % 2 = 1
      · rw [if_pos (hand.2 h1), add_b, double_b]
        simp only [Option.bind_some]
        rw [hd, ih _ _ _ _ (by rw [Nat.pow_succ] at hm; omega) (by omega) (by omega)]
        simp only [gmulN, if_pos h1, bx_assoc]
      · rw [if_neg (fun h => h1 (hand.1 h)), double_b]
        simp only [Option.bind_some]
        rw [hd, ih _ _ _ _ (by rw [Nat.pow_succ] at hm; omega) (by omega) (by omega)]
        simp only [gmulN, if_neg h1, zero_bx]
theorem mul_b (a b : B) {k : Nat} (hk : 9 ≤ k) : gf256_Mul.f k (b2i a) (b2i b) = some (b2i (gmul a b)) := by
  have := mul_l0 8 k a 0 b.toNat b.toNat_lt b.toNat_lt (by omega)
  rw [gf256_Mul.f, gmul_eq]
  rw [zero_bx] at this
  exact this
theorem i64_and1 (n : Nat) : Go.bits .and .i64 (n : Int) 1 = ((n &&& 1 : Nat) : Int) := by
  have h1 : (BitVec.ofInt 64 1).toNat = 2 ^ 1 - 1 := by decide
  have key : (BitVec.ofInt 64 (n : Int) &&& BitVec.ofInt 64 1).toNat = ((n : Int) % ((2 ^ 64 : Nat) : Int)).toNat % 2 ^ 1 := by
    rw [BitVec.toNat_and, BitVec.toNat_ofInt, h1, Nat.and_two_pow_sub_one_eq_mod]
  rw [Nat.and_one_is_mod]
  show IntKind.i64.wrap ((BitVec.ofInt 64 (n : Int) &&& BitVec.ofInt 64 1).toNat : Nat) = _
  rw [key, IntKind.wrap_i64]
  omega
theorem raise_l0 (f : Nat) : ∀ (k : Nat) (a out : B) (n : Nat), n < 2 ^ f → n < 9223372036854775808 → f + 10 ≤ k → gf256_raise.l0 k (b2i a) (n : Int) (b2i out) = some (b2i (gmul out (gpow a n))) := by
  induction f with
  | zero =>
    intro k a out n hn _ hk
    obtain ⟨k, rfl⟩ : ∃ j, k = j + 1 := ⟨k - 1, by omega⟩
    have h0 : n = 0 := by omega
    subst h0
    simp [gf256_raise.l0, gpow, gmul_one]
  | succ f ih =>
    intro k a out n hn h63 hk
    obtain ⟨k, rfl⟩ : ∃ j, k = j + 1 := ⟨k - 1, by omega⟩
    by_cases h0 : n = 0
    · subst h0
      simp [gf256_raise.l0, gpow, gmul_one]
    · have hd : ((n : Int) / 2) = ((n / 2 : Nat) : Int) := by omega
      simp only [gf256_raise.l0]
      rw [if_pos (by omega)]
      have hand := and_one .i64 n (i64_and1 n)
      by_cases h1 : n % 2 = 1
      · rw [if_pos (hand.2 h1), mul_b _ _ (by omega), mul_b _ _ (by omega)]
        simp only [Option.bind_some]
        rw [hd, ih _ _ _ _ (by rw [Nat.pow_succ] at hn; omega) (by omega) (by omega), gpow_sq, gmul_assoc]
        congr 3
        have : n = 1 + 2 * (n / 2) := by omega
        conv => rhs; rw [this, gpow_add]
        rw [gpow, gpow, one_gmul]
      · rw [if_neg (fun h => h1 (hand.1 h)), mul_b _ _ (by omega)]
        simp only [Option.bind_some]
        rw [hd, ih _ _ _ _ (by rw [Nat.pow_succ] at hn; omega) (by omega) (by omega), gpow_sq]
        congr 3
        have : n = 2 * (n / 2) := by omega
        conv => rhs; rw [this]
theorem raise_b (a : B) (n : Nat) (hn : n < 256) {k : Nat} (hk : 18 ≤ k) : gf256_raise.f k (b2i a) (n : Int) = some (b2i (gpow a n)) := by
  rw [gf256_raise.f, show (1 : Int) = b2i 1 from rfl, raise_l0 8 k a 1 n hn (by omega) (by omega), one_gmul]
theorem inv_b (a : B) {k : Nat} (hk : 18 ≤ k) : gf256_Inv.f k (b2i a) = some (b2i (ginv a), if a = 0 then 1 else 0) := by
  rw [gf256_Inv.f]
  by_cases h : a = 0
  · subst h
    rw [if_pos b2i_zero, if_pos rfl, ginv_zero]
    rfl
  · rw [if_neg (fun e => h (b2i_eq_zero.1 e)), if_neg h]
    have := raise_b a 254 (by decide) hk
    rw [show ((254 : Nat) : Int) = 254 from rfl] at this
    rw [this, ginv_eq_gpow]
    rfl
end Go.Proofs.Ytpkghpljgjlmjaa.K
/- gf256.by and gf256.Scale: products of all bytes of a slice by one byte. -/
namespace Go.Proofs.Ytpkghpljgjlmjaa.K
open Go.RowKit Go.Proofs.YtpkghpljgjlmjaaW.PrintWords Go.Proofs.YtpkghpljgjlmjaaW.PrintLast Go.Proofs.YtpkghpljgjlmjaaW.PrintMore Kin
set_option linter.unusedVariables false

/-- The table that gf256.by makes: block g holds the products by c. -/
def IsTab (w : World) (g : Nat) (c : B) : Prop := ∀ x : B, w.cell? ⟨g, x.toNat, none⟩ = some (.int .u8 (b2i (gmul x c)))
theorem IsTab.below {w w1 : World} {g : Nat} {c : B} (h : IsTab w g c) (hb : Below w.heap.size w w1) : IsTab w1 g c := fun x => pw_cell_below hb (h x)
set_option maxRecDepth 100000 in
set_option maxHeartbeats 400000 in
theorem by1_calls (g : Nat) (c x : B) (w : World) (ht : IsTab w g c) :
    Calls Try.prog 117 #[.int .u8 (b2i x), .pointer (some ⟨g, 0, none⟩)] w fun e w' => e = .returned (.int .u8 (b2i (gmul x c))) ∧ w = w' := by
  have hx := ht x
  have h0 := b2i_nonneg x
  have h1 := b2i_lt x
  have h2 := toNat_b2i x
  generalize b2i (gmul x c) = y at hx ⊢
  generalize hbx : b2i x = bx at h0 h1 h2 ⊢
  rw [← h2] at hx
  clear h2 hbx ht
  go_enter Try.func117, Try.ntmps117
  go_wp2
  go_ret
  exact ⟨rfl, rfl⟩
set_option maxRecDepth 100000 in
set_option maxHeartbeats 400000 in
theorem by_calls (c : B) (w : World) :
    Calls Try.prog 105 #[.int .u8 (b2i c)] w fun e w' => ∃ g, e = .returned (.func (Fn.func 117) #[] #[.pointer (some ⟨g, 0, none⟩)]) ∧ w.heap.size ≤ g ∧ IsTab w' g c ∧ Below w.heap.size w w' := by
  have hmf : ∀ (fn : Fn) (first cap : Array Value) (w : World), (Instr.makeFunc fn first cap).run Try.prog w = .ok (.func fn first cap) w := fun _ _ _ _ => rfl
  go_enter Try.func105, Try.ntmps105
  go_wp2
  go_loopw [5] (fun v5 wr => ∃ (k : Nat) (cs : Array Value), k ≤ 256 ∧ v5 = .int .i64 (k : Int) ∧ Aside0 (wr.heap[w.heap.size]? = some (.cells cs 129 (0, 0)) ∧ cs.size = 256 ∧ (∀ x : B, x.toNat < k → cs[x.toNat]? = some (.int .u8 (b2i (gmul x c)))) ∧ Below w.heap.size w wr)) (fun v5 _ => 256 - (intOf v5).toNat)
  case atStart => exact ⟨0, Try.zeroCells129, by omega, rfl, ⟨blk_new w _, by kernel_rfl, fun x hx => absurd hx (by omega), below_alloc (Below.refl _ _) _⟩⟩
  case round =>
    obtain ⟨k, cs, hk, rfl, HA⟩ := hrel
    by_cases hlt : k < 256
    · have hm : gf256_Mul.f 9 (k : Int) (b2i c) = some (b2i (gmul (UInt8.ofNat k) c)) := by
        have := mul_b (UInt8.ofNat k) c (k := 9) (by omega)
        rw [show b2i (UInt8.ofNat k) = (k : Int) by simp [b2i, Nat.mod_eq_of_lt hlt]] at this
        exact this
      have HM := Aside0.mk hm
      clear hm
      obtain ⟨hb, hs, hc, hB⟩ := HA.out
      have hcell : wr.cell? ⟨w.heap.size, k, none⟩ = some (cs[k]'(by omega)) := by rw [blk_cell hb, Array.getElem?_eq_getElem (by omega)]
      have hfr : wr.frozen? ⟨w.heap.size, k, none⟩ = false := blk_frozen hb k
      generalize cs[k]'(by omega) = old at hcell
      clear hb hs hc hB
      go_wp2_with (go_at_call 68; (with_reducible refine (gf256_Mul.calls 9 _ _ _ _ HM.out).mono ?_); rintro e w' ⟨rfl, ⟨nd, rfl⟩⟩)
      obtain ⟨hb, hs, hc, hB⟩ := HA.out
      go_roundw
      case rel =>
        refine ⟨k + 1, cs.setIfInBounds k (.int .u8 (b2i (gmul (UInt8.ofNat k) c))), by omega, by go_num, ⟨blk_set (w := wr.drewN nd) hb k _, by simpa using hs, fun x hx => ?_, (pw_below_drewN hB nd).setCell (Nat.le_refl _) _⟩⟩
        by_cases hxk : x.toNat = k
        · have hx2 : UInt8.ofNat k = x := by rw [← hxk]; simp
          rw [hxk, hx2, Array.getElem?_setIfInBounds_self_of_lt (by omega)]
        · rw [Array.getElem?_setIfInBounds_ne (by omega)]
          exact hc x (by omega)
      case measure => simp [intOf]; omega
    · obtain rfl : k = 256 := by omega
      obtain ⟨hb, hs, hc, hB⟩ := HA.out
      go_wp2
      go_ret
      exact ⟨w.heap.size, rfl, Nat.le_refl _, fun x => by rw [blk_cell hb]; exact hc x x.toNat_lt, hB⟩
theorem IsTab.set {w : World} {g : Nat} {c : B} (h : IsTab w g c) {p : Addr} (hne : g ≠ p.block) (v : Value) : IsTab (w.setCell p v) g c :=
  fun x => (World.cell?_of_block (a := ⟨g, x.toNat, none⟩) (Below.heap_setCell w p v g hne)).trans (h x)
theorem IsTab.lt {w : World} {g : Nat} {c : B} (h : IsTab w g c) : g < w.heap.size := World.block_lt_of_cell? w _ (h 0)
theorem IsTab.grown {w w1 : World} {g : Nat} {c : B} (h : IsTab w g c) {row : Option Nat} (hg : w.grownBy w1 row) (hne : some g ≠ row) : IsTab w1 g c := fun x => hg.cell (h x) hne
/-- gf256.Scale: all bytes by one; of bytes, not too many. -/
def gf256_Scale.f (l0 : List Int) (a1 : Int) : Option (List Int) :=
  if (l0.all isB && isB a1) && decide (l0.length ≤ 140737488351232) then some (l0.map fun x => b2i (gmul (toB x) (toB a1))) else none
theorem scale_up (l : List B) (c : B) (h : l.length ≤ 140737488351232) : gf256_Scale.f (up l) (b2i c) = some (up (l.map fun x => gmul x c)) := by
  have h1 : (up l).all isB = true := by simp [up, isB_b2i]
  rw [gf256_Scale.f, if_pos (by simp [h1, isB_b2i, up_length, h])]
  simp [up, toB_b2i]
/-- What the loop has made after k rounds. -/
def scaled (m : List B) (c : B) (k : Nat) : List B := (m.take k).map (fun x => gmul x c) ++ List.replicate (m.length - k) 0
theorem scaled_zero (m : List B) (c : B) : scaled m c 0 = List.replicate m.length 0 := by simp [scaled]
theorem scaled_all (m : List B) (c : B) : scaled m c m.length = m.map fun x => gmul x c := by simp [scaled]
theorem scaled_length (m : List B) (c : B) (k : Nat) (hk : k ≤ m.length) : (scaled m c k).length = m.length := by simp [scaled]; omega
theorem scaled_succ (m : List B) (c : B) (k : Nat) (hk : k < m.length) : (scaled m c k).set k (gmul (m.getD k 0) c) = scaled m c (k + 1) := by
  unfold scaled
  have h1 : ((m.take k).map fun x => gmul x c).length = k := by simp; omega
  rw [List.set_append_right _ _ (by omega), h1, Nat.sub_self, show m.length - k = (m.length - (k + 1)) + 1 by omega, List.replicate_succ, List.set_cons_zero,
    List.take_succ_eq_append_getElem hk, List.map_append, List.append_assoc]
  simp [List.getD_eq_getElem?_getD, List.getElem?_eq_getElem hk]
set_option maxRecDepth 100000 in
set_option maxHeartbeats 1000000 in
theorem scale_calls (A0 : Option Addr) (c0 : Nat) (m : List B) (c : B) (w : World) (hr0 : Kd.C (Kd.int .u8) w A0 m.length (up m)) (hlen : m.length ≤ 140737488351232) :
    Calls Try.prog 88 #[.slice A0 m.length c0, .int .u8 (b2i c)] w fun e w' => ∃ v0_ : Value, e = .returned (v0_) ∧ Kd.R (Kd.int .u8) 5 w' w.heap.size (fun _ => True) v0_ (up (m.map fun x => gmul x c)) ∧ Below w.heap.size w w' := by
  have HR0 := Aside0.mk hr0
  have HL := Aside0.mk hlen
  clear hr0
  go_enter Try.func88, Try.ntmps88
  go_wp2_with (first | (go_at_call 105; (with_reducible refine (by_calls c _).mono ?_); rintro e w1 ⟨gt, rfl, hgt, ht, hb⟩; have HT := Aside0.mk ht; have HB := Aside0.mk hb; clear ht hb) | ((with_reducible refine gate_dst (N := 13) rfl ?_); refine Kd.R_make (Kd.int .u8) (w0 := w) w.heap.size 5 rfl (N := 13) rfl 34 _ _ rfl (m.length : Int) rfl rfl Try.underlying34 (.int .u8 0) 1 info5 rfl (by decide) (by omega) 0 (ok := fun k => w1.heap.size ≤ k) (okp := fun _ => False) rfl (fun _ hk => hk.elim) (Nat.le_refl _) (by omega) (by have := HL.out; omega) HB.out HB.out.size ?_; intro v2 w2 hv2 hb2 hg2 hat2; have HV := Aside0.mk hv2; have HB2 := Aside0.mk hb2; have HT2 := Aside0.mk (HT.out.grown hg2 (by simp)); have HLT := Aside0.mk HT.out.lt; clear hv2 hb2 hg2 hat2))
  obtain ⟨Av, cv, ev⟩ := Kd.R_slice HV.out
  rw [List.length_replicate, Int.toNat_natCast] at ev
  subst ev
  rw [Int.toNat_natCast] at HV
  go_loopw [16] (fun v16 wr => ∃ (k : Nat), k ≤ m.length ∧ v16 = .int .i64 (k : Int) ∧ Aside0 (Kd.R (Kd.int .u8) 5 wr w.heap.size (fun k => w1.heap.size ≤ k) (.slice Av m.length cv) (up (scaled m c k)) ∧ IsTab wr gt c ∧ Below w.heap.size w wr)) (fun v16 _ => m.length - (intOf v16).toNat)
  case atStart => exact ⟨0, by omega, rfl, ⟨by rw [scaled_zero, ← up_zeros]; exact HV.out, HT2.out, HB2.out⟩⟩
  case round =>
    obtain ⟨k, hk, rfl, HA⟩ := hrel
    by_cases hlt : k < m.length
    · obtain ⟨hv, ht, hB⟩ := HA.out
      obtain ⟨ad, e, hx⟩ := Kd.at_int HR0.out (k : Int) (by omega) (by omega)
      subst e
      rw [Int.toNat_natCast, rd_up, Int.toNat_natCast] at hx
      replace hx := (hB.cell (World.block_lt_of_cell? w _ hx)).trans hx
      obtain ⟨g, cap, ev, hg1, hg2, _⟩ := Kd.R_form hv (by rw [up_length, scaled_length m c k hk]; omega)
      injection ev with ea en ec
      clear en ec
      subst ea
      obtain ⟨hcell, hfr⟩ := Kd.R_celln 0 hv (k : Int) (by omega) (by omega)
      rw [Int.toNat_natCast] at hcell hfr
      generalize Value.int .u8 (rdOf 0 (up (scaled m c k)) ↑k) = old at hcell
      generalize hy : m.getD k 0 = y at hx
      have HY := Aside0.mk hy
      have HT3 := Aside0.mk ht
      clear hv ht hB hy
      go_wp2_with (go_at_call 117; (with_reducible refine (by1_calls gt c y _ HT3.out).mono ?_); rintro e w' ⟨rfl, rfl⟩)
      obtain ⟨hv, ht, hB⟩ := HA.out
      go_roundw
      case rel =>
        have hp := Kd.R_putn hv (k : Int) (b2i (gmul y c))
        rw [Int.toNat_natCast, set_up, ← HY.out, scaled_succ m c k hlt, HY.out] at hp
        have hgt : gt ≠ g := by have := HLT.out; have := hv.1 g rfl; omega
        exact ⟨k + 1, by omega, by go_num, ⟨hp, ht.set hgt _, hB.setCell hg1 _⟩⟩
      case measure => simp [intOf]; omega
    · obtain rfl : k = m.length := by omega
      obtain ⟨hv, ht, hB⟩ := HA.out
      rw [scaled_all] at hv
      have HV3 := Aside0.mk hv
      clear hv ht
      go_wp2
      go_ret
      exact ⟨_, rfl, Kd.R_mono HV3.out (fun _ _ => trivial), hB⟩
theorem gf256_Scale.calls (A0 : Option Addr) (c0 : Nat) (l0 : List Int) (a1 : Int) (r : List Int) (w : World) (hr0 : Kd.C (Kd.int .u8) w A0 l0.length l0) (hc0 : l0.length ≤ c0) (h : gf256_Scale.f l0 a1 = some r) :
    Calls Try.prog 88 #[.slice A0 l0.length c0, .int .u8 a1] w fun e w' => ∃ v0_ : Value, e = .returned (v0_) ∧ Kd.R (Kd.int .u8) 5 w' w.heap.size (fun _ => True) v0_ r ∧ Below w.heap.size w w' := by
  unfold gf256_Scale.f at h
  split at h
  · rename_i hc
    simp only [Bool.and_eq_true, List.all_eq_true, decide_eq_true_eq] at hc
    obtain ⟨m, rfl⟩ := exists_up hc.1.1
    obtain rfl := Option.some.inj h
    have h1 := scale_calls A0 c0 m (toB a1) w (by rw [up_length] at hr0; exact hr0) (by have := hc.2; rw [up_length] at this; exact this)
    rw [b2i_toB hc.1.2] at h1
    rw [up_length]
    have e : (up m).map (fun x => b2i (gmul (toB x) (toB a1))) = up (m.map fun x => gmul x (toB a1)) := by simp [up, toB_b2i]
    rw [e]
    exact h1
  · cases h
end Go.Proofs.Ytpkghpljgjlmjaa.K
-- Lines of this claim, written by the session's own program kprint.py (it runs print.py).
namespace Go.Proofs.Ytpkghpljgjlmjaa.K
open Go.RowKit Go.Proofs.YtpkghpljgjlmjaaW.PrintWords Go.Proofs.YtpkghpljgjlmjaaW.PrintLast Go.Proofs.YtpkghpljgjlmjaaW.PrintMore
attribute [local go_sem] max2_int min2_int max_two min_two max_three min_three max_four min_four   -- for this text's walks alone
set_option linter.unusedVariables false
set_option linter.unusedSimpArgs false

/-! ### gf256_MulAdd: function 66 -/
def gf256_MulAdd.l0 : Nat → List Int → List Int → Int → Int → Option (List Int × Int)
  | 0, _, _, _, _ => none
  | k + 1, x8, x19, x20, x21 => if x21 < x20 then (if 0 ≤ x21 then (if x21 < (x19.length : Int) then (if x21 < (x8.length : Int) then ((gf256_Add.f (rd x8 x21) (rd x19 x21)).bind fun t106 => (gf256_MulAdd.l0 k (x8.set (x21 : Int).toNat t106) x19 x20 (wrap64 (x21 + 1)))) else (none)) else (none)) else (none)) else (some (x8, 0))
def gf256_MulAdd.f (k : Nat) (l0 : List Int) (l1 : List Int) (a2 : Int) : Option (List Int × Int) := if (l0.length : Int) = (l1.length : Int) then ((gf256_Scale.f l1 a2).bind fun t101 => (gf256_MulAdd.l0 k t101 l0 (l0.length : Int) 0)) else (some (([] : List Int), 1))
set_option maxHeartbeats 8000000 in
set_option maxRecDepth 100000 in
theorem gf256_MulAdd.calls (k : Nat) (A0 : Option Addr) (c0 : Nat) (l0 : List Int) (A1 : Option Addr) (c1 : Nat) (l1 : List Int) (a2 : Int) (r1 : List Int) (r2 : Int) (w : World) (hr0 : Kd.C (Kd.int .u8) w A0 l0.length l0) (hc0 : l0.length ≤ c0) (hr1 : Kd.C (Kd.int .u8) w A1 l1.length l1) (hc1 : l1.length ≤ c1) (h : gf256_MulAdd.f k l0 l1 a2 = some (r1, r2)) :
    Calls Try.prog 66 #[.slice A0 l0.length c0, .slice A1 l1.length c1, .int .u8 a2] w fun e w' => ∃ v0_ : Value, e = .returned (.tuple #[v0_, .int .i64 r2]) ∧ Kd.R (Kd.int .u8) 5 w' w.heap.size (fun _ => True) v0_ r1 ∧ Below w.heap.size w w' := by
  have HR0 := Aside0.mk hr0
  have HC0 := Aside0.mk hc0
  clear hr0 hc0
  have HR1 := Aside0.mk hr1
  have HC1 := Aside0.mk hc1
  clear hr1 hc1
  have HB := Aside0.mk (Below.refl w.heap.size w)
  have H : (if (l0.length : Int) = (l1.length : Int) then ((gf256_Scale.f l1 a2).bind fun t101 => (gf256_MulAdd.l0 k t101 l0 (l0.length : Int) 0)) else (some (([] : List Int), 1))) = some (r1, r2) := h
  clear h
  by_cases c4 : (l0.length : Int) = (l1.length : Int)
  · rw [if_pos c4] at H
    have c4b0 : ((l0.length : Int) == (l1.length : Int)) = true := beq_iff_eq.mpr c4
    have c4b1 : ((l0.length : Int) != (l1.length : Int)) = false := bne_eq_false_iff_eq.mpr c4
    have c4b2 : (l0.length == l1.length) = true := by first | simpa using c4 | (simp at c4 ⊢; omega)
    clear c4
    replace H := Option.bind_eq_some_iff.mp H
    obtain ⟨t101, A50, H⟩ := H
    replace H : (gf256_MulAdd.l0 k t101 l0 (l0.length : Int) 0) = some (r1, r2) := H
    have A5 := Aside0.mk A50
    clear A50
    have H' := Aside0.mk H
    clear H
    go_enter Try.func66, Try.ntmps66
    go_wp2_with (first | ((with_reducible refine gate_callee (f := 88) rfl ?_); refine goesL_ (some 18) rfl rfl Try.func88 (by kernel_rfl) rfl #[.slice A1 l1.length c1, .int .u8 a2] rfl (by (try simp only [List.map_toArray, List.map_cons, List.map_nil]); first | done | rfl | (simp only [List.length_drop, List.length_take]; rfl)) ?_; (with_reducible refine (gf256_Scale.calls _ _ l1 a2 t101 _ ?side1 ?side2 A5.out).mono ?_); (case side1 => repeat (first | exact HR1.out | (with_reducible refine Kd.C_alloc ?_ _) | (with_reducible refine Kd.C_drewN ?_ _) | (with_reducible refine Kd.C_drew ?_))); (case side2 => exact HC1.out); rintro e w6 ⟨v102, rfl, ho0, hb⟩; refine ⟨_, rfl, ?_⟩; have n0_ := Aside0.mk (Kd.R_lower ho0 (below_size (by repeat (first | (with_reducible first | exact HB.out | apply below_alloc | apply pw_below_drewN | apply below_drew1) | exact HB.out)))); have n1_ := Aside0.mk (below_step (by repeat (first | (with_reducible first | exact HB.out | apply below_alloc | apply pw_below_drewN | apply below_drew1) | exact HB.out)) hb); clear HB; have HO103 := n0_; have HB := n1_; clear n0_ n1_; (try clear hb); (try clear hb2); (try clear hk); (try clear hi); (try clear ho0)))
    go_loopg [21] k (fun kq v21 w' => ∃ (x8_1 : List Int) (x21_1 : Int), v21 = .int .i64 x21_1 ∧ Aside0 (gf256_MulAdd.l0 kq x8_1 l0 (l0.length : Int) x21_1 = some (r1, r2)) ∧ Aside0 (kq ≤ k) ∧ Aside0 (Kd.R (Kd.int .u8) 5 w' w.heap.size (fun _ => True) v102 x8_1) ∧ Aside0 (Below w.heap.size w w'))
    case atStart => exact ⟨(t101), (0), (by first | rfl | (simp; done) | (simp [*]; done)), H', ⟨Nat.le_refl _⟩, ⟨by (with_reducible repeat (first | apply Kd.R_alloc | apply Kd.R_drewN | apply Kd.R_drew)); exact HO103.out⟩, ⟨by repeat (first | (with_reducible first | exact HB.out | apply below_alloc | apply pw_below_drewN | apply below_drew1) | exact HB.out)⟩⟩
    case round =>
      clear H'
      try clear c1
      try clear p2
      try clear c4
      try clear c4b0
      try clear c4b1
      try clear c4b2
      try clear c6
      obtain ⟨x8_1, x21_1, rfl, HA, HK1, HO_8, HB⟩ := hrel
      cases gk with
      | zero => exact absurd HA.out (by simp [gf256_MulAdd.l0])
      | succ k1 =>
        have H := HA.out
        clear HA
        simp only [gf256_MulAdd.l0] at H
        by_cases c7 : x21_1 < (l0.length : Int)
        · rw [if_pos c7] at H
          have c7b0 : decide (x21_1 < (l0.length : Int)) = true := decide_eq_true c7
          clear c7
          by_cases c8 : 0 ≤ x21_1
          · rw [if_pos c8] at H
            have c8b0 : decide (0 ≤ x21_1) = true := decide_eq_true c8
            clear c8
            by_cases c9 : x21_1 < (l0.length : Int)
            · rw [if_pos c9] at H
              have c9b0 : decide (x21_1 < (l0.length : Int)) = true := decide_eq_true c9
              clear c9
              by_cases c10 : x21_1 < (x8_1.length : Int)
              · rw [if_pos c10] at H
                have c10b0 : decide (x21_1 < (x8_1.length : Int)) = true := decide_eq_true c10
                clear c10
                replace H := Option.bind_eq_some_iff.mp H
                obtain ⟨t106, A110, H⟩ := H
                replace H : (gf256_MulAdd.l0 k1 (x8_1.set (x21_1 : Int).toNat t106) l0 (l0.length : Int) (wrap64 (x21_1 + 1))) = some (r1, r2) := H
                have A11 := Aside0.mk A110
                clear A110
                obtain ⟨y107, hy107⟩ : ∃ y_ : List Int, y_ = (x8_1.set (x21_1 : Int).toNat t106) := ⟨_, rfl⟩
                replace H : (gf256_MulAdd.l0 k1 y107 l0 (l0.length : Int) (wrap64 (x21_1 + 1))) = some (r1, r2) := by first | (rw [hy107]; with_reducible exact H) | (have H2_ := (Option.bind_some _ _).symm.trans H; rw [hy107]; with_reducible exact H2_) | (have H2_ := (Option.bind_some _ _).symm.trans H; with_reducible exact H2_) | with_reducible exact H | (rw [hy107]; exact H) | exact H
                have Ny107 := Aside0.mk hy107
                clear hy107
                have H' := Aside0.mk H
                clear H
                have p104 : 0 ≤ (x21_1 : Int) := of_decide_eq_true (by first | (with_reducible assumption) | assumption)
                have q104 : x21_1 < (l0.length : Int) := of_decide_eq_true (by first | (with_reducible assumption) | assumption)
                obtain ⟨ad104, e104, hx104_0⟩ := Kd.at_int HR0.out x21_1 p104 q104
                cases e104
                replace hx104_0 := (HB.out.cell (World.block_lt_of_cell? w _ hx104_0)).trans hx104_0
                replace p104 := eq_true p104
                replace q104 := eq_true q104
                obtain ⟨Ao13, co13, eo13⟩ := Kd.R_slice HO_8.out
                subst eo13
                have p105 : 0 ≤ (x21_1 : Int) := of_decide_eq_true (by first | (with_reducible assumption) | assumption)
                have q105 : x21_1 < (x8_1.length : Int) := of_decide_eq_true (by first | (with_reducible assumption) | assumption)
                obtain ⟨ad105, e105, hx105_0⟩ := Kd.at_int (Kd.R_reads' HO_8.out).2.2 x21_1 p105 q105
                cases e105
                replace p105 := eq_true p105
                replace q105 := eq_true q105
                go_wp2_with (first | ((with_reducible refine gate_callee (f := 89) rfl ?_); refine goesL_ (some 33) rfl rfl Try.func89 (by kernel_rfl) rfl #[.int .u8 (rd x8_1 x21_1), .int .u8 (rd l0 x21_1)] rfl (by (try simp only [List.map_toArray, List.map_cons, List.map_nil]); first | done | rfl | (simp only [List.length_drop, List.length_take]; rfl)) ?_; (with_reducible refine (gf256_Add.calls (rd x8_1 x21_1) (rd l0 x21_1) t106 _ A11.out).mono ?_); rintro e w' ⟨rfl, ⟨nd, rfl⟩⟩; refine ⟨_, rfl, ?_⟩; (try (rw [drewN_self wr]; generalize hq_ : World.drewN wr _ = wr; have n0_ : Aside0 (Kd.R (Kd.int .u8) 5 wr w.heap.size (fun _ => True) (.slice (some ad105) x8_1.length co13) x8_1) := ⟨by rw [← hq_]; exact (by (with_reducible repeat (first | apply Kd.R_alloc | apply Kd.R_drewN | apply Kd.R_drew)); exact HO_8.out)⟩; have n1_ : Aside0 (Below w.heap.size w wr) := ⟨by rw [← hq_]; exact (by repeat (first | (with_reducible first | exact HB.out | apply below_alloc | apply pw_below_drewN | apply below_drew1) | exact HB.out))⟩; clear HO_8 HB hq_; have HO_8 := n0_; have HB := n1_; clear n0_ n1_)); have p12 : 0 ≤ (x21_1 : Int) := of_decide_eq_true (by first | (with_reducible assumption) | assumption); have q12 : (x21_1 : Int) < ((x8_1.length : Int) : Int) := of_decide_eq_true (by first | (with_reducible assumption) | assumption); obtain ⟨go12, co12, eo12, gb12, gl12, cl12, HG12⟩ := Kd.R_form HO_8.out (by omega); (first | cases eo12 | (injection eo12 with ea_ en_ ec_; (first | subst ea_ | (injection ea_ with ea_; subst ea_)); subst ec_; clear en_)); have GB12 := Aside0.mk gb12; have GG12 := Aside0.mk HG12; clear gb12 gl12 HG12; (first | simp only [add_plain] at hx105_0 | skip); obtain ⟨hx12_0, hf12_0⟩ := Kd.R_celln 0 HO_8.out (x21_1 : Int) p12 q12; replace p12 := eq_true p12; replace q12 := eq_true q12; obtain ⟨hy14_, hz14_⟩ := Kd.R_celln 0 HO_8.out (x21_1 : Int) (of_decide_eq_true (by first | (with_reducible assumption) | assumption)) (of_decide_eq_true (by first | (with_reducible assumption) | assumption)); have HP14 := Kd.R_putg HO_8.out (x21_1 : Int) t106) | ((with_reducible refine gate_store (t := 5) (p := 34) rfl ?_); refine store_event (t := 5) (p := 34) (v := ?vo_w15) (w1 := (wr.setCell ⟨go12, (x21_1 : Int).toNat, none⟩ (.int .u8 t106))) ?hg ?ho ?hn ?hr ?_; (case ho => rfl); (case hg => rfl); (case hn => rfl); (case hr => first | (go_simp; done) | (go_simp; rfl)); intro w15 hw; have hg : wr.grownBy w15 (some go12) := (by rw [hw]; exact HP14.2); have hp_ : Kd.R (Kd.int .u8) 5 w15 w.heap.size (fun _ => True) (.slice (some ⟨go12, 0, none⟩) x8_1.length co13) y107 := (by rw [hw, Ny107.out]; exact HP14.1); clear HP14; have n0_ := Aside0.mk (hp_); have n1_ := Aside0.mk ((by rw [hw]; exact below_set (HB.out) GB12.out : Below w.heap.size w w15)); clear HO_8; clear HB; have HO_8 := n0_; have HB := n1_; clear n0_ n1_; clear hg hw hp_))
                go_roundg k1
                case measure => have := HK1.out; omega
                case rel => exact ⟨(y107), (wrap64 (x21_1 + 1)), (by first | rfl | (simp; done) | (simp [*]; done)), H', ⟨by have := HK1.out; omega⟩, ⟨by (with_reducible repeat (first | apply Kd.R_alloc | apply Kd.R_drewN | apply Kd.R_drew)); exact HO_8.out⟩, ⟨by repeat (first | (with_reducible first | exact HB.out | apply below_alloc | apply pw_below_drewN | apply below_drew1) | exact HB.out)⟩⟩
              · rw [if_neg c10] at H
                exact absurd H (by simp)
            · rw [if_neg c9] at H
              exact absurd H (by simp)
          · rw [if_neg c8] at H
            exact absurd H (by simp)
        · rw [if_neg c7] at H
          have c7b0 : decide (x21_1 < (l0.length : Int)) = false := decide_eq_false c7
          clear c7
          simp only [Option.some.injEq, Prod.mk.injEq] at H
          obtain ⟨rfl, rfl⟩ := H
          go_wp2
          go_ret2
          exact ⟨_, by first | rfl | (simp [errW_none, errW_some] <;> rfl) | (simp [*, errW_none, errW_some] <;> rfl), by (with_reducible repeat (first | apply Kd.R_alloc | apply Kd.R_drewN | apply Kd.R_drew)); exact HO_8.out, by repeat (first | (with_reducible first | exact HB.out | apply below_alloc | apply pw_below_drewN | apply below_drew1) | exact HB.out)⟩
  · rw [if_neg c4] at H
    have c4b0 : ((l0.length : Int) == (l1.length : Int)) = false := beq_eq_false_iff_ne.mpr c4
    have c4b1 : ((l0.length : Int) != (l1.length : Int)) = true := bne_iff_ne.mpr c4
    have c4b2 : (l0.length == l1.length) = false := by first | simpa using c4 | (simp at c4 ⊢; omega)
    simp only [Option.some.injEq, Prod.mk.injEq] at H
    obtain ⟨rfl, rfl⟩ := H
    go_enter Try.func66, Try.ntmps66
    go_wp2
    go_ret2
    exact ⟨_, by first | rfl | (simp [errW_none, errW_some] <;> rfl) | (simp [*, errW_none, errW_some] <;> rfl), by first | exact Kd.R_nil _ _ _ _ _ | exact Kd.N_nil _ _ _ _ _ | exact Kd.V_nil _ _ _ _ _ | exact Kd.Q_nil _ _ _ _ _ | exact Kd.S_nil _ _ _ _ _, by repeat (first | (with_reducible first | exact HB.out | apply below_alloc | apply pw_below_drewN | apply below_drew1) | exact HB.out)⟩
/-! ### matrix_clone: function 86 -/
def matrix_clone.l0 : Nat → List (List Int) → List (List Int) → Int → Int → Option ((List (List Int)))
  | 0, _, _, _, _ => none
  | k + 1, x3, x9, x10, x11 => if x11 < x10 then (if 0 ≤ x11 then (if x11 < (x9.length : Int) then ((slices_Clone_byte_byte.f (rd_L1 x9 x11)).bind fun t112 => (if x11 < (x3.length : Int) then (matrix_clone.l0 k (x3.set (x11 : Int).toNat t112) x9 x10 (wrap64 (x11 + 1))) else (none))) else (none)) else (none)) else (some x3)
def matrix_clone.f (k : Nat) (l0 : List (List Int)) : Option ((List (List Int))) := if 0 ≤ (l0.length : Int) then (if ((l0.length : Int) : Int).toNat ≤ 11728124029610 then (matrix_clone.l0 k (List.replicate ((l0.length : Int) : Int).toNat []) l0 (l0.length : Int) 0) else (none)) else (none)
set_option maxHeartbeats 8000000 in
set_option maxRecDepth 100000 in
theorem matrix_clone.calls (k : Nat) (A0 : Option Addr) (c0 : Nat) (l0 : List (List Int)) (r : List (List Int)) (w : World) (hr0 : Kd.C (Kd.slice 5 (Kd.int .u8)) w A0 l0.length l0) (hc0 : l0.length ≤ c0) (h : matrix_clone.f k l0 = some r) :
    Calls Try.prog 86 #[.slice A0 l0.length c0] w fun e w' => ∃ v0_ : Value, e = .returned (v0_) ∧ Kd.S (Kd.slice 5 (Kd.int .u8)) 34 w' w.heap.size (fun _ => True) v0_ r ∧ Below w.heap.size w w' := by
  have HR0 := Aside0.mk hr0
  have HC0 := Aside0.mk hc0
  clear hr0 hc0
  have HB := Aside0.mk (Below.refl w.heap.size w)
  have H : (if 0 ≤ (l0.length : Int) then (if ((l0.length : Int) : Int).toNat ≤ 11728124029610 then (matrix_clone.l0 k (List.replicate ((l0.length : Int) : Int).toNat []) l0 (l0.length : Int) 0) else (none)) else (none)) = some r := h
  clear h
  by_cases c2 : 0 ≤ (l0.length : Int)
  · rw [if_pos c2] at H
    have c2b0 := eq_true c2
    have c2b1 : decide (0 ≤ (l0.length : Int)) = true := decide_eq_true c2
    clear c2
    by_cases c3 : ((l0.length : Int) : Int).toNat ≤ 11728124029610
    · rw [if_pos c3] at H
      have c3b0 := eq_true c3
      have c3b1 : decide (((l0.length : Int) : Int).toNat ≤ 11728124029610) = true := decide_eq_true c3
      clear c3
      obtain ⟨y108, hy108⟩ : ∃ y_ : List (List Int), y_ = (List.replicate ((l0.length : Int) : Int).toNat []) := ⟨_, rfl⟩
      replace H : (matrix_clone.l0 k y108 l0 (l0.length : Int) 0) = some r := by first | (rw [hy108]; with_reducible exact H) | (have H2_ := (Option.bind_some _ _).symm.trans H; rw [hy108]; with_reducible exact H2_) | (have H2_ := (Option.bind_some _ _).symm.trans H; with_reducible exact H2_) | with_reducible exact H | (rw [hy108]; exact H) | exact H
      have Ny108 := Aside0.mk hy108
      clear hy108
      have H' := Aside0.mk H
      clear H
      go_enter Try.func86, Try.ntmps86
      go_wp2_with (first | ((with_reducible refine gate_dst (N := 8) rfl ?_); refine Kd.S_make (Kd.slice 5 (Kd.int .u8)) _ 34 rfl (N := 8) rfl 22 _ _ rfl (l0.length : Int) rfl rfl Try.underlying22 (.slice none 0 0) 24 info34 rfl (by decide) (by omega) [] (ok := fun _ => True) (okp := fun _ => True) ⟨_, rfl, Kd.R_nil _ _ _ _ _⟩ (fun _ hk => hk) trivial (of_decide_eq_true (by first | (with_reducible assumption) | assumption)) (Nat.le_trans (Nat.mul_le_mul_right _ (of_decide_eq_true (by first | (with_reducible assumption) | assumption) : (l0.length : Int).toNat ≤ 11728124029610)) (by omega)) (Below.refl _ _) (Nat.le_refl _) ?_; intro v109 w4 ho5 hb hg_ hnew_; clear hg_ hnew_; (first | rw [← Ny108.out] at ho5 | (simp only [Int.reduceToNat] at ho5; rw [← Ny108.out] at ho5)); have n0_ := Aside0.mk (Kd.S_lower ho5 (below_size (by repeat (first | (with_reducible first | exact HB.out | apply below_alloc | apply pw_below_drewN | apply below_drew1) | exact HB.out)))); have n1_ := Aside0.mk (below_step (by repeat (first | (with_reducible first | exact HB.out | apply below_alloc | apply pw_below_drewN | apply below_drew1) | exact HB.out)) hb); clear HB; have HO110 := n0_; have HB := n1_; clear n0_ n1_; clear hb ho5))
      go_loopg [11] k (fun kq v11 w' => ∃ (x3_1 : List (List Int)) (x11_1 : Int), v11 = .int .i64 x11_1 ∧ Aside0 (matrix_clone.l0 kq x3_1 l0 (l0.length : Int) x11_1 = some r) ∧ Aside0 (kq ≤ k) ∧ Aside0 (Kd.S (Kd.slice 5 (Kd.int .u8)) 34 w' w.heap.size (fun _ => True) v109 x3_1) ∧ Aside0 (Below w.heap.size w w'))
      case atStart => exact ⟨(y108), (0), (by first | rfl | (simp; done) | (simp [*]; done)), H', ⟨Nat.le_refl _⟩, ⟨by (with_reducible repeat (first | apply Kd.S_alloc | apply Kd.S_drewN | apply Kd.S_drew)); exact HO110.out⟩, ⟨by repeat (first | (with_reducible first | exact HB.out | apply below_alloc | apply pw_below_drewN | apply below_drew1) | exact HB.out)⟩⟩
      case round =>
        clear H'
        try clear c2
        try clear c2b0
        try clear c2b1
        try clear p2
        try clear c3
        try clear c3b0
        try clear c3b1
        obtain ⟨x3_1, x11_1, rfl, HA, HK1, HO_3, HB⟩ := hrel
        cases gk with
        | zero => exact absurd HA.out (by simp [matrix_clone.l0])
        | succ k1 =>
          have H := HA.out
          clear HA
          simp only [matrix_clone.l0] at H
          by_cases c6 : x11_1 < (l0.length : Int)
          · rw [if_pos c6] at H
            have c6b0 : decide (x11_1 < (l0.length : Int)) = true := decide_eq_true c6
            clear c6
            by_cases c7 : 0 ≤ x11_1
            · rw [if_pos c7] at H
              have c7b0 : decide (0 ≤ x11_1) = true := decide_eq_true c7
              clear c7
              by_cases c8 : x11_1 < (l0.length : Int)
              · rw [if_pos c8] at H
                have c8b0 : decide (x11_1 < (l0.length : Int)) = true := decide_eq_true c8
                clear c8
                replace H := Option.bind_eq_some_iff.mp H
                obtain ⟨t112, A90, H⟩ := H
                replace H : (if x11_1 < (x3_1.length : Int) then (matrix_clone.l0 k1 (x3_1.set (x11_1 : Int).toNat t112) l0 (l0.length : Int) (wrap64 (x11_1 + 1))) else (none)) = some r := H
                have A9 := Aside0.mk A90
                clear A90
                by_cases c10 : x11_1 < (x3_1.length : Int)
                · rw [if_pos c10] at H
                  have c10b0 : decide (x11_1 < (x3_1.length : Int)) = true := decide_eq_true c10
                  clear c10
                  obtain ⟨y115, hy115⟩ : ∃ y_ : List (List Int), y_ = (x3_1.set (x11_1 : Int).toNat t112) := ⟨_, rfl⟩
                  replace H : (matrix_clone.l0 k1 y115 l0 (l0.length : Int) (wrap64 (x11_1 + 1))) = some r := by first | (rw [hy115]; with_reducible exact H) | (have H2_ := (Option.bind_some _ _).symm.trans H; rw [hy115]; with_reducible exact H2_) | (have H2_ := (Option.bind_some _ _).symm.trans H; with_reducible exact H2_) | with_reducible exact H | (rw [hy115]; exact H) | exact H
                  have Ny115 := Aside0.mk hy115
                  clear hy115
                  have H' := Aside0.mk H
                  clear H
                  have p111 : 0 ≤ (x11_1 : Int) := of_decide_eq_true (by first | (with_reducible assumption) | assumption)
                  have q111 : x11_1 < (l0.length : Int) := of_decide_eq_true (by first | (with_reducible assumption) | assumption)
                  obtain ⟨ad111, A111_0, c111_0, e111, hx111_0, hl111_0, hi111_0⟩ := at_L1 HR0.out x11_1 p111 q111
                  cases e111
                  replace hx111_0 := (HB.out.cell (World.block_lt_of_cell? w _ hx111_0)).trans hx111_0
                  have HR111_0 := Aside0.mk hi111_0
                  have HC111_0 := Aside0.mk hl111_0
                  clear hi111_0 hl111_0
                  replace p111 := eq_true p111
                  replace q111 := eq_true q111
                  go_wp2_with (first | ((with_reducible refine gate_callee (f := 63) rfl ?_); refine goesL_ (some 19) rfl rfl Try.func63 (by kernel_rfl) rfl #[.slice A111_0 (rd_L1 l0 x11_1).length c111_0] rfl (by (try simp only [List.map_toArray, List.map_cons, List.map_nil]); first | done | rfl | (simp only [List.length_drop, List.length_take]; rfl)) ?_; (with_reducible refine (slices_Clone_byte_byte.calls _ _ (rd_L1 l0 x11_1) t112 _ ?side1 ?side2 A9.out).mono ?_); (case side1 => repeat (first | exact (Kd.C_below HR111_0.out HB.out) | (with_reducible refine Kd.C_alloc ?_ _) | (with_reducible refine Kd.C_drewN ?_ _) | (with_reducible refine Kd.C_drew ?_))); (case side2 => exact HC111_0.out); rintro e w12 ⟨v113, rfl, ho0, hb⟩; refine ⟨_, rfl, ?_⟩; have n0_ := Aside0.mk (Kd.S_elder' (by (with_reducible repeat (first | apply Kd.S_alloc | apply Kd.S_drewN | apply Kd.S_drew)); exact HO_3.out) (Kd.R_base ho0) hb); have n1_ := Aside0.mk (Kd.R_lower ho0 (below_size (by repeat (first | (with_reducible first | exact HB.out | apply below_alloc | apply pw_below_drewN | apply below_drew1) | exact HB.out)))); have n2_ := Aside0.mk (below_step (by repeat (first | (with_reducible first | exact HB.out | apply below_alloc | apply pw_below_drewN | apply below_drew1) | exact HB.out)) hb); clear HO_3; clear HB; have HO_3 := n0_; have HO114 := n1_; have HB := n2_; clear n0_ n1_ n2_; (try clear hb); (try clear hb2); (try clear hk); (try clear hi); (try clear ho0); have p11 : 0 ≤ (x11_1 : Int) := of_decide_eq_true (by first | (with_reducible assumption) | assumption); have q11 : (x11_1 : Int) < ((x3_1.length : Int) : Int) := of_decide_eq_true (by first | (with_reducible assumption) | assumption); obtain ⟨go11, co11, eo11, gb11, gl11, cl11, HG11⟩ := Kd.S_form HO_3.out (by omega); (first | cases eo11 | (injection eo11 with ea_ en_ ec_; (first | subst ea_ | (injection ea_ with ea_; subst ea_)); subst ec_; clear en_)); have GB11 := Aside0.mk gb11; have GG11 := Aside0.mk HG11; clear gb11 gl11 HG11; obtain ⟨_, ce11, hcl11, hM11, hcc11, hfr11, _, _⟩ := Kd.S_elem HO_3.out [] (x11_1 : Int) p11 q11; obtain ⟨ve11_0, rfl, ge11_0⟩ := hM11; have hx11_0 := hcc11 0 _ rfl; have hf11_0 := hfr11 0; (try simp only [show ((Kd.slice 5 (Kd.int .u8))).sz = 1 from rfl, Nat.mul_one, Nat.add_zero] at hx11_0); (try simp only [show ((Kd.slice 5 (Kd.int .u8))).sz = 1 from rfl, Nat.mul_one, Nat.add_zero] at hf11_0); clear hcl11 hcc11 hfr11; (try clear hM11); replace p11 := eq_true p11; replace q11 := eq_true q11; have n_ := Aside0.mk (Kd.S_mono (ok' := (fun k_ => some k_ ≠ (v113 : Value).ownBlock)) HO_3.out (fun k_ hk => hk.2)); clear HO_3; have HO_3 := n_; clear n_; have HX13 := Aside0.mk (show Kd.S (Kd.slice 5 (Kd.int .u8)) 34 w12 w.heap.size (fun k_ => ((fun _ => True)) k_ ∧ ¬ ((fun k_ => some k_ = (v113 : Value).ownBlock)) k_) (.slice (some ⟨go11, 0, none⟩) x3_1.length co11) x3_1 from (by (with_reducible repeat (first | apply Kd.S_alloc | apply Kd.S_drewN | apply Kd.S_drew)); exact Kd.S_mono HO_3.out (fun k_ hk => ⟨trivial, fun e_ => hk e_⟩))); obtain ⟨oki13, ce13, hcl13, hM13, hcc13, hfr13, hoki13, hH13⟩ := Kd.S_elem HX13.out [] (x11_1 : Int) (of_decide_eq_true (by first | (with_reducible assumption) | assumption)) (by have h_ : (x11_1 : Int) < ((x3_1.length : Int) : Int) := of_decide_eq_true (by first | (with_reducible assumption) | assumption); first | exact h_ | (have e_ := (Kd.S_reads' HO_3.out).1; omega) | simpa using h_); obtain ⟨ve13_0, rfl, ge13_0⟩ := hM13; have HP13 := Kd.S_seg hH13 (of_decide_eq_true (by first | (with_reducible assumption) | assumption)) (by have h_ : (x11_1 : Int) < ((x3_1.length : Int) : Int) := of_decide_eq_true (by first | (with_reducible assumption) | assumption); first | exact h_ | (have e_ := (Kd.S_reads' HO_3.out).1; omega) | simpa using h_) (seg := [v113]) (j := 0) (show 1 ≤ 1 from by decide) (x' := t112) (Kd.M_row (Kd.R_mono (Kd.R_tight rfl (Kd.R_mono (ok' := fun k_ => ((fun _ => True)) k_ ∧ k_ ≠ go11) (Kd.R_apart' (HO114.out) (Kd.S_typed HO_3.out) (by decide)) (fun k_ hk => ⟨trivial, fun e_ => (hk.2) (by rw [e_]; rfl)⟩))) (fun _ h_ => Or.inr (h_)))) (fun _ hk => hk) (fun k_ hk_ => ((Kd.R_mono (ok' := fun k_ => ((fun _ => True)) k_ ∧ k_ ≠ go11) (Kd.R_apart' (HO114.out) (Kd.S_typed HO_3.out) (by decide)) (fun k_ hk => ⟨trivial, fun e_ => (hk.2) (by rw [e_]; rfl)⟩))).1 k_ hk_.symm); have hx13_0 := hcc13 0 _ rfl; (try simp only [show ((Kd.slice 5 (Kd.int .u8))).sz = 1 from rfl, Nat.mul_one, Nat.add_zero] at hx13_0); have hf13_0 := hfr13 0; (try simp only [show ((Kd.slice 5 (Kd.int .u8))).sz = 1 from rfl, Nat.mul_one, Nat.add_zero] at hf13_0); clear hcl13 hcc13 hfr13 hoki13 hH13; (try clear hM13); (try simp only [show ((Kd.slice 5 (Kd.int .u8))).sz = 1 from rfl, Nat.mul_one, Nat.add_zero] at HP13)) | ((with_reducible refine gate_store (t := 34) (p := 20) rfl ?_); refine store_event (t := 34) (p := 20) (v := ?vo_w14) (w1 := (w12.setCell ⟨go11, (x11_1 : Int).toNat, none⟩ (v113))) ?hg ?ho ?hn ?hr ?_; (case ho => rfl); (case hg => rfl); (case hn => rfl); (case hr => first | (go_simp; done) | (go_simp; rfl) | (obtain ⟨A_, c_, e_⟩ : ∃ A_ c_, v113 = .slice A_ _ c_ := Kd.R_slice (Aside0.out (by assumption)); rw [e_]; go_simp; done) | (obtain ⟨A_, c_, e_⟩ : ∃ A_ c_, v113 = .slice A_ _ c_ := Kd.R_slice (Aside0.out (by assumption)); rw [e_]; go_simp; rfl)); intro w14 hw; have hg : w12.grownBy w14 (some go11) := (by rw [hw]; exact HP13.2); have hp_ : Kd.S (Kd.slice 5 (Kd.int .u8)) 34 w14 w.heap.size (fun _ => True) (.slice (some ⟨go11, 0, none⟩) x3_1.length co11) y115 := (by rw [hw, Ny115.out]; exact HP13.1); clear HP13; have n0_ := Aside0.mk (hp_); have n1_ := Aside0.mk ((by rw [hw]; exact below_set (HB.out) GB11.out : Below w.heap.size w w14)); clear HO_3; clear HB; clear HO114; have HO_3 := n0_; have HB := n1_; clear n0_ n1_; clear hg hw hp_))
                  go_roundg k1
                  case measure => have := HK1.out; omega
                  case rel => exact ⟨(y115), (wrap64 (x11_1 + 1)), (by first | rfl | (simp; done) | (simp [*]; done)), H', ⟨by have := HK1.out; omega⟩, ⟨by (with_reducible repeat (first | apply Kd.S_alloc | apply Kd.S_drewN | apply Kd.S_drew)); exact HO_3.out⟩, ⟨by repeat (first | (with_reducible first | exact HB.out | apply below_alloc | apply pw_below_drewN | apply below_drew1) | exact HB.out)⟩⟩
                · rw [if_neg c10] at H
                  exact absurd H (by simp)
              · rw [if_neg c8] at H
                exact absurd H (by simp)
            · rw [if_neg c7] at H
              exact absurd H (by simp)
          · rw [if_neg c6] at H
            have c6b0 : decide (x11_1 < (l0.length : Int)) = false := decide_eq_false c6
            clear c6
            obtain rfl := Option.some.inj H
            go_wp2
            go_ret
            exact ⟨_, by first | rfl | (simp [errW_none, errW_some] <;> rfl) | (simp [*, errW_none, errW_some] <;> rfl), by (with_reducible repeat (first | apply Kd.S_alloc | apply Kd.S_drewN | apply Kd.S_drew)); exact HO_3.out, by repeat (first | (with_reducible first | exact HB.out | apply below_alloc | apply pw_below_drewN | apply below_drew1) | exact HB.out)⟩
    · rw [if_neg c3] at H
      exact absurd H (by simp)
  · rw [if_neg c2] at H
    exact absurd H (by simp)
end Go.Proofs.Ytpkghpljgjlmjaa.K
/- gf256.MulAdd and matrix.clone compute what is said here. -/
namespace Go.Proofs.Ytpkghpljgjlmjaa.K
open Go.RowKit Go.Proofs.YtpkghpljgjlmjaaW.PrintWords Kin
set_option linter.unusedVariables false
theorem wrap_nat {i : Nat} (h : i < 9223372036854775807) : wrap64 ((i : Int) + 1) = ((i + 1 : Nat) : Int) := by
  unfold wrap64
  omega
/-- d plus c times s, byte by byte. -/
def addS (d s : List B) (c : B) : List B := List.zipWith (fun a x => a ^^^ gmul x c) d s
theorem addS_length (d s : List B) (c : B) (h : d.length = s.length) : (addS d s c).length = d.length := by simp [addS, h]
theorem getD_up (l : List B) (i : Nat) : rd (up l) (i : Int) = b2i (l.getD i 0) := by rw [rd_up, Int.toNat_natCast]
theorem muladd_l0 (m : Nat) : ∀ (k i : Nat) (o d : List B), o.length = d.length → d.length ≤ 140737488351232 → d.length - i = m → i ≤ d.length → m < k →
    gf256_MulAdd.l0 k (up o) (up d) (d.length : Int) (i : Int) = some (up (o.take i ++ List.zipWith (fun a b => b ^^^ a) (d.drop i) (o.drop i)), 0) := by
  induction m with
  | zero =>
    intro k i o d hl hn hm hi hk
    obtain ⟨k, rfl⟩ : ∃ j, k = j + 1 := ⟨k - 1, by omega⟩
    have : i = d.length := by omega
    subst this
    simp only [gf256_MulAdd.l0]
    rw [if_neg (by omega)]
    rw [List.take_of_length_le (by omega), List.drop_of_length_le (Nat.le_refl _)]
    simp
  | succ m ih =>
    intro k i o d hl hn hm hi hk
    obtain ⟨k, rfl⟩ : ∃ j, k = j + 1 := ⟨k - 1, by omega⟩
    simp only [gf256_MulAdd.l0]
    rw [if_pos (by omega), if_pos (by omega), if_pos (by rw [up_length]; omega), if_pos (by rw [up_length]; omega), getD_up, getD_up, add_b]
    simp only [Option.bind_some]
    rw [Int.toNat_natCast, set_up, wrap_nat (by omega), ih _ _ _ _ (by simpa using hl) hn (by omega) (by omega) (by omega)]
    congr 3
    have hio : i < o.length := by omega
    rw [List.take_succ_eq_append_getElem (by simpa using hio)]
    rw [List.drop_set_of_lt (by omega), List.take_set_of_le (Nat.le_refl _)]
    simp [List.getD_eq_getElem?_getD, List.getElem?_eq_getElem hio, List.getElem?_eq_getElem (show i < d.length by omega)]
    rw [List.drop_eq_getElem_cons (show i < d.length by omega), List.drop_eq_getElem_cons hio, List.zipWith_cons_cons]
theorem muladd_up (d s : List B) (c : B) (hl : d.length = s.length) (hn : d.length ≤ 140737488351232) {k : Nat} (hk : d.length < k) :
    gf256_MulAdd.f k (up d) (up s) (b2i c) = some (up (addS d s c), 0) := by
  rw [gf256_MulAdd.f, if_pos (by rw [up_length, up_length, hl]), scale_up s c (by omega)]
  simp only [Option.bind_some]
  have h := muladd_l0 d.length k 0 (s.map fun x => gmul x c) d (by simp [hl]) hn (by omega) (by omega) hk
  rw [up_length]
  rw [show (0 : Int) = ((0 : Nat) : Int) from rfl, h]
  congr 3
  rw [List.take_zero, List.nil_append, List.drop_zero, List.drop_zero, addS, List.zipWith_map_right]
  congr 1
  funext a x
  exact bx_comm _ _
theorem clone_l0 (m : Nat) : ∀ (k i : Nat) (o l : List (List Int)), o.length = l.length → l.length ≤ 11728124029610 → (∀ x ∈ l, x.length ≤ 140737488351232) → l.length - i = m → i ≤ l.length → m < k →
    matrix_clone.l0 k o l (l.length : Int) (i : Int) = some (o.take i ++ l.drop i) := by
  induction m with
  | zero =>
    intro k i o l hl hn hx hm hi hk
    obtain ⟨k, rfl⟩ : ∃ j, k = j + 1 := ⟨k - 1, by omega⟩
    have : i = l.length := by omega
    subst this
    simp only [matrix_clone.l0]
    rw [if_neg (by omega), List.take_of_length_le (by omega), List.drop_of_length_le (Nat.le_refl _), List.append_nil]
  | succ m ih =>
    intro k i o l hl hn hx hm hi hk
    obtain ⟨k, rfl⟩ : ∃ j, k = j + 1 := ⟨k - 1, by omega⟩
    have hio : i < l.length := by omega
    have hr : rd_L1 l (i : Int) = l[i] := by simp [rd_L1, List.getD_eq_getElem?_getD, List.getElem?_eq_getElem hio]
    simp only [matrix_clone.l0]
    rw [if_pos (by omega), if_pos (by omega), if_pos (by omega), hr, slices_Clone_byte_byte.f, if_pos (hx _ (List.getElem_mem hio))]
    simp only [Option.bind_some]
    rw [if_pos (by omega), Int.toNat_natCast, wrap_nat (by omega), ih _ _ _ _ (by simpa using hl) hn hx (by omega) (by omega) (by omega)]
    congr 1
    rw [List.take_succ_eq_append_getElem (by simp; omega), List.take_set_of_le (Nat.le_refl _), List.drop_eq_getElem_cons hio]
    simp
theorem clone_eq (l : List (List Int)) (hn : l.length ≤ 11728124029610) (hx : ∀ x ∈ l, x.length ≤ 140737488351232) {k : Nat} (hk : l.length < k) : matrix_clone.f k l = some l := by
  rw [matrix_clone.f, if_pos (by omega), if_pos (by omega)]
  have h := clone_l0 l.length k 0 (List.replicate l.length []) l (by simp) hn hx (by omega) (by omega) hk
  rw [Int.toNat_natCast]
  rw [show (0 : Int) = ((0 : Nat) : Int) from rfl, h]
  rfl
end Go.Proofs.Ytpkghpljgjlmjaa.K
/- Words of this claim's own: a made row of bytes stored into a row of rows; blocks told apart by their types. -/
namespace Go.Proofs.Ytpkghpljgjlmjaa.K
open Go.RowKit Go.Proofs.YtpkghpljgjlmjaaW.PrintWords Go.Proofs.YtpkghpljgjlmjaaW.PrintLast Go.Proofs.YtpkghpljgjlmjaaW.PrintMore
set_option linter.unusedVariables false

/-- Rows of bytes, as elements. -/
abbrev D := Kd.slice 5 (Kd.int .u8)
section
variable {W w w1 : World} {base g n cap : Nat} {ok : Nat → Prop} {v : Value} {xs : List (List Int)} {y : List Int}
/-- 'rows[i] = y', y a made row that is none of the rows. -/
theorem S_put (hS : Kd.S D 34 W base (fun k => some k ≠ v.ownBlock) (.slice (some ⟨g, 0, none⟩) n cap) xs) (hv : Kd.R (Kd.int .u8) 5 W base (fun k => k ≠ g) v y) (i : Int) (h0 : 0 ≤ i) (h1 : i < n) :
    Kd.S D 34 (W.setCell ⟨g, i.toNat, none⟩ v) base (fun _ => True) (.slice (some ⟨g, 0, none⟩) n cap) (xs.set i.toNat y) := by
  have hX : Kd.S D 34 W base (fun k => (fun _ => True) k ∧ ¬ (some k = v.ownBlock)) (.slice (some ⟨g, 0, none⟩) n cap) xs := Kd.S_mono hS (fun k hk => ⟨trivial, hk⟩)
  obtain ⟨oki, c, hcl, hM, hcc, hfr, hoki, hH⟩ := Kd.S_elem hX [] i h0 h1
  have hlen : c.length = 1 := hcl
  have hM' : (D).M W base (fun k => oki k ∨ some k = v.ownBlock) y (c.take 0 ++ [v] ++ c.drop (0 + [v].length)) := by
    have hd : c.drop (0 + [v].length) = [] := by apply List.drop_eq_nil_of_le; simp [hlen]
    rw [hd]
    exact ⟨v, rfl, Kd.R_mono (Kd.R_tight rfl hv) (fun k hk => .inr hk)⟩
  have hP := Kd.S_seg hH h0 h1 (seg := [v]) (j := 0) (show 0 + [v].length ≤ (D).sz from Nat.le_refl 1) (x' := y) hM' (fun _ hk => hk) (fun k hk => ⟨trivial, hv.1 k hk.symm⟩)
  have h2 := hP.1
  have hz : i.toNat * (D).sz + 0 = i.toNat := by show i.toNat * 1 + 0 = _; omega
  rw [hz] at h2
  exact h2
/-- The same, y made by a call from W0 on. -/
theorem S_put_fresh {W0 : World} (hS : Kd.S D 34 W0 base (fun _ => True) (.slice (some ⟨g, 0, none⟩) n cap) xs) (hb : Below W0.heap.size W0 w1) (hv : Kd.R (Kd.int .u8) 5 w1 W0.heap.size (fun _ => True) v y) (hbase : base ≤ W0.heap.size) (hg : g < W0.heap.size) (i : Int) (h0 : 0 ≤ i) (h1 : i < n) :
    Kd.S D 34 (w1.setCell ⟨g, i.toNat, none⟩ v) base (fun _ => True) (.slice (some ⟨g, 0, none⟩) n cap) (xs.set i.toNat y) :=
  S_put (Kd.S_mono (Kd.S_elder' hS (Kd.R_base hv) hb) (fun k hk => hk.2)) (Kd.R_lower (Kd.R_mono (Kd.R_bound hv) (fun k hk => by have := hk.2.1; omega)) hbase) i h0 h1
end
end Go.Proofs.Ytpkghpljgjlmjaa.K
/- matrix.Apply: for each row the sum of the blocks, each multiplied by the element of its column. -/
namespace Go.Proofs.Ytpkghpljgjlmjaa.K
open Go.RowKit Go.Proofs.YtpkghpljgjlmjaaW.PrintWords Go.Proofs.YtpkghpljgjlmjaaW.PrintLast Go.Proofs.YtpkghpljgjlmjaaW.PrintMore Kin
set_option linter.unusedVariables false

def toB2 (l : List (List Int)) : List (List B) := l.map fun x => x.map toB
theorem toB2_up2 (m : List (List B)) : toB2 (up2 m) = m := by
  simp only [toB2, up2, List.map_map]
  conv => rhs; rw [← List.map_id m]
  apply List.map_congr_left
  intro x _
  simp only [Function.comp, up, List.map_map, id]
  conv => rhs; rw [← List.map_id x]
  apply List.map_congr_left
  intro y _
  exact toB_b2i y
theorem exists_up2 {l : List (List Int)} (h : ∀ x ∈ l, ∀ y ∈ x, isB y = true) : ∃ m : List (List B), l = up2 m := by
  induction l with
  | nil => exact ⟨[], rfl⟩
  | cons x l ih =>
    obtain ⟨m, rfl⟩ := ih (fun y hy => h y (List.mem_cons_of_mem _ hy))
    obtain ⟨r, rfl⟩ := exists_up (h x List.mem_cons_self)
    exact ⟨r :: m, rfl⟩
theorem colsN_up2 (m : List (List B)) : colsN (up2 m) = colsN m := by
  cases m with
  | nil => rfl
  | cons x m => simp [colsN, up2_cons, up_length]
theorem validB_up2 (m : List (List B)) : validB (up2 m) = validB m := by
  unfold validB
  rw [colsN_up2, up2_length]
  congr 2
  simp only [up2, List.all_map]
  congr 1
  funext x
  simp [Function.comp, up_length]
theorem zero_l0 (m : Nat) : ∀ (k i c r : Nat) (o : List (List Int)), o.length = r → r ≤ 11728124029610 → c ≤ 281474976710656 → r - i = m → i ≤ r → m < k →
    matrix_zero.l0 k (c : Int) o (r : Int) (i : Int) = some (o.take i ++ List.replicate (r - i) (List.replicate c 0)) := by
  induction m with
  | zero =>
    intro k i c r o hl hr hc hm hi hk
    obtain ⟨k, rfl⟩ : ∃ j, k = j + 1 := ⟨k - 1, by omega⟩
    have : i = r := by omega
    subst this
    simp only [matrix_zero.l0]
    rw [if_neg (by omega), List.take_of_length_le (by omega), Nat.sub_self]
    simp
  | succ m ih =>
    intro k i c r o hl hr hc hm hi hk
    obtain ⟨k, rfl⟩ : ∃ j, k = j + 1 := ⟨k - 1, by omega⟩
    simp only [matrix_zero.l0]
    rw [if_pos (by omega), if_pos (by omega), if_pos (by omega), if_pos (by omega), if_pos (by omega), Int.toNat_natCast, Int.toNat_natCast, wrap_nat (by omega),
      ih _ _ _ _ _ (by simpa using hl) hr hc (by omega) (by omega) (by omega)]
    congr 1
    rw [List.take_succ_eq_append_getElem (by simp; omega), List.take_set_of_le (Nat.le_refl _), show r - i = (r - (i + 1)) + 1 by omega, List.replicate_succ]
    simp
theorem zero_eq (r c : Nat) (hr : r ≤ 11728124029610) (hc : c ≤ 281474976710656) {k : Nat} (hk : r < k) : matrix_zero.f k (r : Int) (c : Int) = some (List.replicate r (List.replicate c 0)) := by
  rw [matrix_zero.f, if_pos (by omega), if_pos (by omega)]
  simp only [Option.bind_some, Int.toNat_natCast, List.length_replicate]
  rw [show (0 : Int) = ((0 : Nat) : Int) from rfl, zero_l0 r k 0 c r _ (by simp) hr hc (by omega) (by omega) hk]
  simp
theorem zeros_up2 (r c : Nat) : List.replicate r (List.replicate c (0 : Int)) = up2 (List.replicate r (List.replicate c 0)) := by rw [up_zeros, up2_replicate]
/-- The sum of the first k blocks, each times its factor; n bytes. -/
def applyPart (n : Nat) (row : List B) (bs : List (List B)) (k : Nat) : List B := ((row.zip bs).take k).foldl (fun acc p => addS acc p.2 p.1) (List.replicate n 0)
def applyRow (n : Nat) (row : List B) (bs : List (List B)) : List B := (row.zip bs).foldl (fun acc p => addS acc p.2 p.1) (List.replicate n 0)
def applyM (n : Nat) (m : List (List B)) (bs : List (List B)) : List (List B) := m.map fun row => applyRow n row bs
/-- The result after i rows. -/
def applyUpto (n : Nat) (m : List (List B)) (bs : List (List B)) (i : Nat) : List (List B) := (m.take i).map (fun row => applyRow n row bs) ++ List.replicate (m.length - i) (List.replicate n 0)
theorem applyPart_zero (n : Nat) (row : List B) (bs : List (List B)) : applyPart n row bs 0 = List.replicate n 0 := rfl
theorem applyPart_all (n : Nat) (row : List B) (bs : List (List B)) (k : Nat) (h : row.length ≤ k) : applyPart n row bs k = applyRow n row bs := by
  unfold applyPart applyRow
  rw [List.take_of_length_le (by simp; omega)]
theorem applyPart_length (n : Nat) (row : List B) (bs : List (List B)) (hb : ∀ b ∈ bs, b.length = n) (k : Nat) : (applyPart n row bs k).length = n := by
  have key : ∀ (l : List (B × List B)) (acc : List B), (∀ p ∈ l, p.2.length = n) → acc.length = n → (l.foldl (fun acc p => addS acc p.2 p.1) acc).length = n := by
    intro l
    induction l with
    | nil => intro acc _ h; exact h
    | cons p l ih =>
      intro acc hp h
      exact ih _ (fun q hq => hp q (List.mem_cons_of_mem _ hq)) (by rw [addS_length _ _ _ (by rw [h, hp p List.mem_cons_self]), h])
  exact key _ _ (fun p hp => hb _ (List.of_mem_zip (List.mem_of_mem_take hp)).2) (by simp)
theorem applyPart_succ (n : Nat) (row : List B) (bs : List (List B)) (k : Nat) (h1 : k < row.length) (h2 : k < bs.length) :
    applyPart n row bs (k + 1) = addS (applyPart n row bs k) (bs.getD k []) (row.getD k 0) := by
  unfold applyPart
  rw [List.take_succ_eq_append_getElem (by simp; omega), List.foldl_append]
  simp [List.getD_eq_getElem?_getD, List.getElem?_eq_getElem h1, List.getElem?_eq_getElem h2]
theorem applyUpto_zero (n : Nat) (m bs : List (List B)) : applyUpto n m bs 0 = List.replicate m.length (List.replicate n 0) := by simp [applyUpto]
theorem applyUpto_all (n : Nat) (m bs : List (List B)) : applyUpto n m bs m.length = applyM n m bs := by simp [applyUpto, applyM]
theorem applyUpto_length (n : Nat) (m bs : List (List B)) (i : Nat) (hi : i ≤ m.length) : (applyUpto n m bs i).length = m.length := by simp [applyUpto]; omega
theorem applyUpto_at (n : Nat) (m bs : List (List B)) (i : Nat) (hi : i < m.length) : (applyUpto n m bs i).set i (List.replicate n 0) = applyUpto n m bs i := by
  unfold applyUpto
  have h1 : ((m.take i).map fun row => applyRow n row bs).length = i := by simp; omega
  rw [List.set_append_right _ _ (by omega), h1, Nat.sub_self, show m.length - i = (m.length - (i + 1)) + 1 by omega, List.replicate_succ, List.set_cons_zero]
theorem applyUpto_succ (n : Nat) (m bs : List (List B)) (i : Nat) (hi : i < m.length) : (applyUpto n m bs i).set i (applyRow n (m.getD i []) bs) = applyUpto n m bs (i + 1) := by
  unfold applyUpto
  have h1 : ((m.take i).map fun row => applyRow n row bs).length = i := by simp; omega
  rw [List.set_append_right _ _ (by omega), h1, Nat.sub_self, show m.length - i = (m.length - (i + 1)) + 1 by omega, List.replicate_succ, List.set_cons_zero,
    List.take_succ_eq_append_getElem hi, List.map_append, List.append_assoc]
  simp [List.getD_eq_getElem?_getD, List.getElem?_eq_getElem hi]
end Go.Proofs.Ytpkghpljgjlmjaa.K
/- The elimination of package matrix: its state in memory; scale. -/
namespace Go.Proofs.Ytpkghpljgjlmjaa.K
open Go.RowKit Go.Proofs.YtpkghpljgjlmjaaW.PrintWords Go.Proofs.YtpkghpljgjlmjaaW.PrintLast Go.Proofs.YtpkghpljgjlmjaaW.PrintMore Kin
set_option linter.unusedVariables false

/-- Nothing but the state's block and the rows' block was written. -/
structure FrameE (w w' : World) (gx gr : Nat) : Prop where
  os : w'.os = w.os
  tape : w'.tape = w.tape
  output : w'.output = w.output
  size : w.heap.size ≤ w'.heap.size
  block : ∀ k, k < w.heap.size → k ≠ gx → k ≠ gr → w'.heap[k]? = w.heap[k]?
section
variable {w w1 w2 : World} {gx gr : Nat}
theorem FrameE.refl (w : World) (gx gr : Nat) : FrameE w w gx gr := ⟨rfl, rfl, rfl, Nat.le_refl _, fun _ _ _ _ => rfl⟩
theorem FrameE.trans (h : FrameE w w1 gx gr) (k : FrameE w1 w2 gx gr) : FrameE w w2 gx gr :=
  ⟨k.os.trans h.os, k.tape.trans h.tape, k.output.trans h.output, Nat.le_trans h.size k.size, fun i hi h1 h2 => (k.block i (Nat.lt_of_lt_of_le hi h.size) h1 h2).trans (h.block i hi h1 h2)⟩
theorem FrameE.below (hb : Below w.heap.size w w1) (gx gr : Nat) : FrameE w w1 gx gr := ⟨hb.os, hb.tape, hb.output, hb.size, fun i hi _ _ => hb.block i hi⟩
theorem FrameE.drewN (h : FrameE w w1 gx gr) (n : Nat) : FrameE w (w1.drewN n) gx gr := ⟨h.os, h.tape, h.output, h.size, h.block⟩
theorem FrameE.drew (h : FrameE w w1 gx gr) : FrameE w w1.drew gx gr := ⟨h.os, h.tape, h.output, h.size, h.block⟩
theorem FrameE.set (h : FrameE w w1 gx gr) {p : Addr} (hp : p.block = gx ∨ p.block = gr) (v : Value) : FrameE w (w1.setCell p v) gx gr :=
  ⟨h.os, h.tape, h.output, by have := h.size; simpa [World.setCell] using this, fun i hi h1 h2 => (Below.heap_setCell w1 p v i (by rcases hp with hp | hp <;> rw [hp] <;> assumption)).trans (h.block i hi h1 h2)⟩
theorem FrameE.toBelow {base : Nat} {w0 : World} (hb : Below base w0 w) (h : FrameE w w1 gx gr) (h1 : base ≤ gx) (h2 : base ≤ gr) (h3 : base ≤ w.heap.size) : Below base w0 w1 :=
  hb.trans ⟨h.os, h.tape, h.output, h.size, fun k hk => h.block k (by omega) (by omega) (by omega)⟩
theorem FrameE.cell (h : FrameE w w1 gx gr) {a : Addr} {v : Value} (hc : w.cell? a = some v) (h1 : a.block ≠ gx) (h2 : a.block ≠ gr) : w1.cell? a = some v :=
  (World.cell?_of_block (h.block _ (World.block_lt_of_cell? w a hc) h1 h2)).trans hc
end

theorem getD_up2' (m : List (List B)) (i : Nat) : (up2 m).getD i [] = up (m.getD i []) := by
  simp only [up2, List.getD_eq_getElem?_getD, List.getElem?_map]
  cases m[i]? <;> rfl
/-- The state of an elimination: at block gx; its rows' slice is at block gr. X: blocks that the pivots' row is none of. -/
structure Elim (w : World) (base gx gr c : Nat) (X : Nat → Prop) (R : List (List B)) (piv : List Int) (d : B) : Prop where
  piv : ∃ vp, w.heap[gx]? = some (.cells #[.slice (some ⟨gr, 0, none⟩) R.length c, vp, .int .u8 (b2i d)] 80 (0, 0)) ∧ Kd.R (Kd.int .i64) 3 w base (fun k => ¬ X k ∧ k ≠ gx ∧ k ≠ gr) vp piv
  rows : Kd.S D 34 w base (fun _ => True) (.slice (some ⟨gr, 0, none⟩) R.length c) (up2 R)
  baseX : base ≤ gx
  baseR : base ≤ gr
  ne : gx ≠ gr
section
variable {w w1 : World} {base gx gr c : Nat} {X : Nat → Prop} {R : List (List B)} {piv : List Int} {d : B}
theorem Elim.lt (h : Elim w base gx gr c X R piv d) : gx < w.heap.size := by
  obtain ⟨vp, hb, _⟩ := h.piv
  exact blk_lt hb
theorem Elim.ltr (h : Elim w base gx gr c X R piv d) : gr < w.heap.size := Kd.S_lt h.rows gr rfl
/-- A call that only makes. -/
theorem Elim.below (h : Elim w base gx gr c X R piv d) (hb : Below w.heap.size w w1) : Elim w1 base gx gr c X R piv d := by
  obtain ⟨vp, hg, hp⟩ := h.piv
  exact ⟨⟨vp, (hb.block _ h.lt).trans hg, Kd.R_below hp hb⟩, Kd.S_below h.rows hb, h.baseX, h.baseR, h.ne⟩
theorem Elim.drewN (h : Elim w base gx gr c X R piv d) (n : Nat) : Elim (w.drewN n) base gx gr c X R piv d := h.below (pw_below_drewN (Below.refl _ _) n)
theorem Elim.drew (h : Elim w base gx gr c X R piv d) : Elim w.drew base gx gr c X R piv d := h.below (below_drew (Below.refl _ _))
/-- 'x.det = e'. -/
theorem Elim.setDet (h : Elim w base gx gr c X R piv d) (e : B) : Elim (w.setCell ⟨gx, 2, none⟩ (.int .u8 (b2i e))) base gx gr c X R piv e := by
  obtain ⟨vp, hg, hp⟩ := h.piv
  refine ⟨⟨vp, ?_, Kd.R_far (p := ⟨gx, 2, none⟩) hp (fun k hk => hk.2.1) _⟩, ?_, h.baseX, h.baseR, h.ne⟩
  · rw [blk_set hg]
    rfl
  · have := Kd.S_types h.rows hg (by decide)
    exact Kd.S_mono (Kd.S_far (p := ⟨gx, 2, none⟩) this (fun k hk => hk.2) _) (fun _ hk => hk.1)
/-- 'x.rows[i] = y', y made since w. -/
theorem Elim.putRow (h : Elim w base gx gr c X R piv d) {v : Value} {y : List B} (hb : Below w.heap.size w w1) (hv : Kd.R (Kd.int .u8) 5 w1 w.heap.size (fun _ => True) v (up y)) (i : Nat) (hi : i < R.length) :
    Elim (w1.setCell ⟨gr, i, none⟩ v) base gx gr c X (R.set i y) piv d := by
  have h1 := h.below hb
  obtain ⟨vp, hg, hp⟩ := h1.piv
  have hS := S_put_fresh h.rows hb hv (Nat.le_trans h.baseX (Nat.le_of_lt h.lt)) h.ltr (i : Int) (by omega) (by omega)
  rw [Int.toNat_natCast, set_up2] at hS
  refine ⟨⟨vp, ?_, Kd.R_far (p := ⟨gr, i, none⟩) hp (fun k hk => hk.2.2) _⟩, ?_, h.baseX, h.baseR, h.ne⟩
  · rw [List.length_set]
    exact (Below.heap_setCell w1 _ v gx h.ne).trans hg
  · rw [List.length_set]
    exact hS
theorem Elim.cells (h : Elim w base gx gr c X R piv d) : w.cell? ⟨gx, 0, none⟩ = some (.slice (some ⟨gr, 0, none⟩) R.length c) ∧ w.cell? ⟨gx, 2, none⟩ = some (.int .u8 (b2i d)) ∧ ∀ j, w.frozen? ⟨gx, j, none⟩ = false := by
  obtain ⟨vp, hg, hp⟩ := h.piv
  exact ⟨by rw [blk_cell hg]; rfl, by rw [blk_cell hg]; rfl, fun j => blk_frozen hg j⟩
theorem Elim.read (h : Elim w base gx gr c X R piv d) (i : Nat) (hi : i < R.length) :
    ∃ A co, w.cell? ⟨gr, i, none⟩ = some (.slice A (up (R.getD i [])).length co) ∧ (up (R.getD i [])).length ≤ co ∧ (Kd.int .u8).C w A (up (R.getD i [])).length (up (R.getD i [])) ∧ w.frozen? ⟨gr, i, none⟩ = false := by
  obtain ⟨_, ce, hcl3, hM3, hcc3, hfr3, _, _⟩ := Kd.S_elem h.rows [] (i : Int) (by omega) (by omega)
  obtain ⟨ve, rfl, ge⟩ := hM3
  have hxo := hcc3 0 _ rfl
  have hfo := hfr3 0
  rw [show (i : Int).toNat * (D).sz + 0 = i from by rw [Int.toNat_natCast]; show i * 1 + 0 = i; omega] at hxo hfo
  rw [Int.toNat_natCast, getD_up2'] at ge
  obtain ⟨Ao, co, rfl⟩ := Kd.R_slice ge
  obtain ⟨_, hoc, hoR⟩ := Kd.R_reads' ge
  exact ⟨Ao, co, hxo, hoc, hoR, hfo⟩
end
/-- The row after 'scale'. -/
def scaleRow (R : List (List B)) (row col : Nat) : List (List B) := R.set row ((R.getD row []).map fun x => gmul x (ginv ((R.getD row []).getD col 0)))
set_option maxRecDepth 100000 in
set_option maxHeartbeats 2000000 in
theorem escale_calls {w : World} {base gx gr c : Nat} {X : Nat → Prop} {R : List (List B)} {piv : List Int} {d : B} (h : Elim w base gx gr c X R piv d) (row col : Nat) (hrow : row < R.length) (hcol : col < (R.getD row []).length) (hlim : (R.getD row []).length ≤ 140737488351232) (hn : R.length ≤ 9223372036854775807) :
    Calls Try.prog 103 #[.pointer (some ⟨gx, 0, none⟩), .int .i64 (row : Int), .int .i64 (col : Int)] w fun e w' => e = .returned (.tuple #[]) ∧ Elim w' base gx gr c X (scaleRow R row col) piv (gmul d ((R.getD row []).getD col 0)) ∧ FrameE w w' gx gr := by
  obtain ⟨hx0, hx2, hfx⟩ := h.cells
  have hfx2 := hfx 2
  obtain ⟨A, co, hxr, hlr, hCr, hfr⟩ := h.read row hrow
  have HE := Aside0.mk h
  clear hfx h
  obtain ⟨ad, e, hxb⟩ := Kd.at_int hCr (col : Int) (by omega) (by rw [up_length]; omega)
  subst e
  rw [Int.toNat_natCast, getD_up] at hxb
  have HCR := Aside0.mk hCr
  have HLR := Aside0.mk hlr
  have HLIM := Aside0.mk hlim
  have HSR := Aside0.mk (show scaleRow R row col = R.set row ((R.getD row []).map fun x => gmul x (ginv ((R.getD row []).getD col 0))) from rfl)
  have r0 : (0 : Int) ≤ (row : Int) := by omega
  have r1 : (row : Int) < (R.length : Int) := by omega
  have c0' : (0 : Int) ≤ (col : Int) := by omega
  have c1' : (col : Int) < ((up (R.getD row [])).length : Int) := by rw [up_length]; omega
  have hgx := HE.out.ne
  have hgx' : gr ≠ gx := Ne.symm hgx
  clear hcol hlim hCr hlr
  generalize hrr : R.getD row [] = rr at hxr hxb HCR HLR HLIM HSR c1' ⊢
  generalize hpp : rr.getD col 0 = pp at hxb HSR ⊢
  have HRR := Aside0.mk hrr
  clear hrr hpp
  have HM := Aside0.mk (mul_b d pp (k := 9) (by omega))
  have HI := Aside0.mk (inv_b pp (k := 18) (by omega))
  generalize (if pp = 0 then (1 : Int) else 0) = ec at HI
  go_enter Try.func103, Try.ntmps103
  go_wp2_with (first | (go_at_call 68; (with_reducible refine (gf256_Mul.calls 9 _ _ _ _ HM.out).mono ?_); rintro e w' ⟨rfl, ⟨n1, rfl⟩⟩) | (go_at_call 78; (with_reducible refine (gf256_Inv.calls 18 _ _ _ _ HI.out).mono ?_); rintro e w' ⟨rfl, ⟨n2, rfl⟩⟩))
  have hEW := ((HE.out.drewN n1).setDet (gmul d pp)).drewN n2
  have hFW : FrameE w (((w.drewN n1).setCell ⟨gx, 2, none⟩ (.int .u8 (b2i (gmul d pp)))).drewN n2) gx gr := (((FrameE.refl w gx gr).drewN n1).set (p := ⟨gx, 2, none⟩) (.inl rfl) _).drewN n2
  generalize (((w.drewN n1).setCell ⟨gx, 2, none⟩ (.int .u8 (b2i (gmul d pp)))).drewN n2) = W at hEW hFW ⊢
  clear hx0 hx2 hfx2 hfr hxr hxb HCR HLR
  have HEW := Aside0.mk hEW
  have HFW := Aside0.mk hFW
  obtain ⟨hx0, _, _⟩ := hEW.cells
  obtain ⟨A2, co2, hxr, hlr, hCr, hfr⟩ := hEW.read row hrow
  rw [HRR.out] at hxr hlr hCr
  have HCR := Aside0.mk hCr
  have HLR := Aside0.mk hlr
  have HS := Aside0.mk (scale_up rr (ginv pp) HLIM.out)
  have hgl := hEW.ltr
  clear hCr hlr hEW hFW
  go_region_with
    (first | (go_at_call 88; refine (gf256_Scale.calls _ _ (up rr) _ _ _ (by exact Kd.C_drew HCR.out) HLR.out HS.out).mono ?_; rintro e w4 ⟨v4, rfl, hv4, hb4⟩; have hx4 : w4.cell? ⟨gr, row, none⟩ = some (.slice A2 (up rr).length co2) := (hb4.cell hgl).trans hxr; have hf4 : w4.frozen? ⟨gr, row, none⟩ = false := (hb4.frozen hgl).trans hfr; have hx5 : w4.cell? ⟨gx, 0, none⟩ = some (.slice (some ⟨gr, 0, none⟩) R.length c) := (hb4.cell HEW.out.lt).trans hx0; have HV4 := Aside0.mk hv4; have HB4 := Aside0.mk hb4; obtain ⟨A4, c4, rfl⟩ := Kd.R_slice HV4.out; clear hv4 hb4))
  all_goals
    have hP := HEW.out.drew.putRow HB4.out HV4.out row hrow
    have HP := Aside0.mk hP
    have HFN := Aside0.mk (((HFW.out.drew).trans (FrameE.below HB4.out gx gr)).set (p := ⟨gr, row, none⟩) (.inr rfl) (.slice A4 (up (rr.map fun x => gmul x (ginv pp))).length c4))
    clear hP
    go_wp2
    go_end0
    exact ⟨rfl, by rw [HSR.out]; exact HP.out, HFN.out⟩
end Go.Proofs.Ytpkghpljgjlmjaa.K
/- The elimination of package matrix: clear. -/
namespace Go.Proofs.Ytpkghpljgjlmjaa.K
open Go.RowKit Go.Proofs.YtpkghpljgjlmjaaW.PrintWords Go.Proofs.YtpkghpljgjlmjaaW.PrintLast Go.Proofs.YtpkghpljgjlmjaaW.PrintMore Kin
set_option linter.unusedVariables false
set_option linter.unusedSimpArgs false

/-- A row after 'clear': its element in the column becomes 0 by the pivot's row. -/
def clearRow (pr : List B) (col : Nat) (r : List B) : List B := if r.getD col 0 = 0 then r else addS r pr (r.getD col 0)
def clearUpto (R : List (List B)) (row col k : Nat) : List (List B) := R.mapIdx fun i r => if i < k ∧ i ≠ row then clearRow (R.getD row []) col r else r
def clearRows (R : List (List B)) (row col : Nat) : List (List B) := R.mapIdx fun i r => if i ≠ row then clearRow (R.getD row []) col r else r
theorem clearUpto_length (R : List (List B)) (row col k : Nat) : (clearUpto R row col k).length = R.length := by simp [clearUpto]
theorem clearUpto_zero (R : List (List B)) (row col : Nat) : clearUpto R row col 0 = R := by
  unfold clearUpto
  apply List.ext_getElem
  · simp
  · intro i h1 h2
    simp
theorem clearUpto_all (R : List (List B)) (row col : Nat) : clearUpto R row col R.length = clearRows R row col := by
  unfold clearUpto clearRows
  apply List.ext_getElem
  · simp
  · intro i h1 h2
    have : i < R.length := by simpa using h1
    simp [this]
theorem clearUpto_get (R : List (List B)) (row col k i : Nat) (hi : i < R.length) : (clearUpto R row col k).getD i [] = if i < k ∧ i ≠ row then clearRow (R.getD row []) col (R.getD i []) else R.getD i [] := by
  simp [clearUpto, List.getD_eq_getElem?_getD, List.getElem?_mapIdx, List.getElem?_eq_getElem hi]
theorem clearUpto_succ (R : List (List B)) (row col i : Nat) (hi : i < R.length) : clearUpto R row col (i + 1) = (clearUpto R row col i).set i (if i ≠ row then clearRow (R.getD row []) col (R.getD i []) else R.getD i []) := by
  unfold clearUpto
  apply List.ext_getElem
  · simp
  · intro j h1 h2
    have hj : j < R.length := by simpa using h1
    rw [List.getElem_mapIdx, List.getElem_set]
    by_cases hij : i = j
    · subst hij
      simp [List.getD_eq_getElem?_getD, List.getElem?_eq_getElem hi]
    · rw [if_neg hij, List.getElem_mapIdx]
      have : (j < i + 1) ↔ (j < i) := by omega
      simp only [this]
theorem getD_mem' {α : Type} {l : List (List α)} {i : Nat} (h : i < l.length) : l.getD i [] ∈ l := by
  rw [List.getD_eq_getElem?_getD, List.getElem?_eq_getElem h]
  exact List.getElem_mem h
theorem set_getD_self (l : List (List B)) (i : Nat) : l.set i (l.getD i []) = l := by
  apply List.ext_getElem
  · simp
  · intro j h1 h2
    rw [List.getElem_set]
    split
    · rename_i h
      subst h
      simp [List.getD_eq_getElem?_getD, List.getElem?_eq_getElem h2]
    · rfl
def f104.T4 : Bool × List (List Nat × List Nat) := (true, [([], []), ([0], [0]), ([1], [1]), ([2], [2]), ([], []), ([], []), ([5], [5]), ([6], [6]), ([7], [7]), ([], []), ([8, 9], [8, 9]), ([10], [10]), ([], []), ([12], [12]), ([13], [13]), ([14], [14]), ([], []), ([15, 16], [15, 16]), ([17], [17]), ([], []), ([19], [19]), ([20], [20]), ([21], [21]), ([], []), ([22, 23], [22, 23]), ([24], [24]), ([], []), ([25, 26], [25, 26]), ([27], [27]), ([11, 18, 28], [11, 18, 28]), ([29], [29]), ([30], [30]), ([30], [30]), ([3, 4, 0, 1, 2, 3, 4, 5, 6, 7, 8, 9, 10, 11, 12, 13, 14, 15, 16, 17, 18, 19, 20, 21, 22, 23, 24, 25, 26, 27, 28, 29, 30, 31], [3, 4]), ([33, 31, 29, 0, 1, 2, 3, 4, 5, 6, 7, 8, 9, 10, 11, 12, 13, 14, 15, 16, 17, 18, 19, 20, 21, 22, 23, 24, 25, 26, 27, 28, 29, 30, 31], [31, 33])])
def f104.B4 : List Nat := [0, 1, 3, 7, 0, 0, 32, 96, 224, 0, 992, 2016, 0, 4096, 12288, 28672, 0, 126976, 258048, 0, 524288, 1572864, 3670016, 0, 16252928, 33030144, 0, 133693440, 267911168, 536870880, 1073741792, 2147483616, 2147483616, 4294967295, 12884901887]
theorem f104.tab4 : rtab .any (opsOf Try.f104 4) = f104.T4 := by kernel_rfl
theorem f104.bits4 : waitsOk f104.T4.2 f104.B4 = true := by kernel_rfl
set_option maxRecDepth 100000 in
set_option maxHeartbeats 8000000 in
theorem eclear_calls {w : World} {base gx gr c m : Nat} {X : Nat → Prop} {R : List (List B)} {piv : List Int} {d : B} (h : Elim w base gx gr c X R piv d) (row col : Nat) (hrow : row < R.length) (hm : ∀ r ∈ R, r.length = m) (hcol : col < m) (hlim : m ≤ 140737488351232) (hn : R.length ≤ 9223372036854775807) :
    Calls Try.prog 104 #[.pointer (some ⟨gx, 0, none⟩), .int .i64 (row : Int), .int .i64 (col : Int)] w fun e w' => e = .returned (.tuple #[]) ∧ Elim w' base gx gr c X (clearRows R row col) piv d ∧ FrameE w w' gx gr := by
  have hx0 := h.cells.1
  have HEE := Aside0.mk h
  have HM := Aside0.mk hm
  have HLIM := Aside0.mk hlim
  clear h hm hlim
  go_enter Try.func104, Try.ntmps104
  go_wp2
  clear hx0
  go_loopw [12] (fun v12 wr => ∃ i : Nat, i ≤ R.length ∧ v12 = .int .i64 (i : Int) ∧ Aside0 (Elim wr base gx gr c X (clearUpto R row col i) piv d ∧ FrameE w wr gx gr)) (fun v12 _ => R.length - (intOf v12).toNat)
  case atStart => exact ⟨0, by omega, rfl, ⟨by rw [clearUpto_zero]; exact HEE.out, FrameE.refl _ _ _⟩⟩
  case round =>
    obtain ⟨i, hi, rfl, HA⟩ := hrel
    by_cases hlt : i < R.length
    · by_cases hir : i = row
      · have hne : ((i : Int) != (row : Int)) = false := by rw [bne_eq_false_iff_eq]; omega
        have hU : clearUpto R row col (i + 1) = clearUpto R row col i := by
          rw [clearUpto_succ R row col i hlt, if_neg (by simpa using hir)]
          have := set_getD_self (clearUpto R row col i) i
          rw [clearUpto_get R row col i i hlt, if_neg (by omega)] at this
          exact this
        have HU := Aside0.mk hU
        clear hU hir
        go_wp2
        go_roundw
        case rel => exact ⟨i + 1, by omega, by go_num, ⟨by rw [HU.out]; exact HA.out.1, HA.out.2⟩⟩
        case measure => simp [intOf]; omega
      · have hne : ((i : Int) != (row : Int)) = true := by rw [bne_iff_ne]; omega
        obtain ⟨hx0, _, _⟩ := HA.out.1.cells
        obtain ⟨Ai, co, hxi, hli, hCi, hfi⟩ := HA.out.1.read i (by rw [clearUpto_length]; exact hlt)
        rw [clearUpto_get R row col i i hlt, if_neg (by omega)] at hxi hli hCi
        obtain ⟨Ap, cp, hxp, hlp, hCp, _⟩ := HA.out.1.read row (by rw [clearUpto_length]; exact hrow)
        rw [clearUpto_get R row col i row hrow, if_neg (by omega)] at hxp hlp hCp
        have hril := HM.out _ (getD_mem' (l := R) (i := i) hlt)
        have hprl := HM.out _ (getD_mem' (l := R) (i := row) hrow)
        have hU := clearUpto_succ R row col i hlt
        rw [if_pos (by simpa using hir), clearRow] at hU
        generalize hri : R.getD i [] = ri at hxi hli hCi hril hU
        generalize hpr : R.getD row [] = pr at hxp hlp hCp hprl hU
        obtain ⟨ad, e, hxb⟩ := Kd.at_int hCi (col : Int) (by omega) (by rw [up_length]; omega)
        subst e
        rw [Int.toNat_natCast, getD_up] at hxb
        generalize hx : ri.getD col 0 = x at hxb hU
        have HU := Aside0.mk hU
        have HRI := Aside0.mk hri
        have HRIL := Aside0.mk hril
        have HCI := Aside0.mk hCi
        have HCP := Aside0.mk hCp
        have HLI := Aside0.mk hli
        have HLP := Aside0.mk hlp
        have HE := Aside0.mk HA.out.1
        have HF := Aside0.mk HA.out.2
        have i0 : (0 : Int) ≤ (i : Int) := by omega
        have i1 : (i : Int) < ((clearUpto R row col i).length : Int) := by rw [clearUpto_length]; omega
        have r0 : (0 : Int) ≤ (row : Int) := by omega
        have r1 : (row : Int) < ((clearUpto R row col i).length : Int) := by rw [clearUpto_length]; omega
        have c0' : (0 : Int) ≤ (col : Int) := by omega
        have c1' : (col : Int) < ((up ri).length : Int) := by rw [up_length]; omega
        have HMA := Aside0.mk (muladd_up ri pr x (by omega) (by have := HLIM.out; omega) (k := ri.length + 1) (by omega))
        clear hU hri hpr hx hli hCi hlp hCp hril hprl hir
        by_cases hx0' : x = 0
        · have hz : (b2i x != 0) = false := by rw [bne_eq_false_iff_eq, hx0']; rfl
          have HUU := Aside0.mk (show clearUpto R row col (i + 1) = clearUpto R row col i by
            rw [HU.out, if_pos hx0', ← HRI.out]
            have := set_getD_self (clearUpto R row col i) i
            rw [clearUpto_get R row col i i hlt, if_neg (by omega)] at this
            exact this)
          clear hx0'
          go_wp2
          go_roundw
          case rel => exact ⟨i + 1, by omega, by go_num, ⟨by rw [HUU.out]; exact HE.out, HF.out⟩⟩
          case measure => simp [intOf]; omega
        · have hz : (b2i x != 0) = true := by rw [bne_iff_ne]; exact fun e => hx0' (b2i_eq_zero.1 e)
          have HUU := Aside0.mk (show clearUpto R row col (i + 1) = (clearUpto R row col i).set i (addS ri pr x) by rw [HU.out, if_neg hx0'])
          clear hx0'
          go_wp2
          refine start_ (n := 35) (S := fun w' => w'.cell? ⟨gx, 0, none⟩ = some (.slice (some ⟨gr, 0, none⟩) (clearUpto R row col i).length c) ∧ w'.cell? ⟨gr, i, none⟩ = some (.slice (some ad) (up ri).length co) ∧ w'.cell? ⟨gr, row, none⟩ = some (.slice Ap (up pr).length cp) ∧ w'.cell? (ad.add col) = some (.int .u8 (b2i x))) (ds := [34]) #[false, false, false, false, false, false, false, false, false, false, false, false, false, false, false, false, false, false, false, false, false, false, false, false, false, false, false, false, false, false, false, false, false, false, false] (by kernel_rfl) rfl rfl ⟨hx0, hxi, hxp, hxb⟩ (fun hHeld => ?_)
          refine with_tabW f104.tab4 f104.bits4 (fun HT_ HW_ => ?_)
          have hEW := HE.out.drew
          have hFW := HF.out.drew
          have hCi := Kd.C_drew HCI.out
          have hCp := Kd.C_drew HCP.out
          have hb1 := World.block_lt_of_cell? wr _ hxb
          replace hfi : wr.drew.frozen? ⟨gr, i, none⟩ = false := hfi
          replace hb1 : (ad.add col).block < wr.drew.heap.size := hb1
          clear hx0 hxi hxp hxb
          have HEW := Aside0.mk hEW
          have HFW := Aside0.mk hFW
          have HCi := Aside0.mk hCi
          have HCp := Aside0.mk hCp
          clear hEW hFW hCi hCp
          generalize wr.drew = W at HEW HFW HCi HCp hfi hb1 hHeld ⊢
          refine pure_ (i := 0) (N := some 32) (v := ?_) (a' := ?_) #[true, false, false, false, false, false, false, false, false, false, false, false, false, false, false, false, false, false, false, false, false, false, false, false, false, false, false, false, false, false, false, false, false, false, false] rfl rfl (any_of HT_.out (by kernel_rfl)) (fun _ _ _ h => h) (Or.inl ⟨by rfl, ?_⟩) ?_ ?_
          rotate_left
          · intro w'
            go_simp
            with_reducible rfl
          rotate_left
          · simp only [Act.put, List.setIfInBounds_toArray, List.set_cons_zero, List.set_cons_succ, i64_w, i32_w]
            rfl
          refine pure_ (i := 1) (N := some 33) (v := ?_) (a' := ?_) #[true, true, false, false, false, false, false, false, false, false, false, false, false, false, false, false, false, false, false, false, false, false, false, false, false, false, false, false, false, false, false, false, false, false, false] rfl rfl (any_of HT_.out (by kernel_rfl)) (fun _ _ _ h => h) (Or.inl ⟨by rfl, ?_⟩) ?_ ?_
          rotate_left
          · intro w'
            go_simp
            with_reducible rfl
          rotate_left
          · simp only [Act.put, List.setIfInBounds_toArray, List.set_cons_zero, List.set_cons_succ, i64_w, i32_w]
            rfl
          refine pure_ (i := 2) (N := some 34) (v := ?_) (a' := ?_) #[true, true, true, false, false, false, false, false, false, false, false, false, false, false, false, false, false, false, false, false, false, false, false, false, false, false, false, false, false, false, false, false, false, false, false] rfl rfl (any_of HT_.out (by kernel_rfl)) (fun _ _ _ h => h) (Or.inl ⟨by rfl, ?_⟩) ?_ ?_
          rotate_left
          · intro w'
            go_simp
            with_reducible rfl
          rotate_left
          · simp only [Act.put, List.setIfInBounds_toArray, List.set_cons_zero, List.set_cons_succ, i64_w, i32_w]
            rfl
          refine pure_ (i := 4) (N := some 36) (v := ?_) (a' := ?_) #[true, true, true, false, true, false, false, false, false, false, false, false, false, false, false, false, false, false, false, false, false, false, false, false, false, false, false, false, false, false, false, false, false, false, false] rfl rfl (any_of HT_.out (by kernel_rfl)) (fun _ _ _ h => h) (Or.inl ⟨by rfl, ?_⟩) ?_ ?_
          rotate_left
          · intro w'
            go_simp
            with_reducible rfl
          rotate_left
          · simp only [Act.put, List.setIfInBounds_toArray, List.set_cons_zero, List.set_cons_succ, i64_w, i32_w]
            rfl
          refine pure_ (i := 5) (N := some 37) (v := ?_) (a' := ?_) #[true, true, true, false, true, true, false, false, false, false, false, false, false, false, false, false, false, false, false, false, false, false, false, false, false, false, false, false, false, false, false, false, false, false, false] rfl rfl (any_of HT_.out (by kernel_rfl)) (fun _ _ _ h => h) (Or.inl ⟨by rfl, ?_⟩) ?_ ?_
          rotate_left
          · intro w'
            go_simp
            with_reducible rfl
          rotate_left
          · simp only [Act.put, List.setIfInBounds_toArray, List.set_cons_zero, List.set_cons_succ, i64_w, i32_w]
            rfl
          refine pure_ (i := 6) (N := some 38) (v := ?_) (a' := ?_) #[true, true, true, false, true, true, true, false, false, false, false, false, false, false, false, false, false, false, false, false, false, false, false, false, false, false, false, false, false, false, false, false, false, false, false] rfl rfl (any_of HT_.out (by kernel_rfl)) (fun _ _ _ h => h) (Or.inl ⟨by rfl, ?_⟩) ?_ ?_
          rotate_left
          · intro w'
            go_simp
            with_reducible rfl
          rotate_left
          · simp only [Act.put, List.setIfInBounds_toArray, List.set_cons_zero, List.set_cons_succ, i64_w, i32_w]
            rfl
          refine pure_ (i := 7) (N := some 39) (v := ?_) (a' := ?_) #[true, true, true, false, true, true, true, true, false, false, false, false, false, false, false, false, false, false, false, false, false, false, false, false, false, false, false, false, false, false, false, false, false, false, false] rfl rfl (any_of HT_.out (by kernel_rfl)) (fun _ _ _ h => h) (Or.inl ⟨by rfl, ?_⟩) ?_ ?_
          rotate_left
          · intro w'
            go_simp
            with_reducible rfl
          rotate_left
          · simp only [Act.put, List.setIfInBounds_toArray, List.set_cons_zero, List.set_cons_succ, i64_w, i32_w]
            rfl
          refine pure_ (i := 9) (N := some 41) (v := ?_) (a' := ?_) #[true, true, true, false, true, true, true, true, false, true, false, false, false, false, false, false, false, false, false, false, false, false, false, false, false, false, false, false, false, false, false, false, false, false, false] rfl rfl (any_of HT_.out (by kernel_rfl)) (fun _ _ _ h => h) (Or.inl ⟨by rfl, ?_⟩) ?_ ?_
          rotate_left
          · intro w'
            go_simp
            with_reducible rfl
          rotate_left
          · simp only [Act.put, List.setIfInBounds_toArray, List.set_cons_zero, List.set_cons_succ, i64_w, i32_w]
            rfl
          refine pure_ (i := 12) (N := some 44) (v := ?_) (a' := ?_) #[true, true, true, false, true, true, true, true, false, true, false, false, true, false, false, false, false, false, false, false, false, false, false, false, false, false, false, false, false, false, false, false, false, false, false] rfl rfl (any_of HT_.out (by kernel_rfl)) (fun _ _ _ h => h) (Or.inl ⟨by rfl, ?_⟩) ?_ ?_
          rotate_left
          · intro w'
            go_simp
            with_reducible rfl
          rotate_left
          · simp only [Act.put, List.setIfInBounds_toArray, List.set_cons_zero, List.set_cons_succ, i64_w, i32_w]
            rfl
          refine pure_ (i := 13) (N := some 45) (v := ?_) (a' := ?_) #[true, true, true, false, true, true, true, true, false, true, false, false, true, true, false, false, false, false, false, false, false, false, false, false, false, false, false, false, false, false, false, false, false, false, false] rfl rfl (any_of HT_.out (by kernel_rfl)) (fun _ _ _ h => h) (Or.inl ⟨by rfl, ?_⟩) ?_ ?_
          rotate_left
          · intro w'
            go_simp
            with_reducible rfl
          rotate_left
          · simp only [Act.put, List.setIfInBounds_toArray, List.set_cons_zero, List.set_cons_succ, i64_w, i32_w]
            rfl
          refine pure_ (i := 14) (N := some 46) (v := ?_) (a' := ?_) #[true, true, true, false, true, true, true, true, false, true, false, false, true, true, true, false, false, false, false, false, false, false, false, false, false, false, false, false, false, false, false, false, false, false, false] rfl rfl (any_of HT_.out (by kernel_rfl)) (fun _ _ _ h => h) (Or.inl ⟨by rfl, ?_⟩) ?_ ?_
          rotate_left
          · intro w'
            go_simp
            with_reducible rfl
          rotate_left
          · simp only [Act.put, List.setIfInBounds_toArray, List.set_cons_zero, List.set_cons_succ, i64_w, i32_w]
            rfl
          refine pure_ (i := 16) (N := some 48) (v := ?_) (a' := ?_) #[true, true, true, false, true, true, true, true, false, true, false, false, true, true, true, false, true, false, false, false, false, false, false, false, false, false, false, false, false, false, false, false, false, false, false] rfl rfl (any_of HT_.out (by kernel_rfl)) (fun _ _ _ h => h) (Or.inl ⟨by rfl, ?_⟩) ?_ ?_
          rotate_left
          · intro w'
            go_simp
            with_reducible rfl
          rotate_left
          · simp only [Act.put, List.setIfInBounds_toArray, List.set_cons_zero, List.set_cons_succ, i64_w, i32_w]
            rfl
          refine pure_ (i := 19) (N := some 51) (v := ?_) (a' := ?_) #[true, true, true, false, true, true, true, true, false, true, false, false, true, true, true, false, true, false, false, true, false, false, false, false, false, false, false, false, false, false, false, false, false, false, false] rfl rfl (any_of HT_.out (by kernel_rfl)) (fun _ _ _ h => h) (Or.inl ⟨by rfl, ?_⟩) ?_ ?_
          rotate_left
          · intro w'
            go_simp
            with_reducible rfl
          rotate_left
          · simp only [Act.put, List.setIfInBounds_toArray, List.set_cons_zero, List.set_cons_succ, i64_w, i32_w]
            rfl
          refine pure_ (i := 20) (N := some 52) (v := ?_) (a' := ?_) #[true, true, true, false, true, true, true, true, false, true, false, false, true, true, true, false, true, false, false, true, true, false, false, false, false, false, false, false, false, false, false, false, false, false, false] rfl rfl (any_of HT_.out (by kernel_rfl)) (fun _ _ _ h => h) (Or.inl ⟨by rfl, ?_⟩) ?_ ?_
          rotate_left
          · intro w'
            go_simp
            with_reducible rfl
          rotate_left
          · simp only [Act.put, List.setIfInBounds_toArray, List.set_cons_zero, List.set_cons_succ, i64_w, i32_w]
            rfl
          refine pure_ (i := 21) (N := some 53) (v := ?_) (a' := ?_) #[true, true, true, false, true, true, true, true, false, true, false, false, true, true, true, false, true, false, false, true, true, true, false, false, false, false, false, false, false, false, false, false, false, false, false] rfl rfl (any_of HT_.out (by kernel_rfl)) (fun _ _ _ h => h) (Or.inl ⟨by rfl, ?_⟩) ?_ ?_
          rotate_left
          · intro w'
            go_simp
            with_reducible rfl
          rotate_left
          · simp only [Act.put, List.setIfInBounds_toArray, List.set_cons_zero, List.set_cons_succ, i64_w, i32_w]
            rfl
          refine pure_ (i := 23) (N := some 55) (v := ?_) (a' := ?_) #[true, true, true, false, true, true, true, true, false, true, false, false, true, true, true, false, true, false, false, true, true, true, false, true, false, false, false, false, false, false, false, false, false, false, false] rfl rfl (any_of HT_.out (by kernel_rfl)) (fun _ _ _ h => h) (Or.inl ⟨by rfl, ?_⟩) ?_ ?_
          rotate_left
          · intro w'
            go_simp
            with_reducible rfl
          rotate_left
          · simp only [Act.put, List.setIfInBounds_toArray, List.set_cons_zero, List.set_cons_succ, i64_w, i32_w]
            rfl
          refine pure_ (i := 26) (N := some 58) (v := ?_) (a' := ?_) #[true, true, true, false, true, true, true, true, false, true, false, false, true, true, true, false, true, false, false, true, true, true, false, true, false, false, true, false, false, false, false, false, false, false, false] rfl rfl (any_of HT_.out (by kernel_rfl)) (fun _ _ _ h => h) (Or.inl ⟨by rfl, ?_⟩) ?_ ?_
          rotate_left
          · intro w'
            go_simp
            with_reducible rfl
          rotate_left
          · simp only [Act.put, List.setIfInBounds_toArray, List.set_cons_zero, List.set_cons_succ, i64_w, i32_w]
            rfl
          refine take_ (i := 3) (N := some 35) (v := ?_) (a' := ?_) #[true, true, true, true, true, true, true, true, false, true, false, false, true, true, true, false, true, false, false, true, true, true, false, true, false, false, true, false, false, false, false, false, false, false, false] rfl rfl (take_ofW HT_.out HW_.out (by kernel_rfl)) (fun _ _ _ h => h) (Or.inl ⟨by rfl, ?_⟩) hHeld ?_ ?_
          rotate_left
          · rintro w' ⟨s0, s1, s2, s3⟩
            go_simp
            with_reducible rfl
          rotate_left
          · simp only [Act.put, List.setIfInBounds_toArray, List.set_cons_zero, List.set_cons_succ, i64_w, i32_w]
            rfl
          refine take_ (i := 8) (N := some 40) (v := ?_) (a' := ?_) #[true, true, true, true, true, true, true, true, true, true, false, false, true, true, true, false, true, false, false, true, true, true, false, true, false, false, true, false, false, false, false, false, false, false, false] rfl rfl (take_ofW HT_.out HW_.out (by kernel_rfl)) (fun _ _ _ h => h) (Or.inl ⟨by rfl, ?_⟩) hHeld ?_ ?_
          rotate_left
          · rintro w' ⟨s0, s1, s2, s3⟩
            go_simp
            with_reducible rfl
          rotate_left
          · simp only [Act.put, List.setIfInBounds_toArray, List.set_cons_zero, List.set_cons_succ, i64_w, i32_w]
            rfl
          refine pure_ (i := 10) (N := some 42) (v := ?_) (a' := ?_) #[true, true, true, true, true, true, true, true, true, true, true, false, true, true, true, false, true, false, false, true, true, true, false, true, false, false, true, false, false, false, false, false, false, false, false] rfl rfl (any_of HT_.out (by kernel_rfl)) (fun _ _ _ h => h) (Or.inl ⟨by rfl, ?_⟩) ?_ ?_
          rotate_left
          · intro w'
            go_simp
            with_reducible rfl
          rotate_left
          · simp only [Act.put, List.setIfInBounds_toArray, List.set_cons_zero, List.set_cons_succ, i64_w, i32_w]
            rfl
          refine take_ (i := 11) (N := some 43) (v := ?_) (a' := ?_) #[true, true, true, true, true, true, true, true, true, true, true, true, true, true, true, false, true, false, false, true, true, true, false, true, false, false, true, false, false, false, false, false, false, false, false] rfl rfl (take_ofW HT_.out HW_.out (by kernel_rfl)) (fun _ _ _ h => h) (Or.inl ⟨by rfl, ?_⟩) hHeld ?_ ?_
          rotate_left
          · rintro w' ⟨s0, s1, s2, s3⟩
            go_simp
            with_reducible rfl
          rotate_left
          · simp only [Act.put, List.setIfInBounds_toArray, List.set_cons_zero, List.set_cons_succ, i64_w, i32_w]
            rfl
          refine take_ (i := 15) (N := some 47) (v := ?_) (a' := ?_) #[true, true, true, true, true, true, true, true, true, true, true, true, true, true, true, true, true, false, false, true, true, true, false, true, false, false, true, false, false, false, false, false, false, false, false] rfl rfl (take_ofW HT_.out HW_.out (by kernel_rfl)) (fun _ _ _ h => h) (Or.inl ⟨by rfl, ?_⟩) hHeld ?_ ?_
          rotate_left
          · rintro w' ⟨s0, s1, s2, s3⟩
            go_simp
            with_reducible rfl
          rotate_left
          · simp only [Act.put, List.setIfInBounds_toArray, List.set_cons_zero, List.set_cons_succ, i64_w, i32_w]
            rfl
          refine pure_ (i := 17) (N := some 49) (v := ?_) (a' := ?_) #[true, true, true, true, true, true, true, true, true, true, true, true, true, true, true, true, true, true, false, true, true, true, false, true, false, false, true, false, false, false, false, false, false, false, false] rfl rfl (any_of HT_.out (by kernel_rfl)) (fun _ _ _ h => h) (Or.inl ⟨by rfl, ?_⟩) ?_ ?_
          rotate_left
          · intro w'
            go_simp
            with_reducible rfl
          rotate_left
          · simp only [Act.put, List.setIfInBounds_toArray, List.set_cons_zero, List.set_cons_succ, i64_w, i32_w]
            rfl
          refine take_ (i := 18) (N := some 50) (v := ?_) (a' := ?_) #[true, true, true, true, true, true, true, true, true, true, true, true, true, true, true, true, true, true, true, true, true, true, false, true, false, false, true, false, false, false, false, false, false, false, false] rfl rfl (take_ofW HT_.out HW_.out (by kernel_rfl)) (fun _ _ _ h => h) (Or.inl ⟨by rfl, ?_⟩) hHeld ?_ ?_
          rotate_left
          · rintro w' ⟨s0, s1, s2, s3⟩
            go_simp
            with_reducible rfl
          rotate_left
          · simp only [Act.put, List.setIfInBounds_toArray, List.set_cons_zero, List.set_cons_succ, i64_w, i32_w]
            rfl
          refine take_ (i := 22) (N := some 54) (v := ?_) (a' := ?_) #[true, true, true, true, true, true, true, true, true, true, true, true, true, true, true, true, true, true, true, true, true, true, true, true, false, false, true, false, false, false, false, false, false, false, false] rfl rfl (take_ofW HT_.out HW_.out (by kernel_rfl)) (fun _ _ _ h => h) (Or.inl ⟨by rfl, ?_⟩) hHeld ?_ ?_
          rotate_left
          · rintro w' ⟨s0, s1, s2, s3⟩
            go_simp
            with_reducible rfl
          rotate_left
          · simp only [Act.put, List.setIfInBounds_toArray, List.set_cons_zero, List.set_cons_succ, i64_w, i32_w]
            rfl
          refine pure_ (i := 24) (N := some 56) (v := ?_) (a' := ?_) #[true, true, true, true, true, true, true, true, true, true, true, true, true, true, true, true, true, true, true, true, true, true, true, true, true, false, true, false, false, false, false, false, false, false, false] rfl rfl (any_of HT_.out (by kernel_rfl)) (fun _ _ _ h => h) (Or.inl ⟨by rfl, ?_⟩) ?_ ?_
          rotate_left
          · intro w'
            go_simp
            with_reducible rfl
          rotate_left
          · simp only [Act.put, List.setIfInBounds_toArray, List.set_cons_zero, List.set_cons_succ, i64_w, i32_w]
            rfl
          refine take_ (i := 25) (N := some 57) (v := ?_) (a' := ?_) #[true, true, true, true, true, true, true, true, true, true, true, true, true, true, true, true, true, true, true, true, true, true, true, true, true, true, true, false, false, false, false, false, false, false, false] rfl rfl (take_ofW HT_.out HW_.out (by kernel_rfl)) (fun _ _ _ h => h) (Or.inl ⟨by rfl, ?_⟩) hHeld ?_ ?_
          rotate_left
          · rintro w' ⟨s0, s1, s2, s3⟩
            go_simp
            with_reducible rfl
          rotate_left
          · simp only [Act.put, List.setIfInBounds_toArray, List.set_cons_zero, List.set_cons_succ, i64_w, i32_w]
            rfl
          refine pure_ (i := 27) (N := some 59) (v := ?_) (a' := ?_) #[true, true, true, true, true, true, true, true, true, true, true, true, true, true, true, true, true, true, true, true, true, true, true, true, true, true, true, true, false, false, false, false, false, false, false] rfl rfl (any_of HT_.out (by kernel_rfl)) (fun _ _ _ h => h) (Or.inl ⟨by rfl, ?_⟩) ?_ ?_
          rotate_left
          · intro w'
            go_simp
            with_reducible rfl
          rotate_left
          · simp only [Act.put, List.setIfInBounds_toArray, List.set_cons_zero, List.set_cons_succ, i64_w, i32_w]
            rfl
          refine take_ (i := 28) (N := some 60) (v := ?_) (a' := ?_) #[true, true, true, true, true, true, true, true, true, true, true, true, true, true, true, true, true, true, true, true, true, true, true, true, true, true, true, true, true, false, false, false, false, false, false] rfl rfl (take_ofW HT_.out HW_.out (by kernel_rfl)) (fun _ _ _ h => h) (Or.inl ⟨by rfl, ?_⟩) hHeld ?_ ?_
          rotate_left
          · rintro w' ⟨s0, s1, s2, s3⟩
            go_simp
            with_reducible rfl
          rotate_left
          · simp only [Act.put, List.setIfInBounds_toArray, List.set_cons_zero, List.set_cons_succ, i64_w, i32_w]
            rfl
          refine one_ (i := 29) (N := some 61) #[true, true, true, true, true, true, true, true, true, true, true, true, true, true, true, true, true, true, true, true, true, true, true, true, true, true, true, true, true, true, false, false, false, false, false] rfl rfl (one_of HT_.out (by kernel_rfl)) (by decide) (fun K hK => ?_)
          refine goes_ Try.func66 (by kernel_rfl) rfl #[.slice (some ad) (up ri).length co, .slice Ap (up pr).length cp, .int .u8 (b2i x)] (by rfl) rfl rfl (by (try simp only [List.map_toArray, List.map_cons, List.map_nil]); first | done | rfl | (simp only [List.length_drop, List.length_take]; rfl)) ?_
          with_reducible refine (gf256_MulAdd.calls (ri.length + 1) _ _ (up ri) _ _ (up pr) _ _ _ _ HCi.out HLI.out HCp.out HLP.out HMA.out).mono ?_
          rintro e w4 ⟨v4, rfl, hv4, hb4⟩
          refine ⟨_, rfl, ?_⟩
          obtain ⟨A4, c4, rfl⟩ := Kd.R_slice hv4
          have HV4 := Aside0.mk hv4
          have HB4 := Aside0.mk hb4
          have hf4 : w4.frozen? ⟨gr, i, none⟩ = false := (hb4.frozen HEW.out.ltr).trans hfi
          refine hK.out _ _ ⟨(hb4.cell HEW.out.lt).trans hHeld.1, (hb4.cell HEW.out.ltr).trans hHeld.2.1, (hb4.cell HEW.out.ltr).trans hHeld.2.2.1, (hb4.cell hb1).trans hHeld.2.2.2⟩ (fun hHeld => ?_)
          clear hv4 hb4
          have hxr4 := hHeld.2.1
          clear hK K
          refine norm_ (a' := ?_) ?_ ?_
          rotate_left
          · show Act.put _ (some 61) _ = _
            simp only [Act.put, List.setIfInBounds_toArray, List.set_cons_zero, List.set_cons_succ, i64_w, i32_w]
            rfl
          refine pure_ (i := 30) (N := some 31) (v := ?_) (a' := ?_) #[true, true, true, true, true, true, true, true, true, true, true, true, true, true, true, true, true, true, true, true, true, true, true, true, true, true, true, true, true, true, true, false, false, false, false] rfl rfl (any_of HT_.out (by kernel_rfl)) (fun _ _ _ h => h) (Or.inl ⟨by rfl, ?_⟩) ?_ ?_
          rotate_left
          · intro w'
            go_simp
            with_reducible rfl
          rotate_left
          · simp only [Act.put, List.setIfInBounds_toArray, List.set_cons_zero, List.set_cons_succ, i64_w, i32_w]
            rfl
          refine pure_ (i := 31) (N := some 62) (v := ?_) (a' := ?_) #[true, true, true, true, true, true, true, true, true, true, true, true, true, true, true, true, true, true, true, true, true, true, true, true, true, true, true, true, true, true, true, true, false, false, false] rfl rfl (any_of HT_.out (by kernel_rfl)) (fun _ _ _ h => h) (Or.inl ⟨by rfl, ?_⟩) ?_ ?_
          rotate_left
          · intro w'
            go_simp
            with_reducible rfl
          rotate_left
          · simp only [Act.put, List.setIfInBounds_toArray, List.set_cons_zero, List.set_cons_succ, i64_w, i32_w]
            rfl
          refine pure_ (i := 32) (N := some 63) (v := ?_) (a' := ?_) #[true, true, true, true, true, true, true, true, true, true, true, true, true, true, true, true, true, true, true, true, true, true, true, true, true, true, true, true, true, true, true, true, true, false, false] rfl rfl (any_of HT_.out (by kernel_rfl)) (fun _ _ _ h => h) (Or.inl ⟨by rfl, ?_⟩) ?_ ?_
          rotate_left
          · intro w'
            go_simp
            with_reducible rfl
          rotate_left
          · simp only [Act.put, List.setIfInBounds_toArray, List.set_cons_zero, List.set_cons_succ, i64_w, i32_w]
            rfl
          refine pure_ (i := 33) (N := some 64) (v := ?_) (a' := ?_) #[true, true, true, true, true, true, true, true, true, true, true, true, true, true, true, true, true, true, true, true, true, true, true, true, true, true, true, true, true, true, true, true, true, true, false] rfl rfl (any_of HT_.out (by kernel_rfl)) (fun _ _ _ h => h) (Or.inl ⟨by rfl, ?_⟩) ?_ ?_
          rotate_left
          · intro w'
            go_simp
            with_reducible rfl
          rotate_left
          · simp only [Act.put, List.setIfInBounds_toArray, List.set_cons_zero, List.set_cons_succ, i64_w, i32_w]
            rfl
          refine last_ (i := 34) (N := none) #[true, true, true, true, true, true, true, true, true, true, true, true, true, true, true, true, true, true, true, true, true, true, true, true, true, true, true, true, true, true, true, true, true, true, true] rfl rfl (one_of HT_.out (by kernel_rfl)) (by decide) (fun K hK => ?_)
          refine skip_ (w1 := ?_) (by rfl) rfl ?_ ?_
          rotate_left
          · go_simp
            rfl
          refine hK.out _ _ ?_
          clear hK K
          refine done_ (done_of HT_.out (by kernel_rfl)) ?_
          have hP := HEW.out.putRow HB4.out HV4.out i (by rw [clearUpto_length]; exact hlt)
          have HP := Aside0.mk hP
          have HFN := Aside0.mk ((HFW.out.trans (FrameE.below HB4.out gx gr)).set (p := ⟨gr, i, none⟩) (.inr rfl) (.slice A4 (up (addS ri pr x)).length c4))
          clear hP
          go_wp2
          go_roundw
          case rel => exact ⟨i + 1, by omega, by go_num, ⟨by rw [HUU.out]; exact HP.out, HFN.out⟩⟩
          case measure => simp [intOf]; omega
    · obtain rfl : i = R.length := by omega
      have hU := HA.out.1
      rw [clearUpto_all] at hU
      have HU := Aside0.mk hU
      clear hU
      go_wp2
      go_end0
      exact ⟨rfl, HU.out, HA.out.2⟩
end Go.Proofs.Ytpkghpljgjlmjaa.K
/- The elimination of package matrix: the closure find of run. -/
namespace Go.Proofs.Ytpkghpljgjlmjaa.K
open Go.RowKit Go.Proofs.YtpkghpljgjlmjaaW.PrintWords Go.Proofs.YtpkghpljgjlmjaaW.PrintLast Go.Proofs.YtpkghpljgjlmjaaW.PrintMore Kin
set_option linter.unusedVariables false
set_option linter.unusedSimpArgs false

/-- The first row from row on with an element other than 0 in the column. -/
def findRow (R : List (List B)) (row col : Nat) : Option Nat := (List.range R.length).find? fun i => decide (row ≤ i) && decide ((R.getD i []).getD col 0 ≠ 0)
def findInt (R : List (List B)) (row col : Nat) : Int := match findRow R row col with | some i => (i : Int) | none => -1
theorem findInt_some {R : List (List B)} {row col i : Nat} (hi : i < R.length) (hr : row ≤ i) (hx : (R.getD i []).getD col 0 ≠ 0) (hb : ∀ j, row ≤ j → j < i → (R.getD j []).getD col 0 = 0) : findInt R row col = i := by
  have : findRow R row col = some i := by
    unfold findRow
    rw [List.find?_range_eq_some]
    refine ⟨by simp [hr, hx, -List.getD_eq_getElem?_getD], by simpa using hi, fun j hj => ?_⟩
    by_cases h : row ≤ j
    · simp [hb j h hj, -List.getD_eq_getElem?_getD]
    · simp [h]
  unfold findInt
  rw [this]
theorem findInt_none {R : List (List B)} {row col : Nat} (hb : ∀ j, row ≤ j → j < R.length → (R.getD j []).getD col 0 = 0) : findInt R row col = -1 := by
  have : findRow R row col = none := by
    unfold findRow
    rw [List.find?_range_eq_none]
    intro j hj
    by_cases h : row ≤ j
    · simp [hb j h hj, -List.getD_eq_getElem?_getD]
    · simp [h]
  unfold findInt
  rw [this]
set_option maxRecDepth 100000 in
set_option maxHeartbeats 2000000 in
theorem find_calls {w : World} {base gx gr c m : Nat} {X : Nat → Prop} {R : List (List B)} {piv : List Int} {d : B} (h : Elim w base gx gr c X R piv d) (grow gbx gcol row col : Nat)
    (hb : w.cell? ⟨gbx, 0, none⟩ = some (.pointer (some ⟨gx, 0, none⟩))) (hr : w.cell? ⟨grow, 0, none⟩ = some (.int .i64 (row : Int))) (hc : w.cell? ⟨gcol, 0, none⟩ = some (.int .i64 (col : Int)))
    (hm : ∀ r ∈ R, r.length = m) (hcol : col < m) (hrow : row ≤ R.length) (hlim : m ≤ 140737488351232) (hn : R.length ≤ 9223372036854775807) :
    Calls Try.prog 102 #[.pointer (some ⟨grow, 0, none⟩), .pointer (some ⟨gbx, 0, none⟩), .pointer (some ⟨gcol, 0, none⟩)] w fun e w' => e = .returned (.int .i64 (findInt R row col)) ∧ Drawn0 w w' := by
  have hx0 := h.cells.1
  have HE := Aside0.mk h
  have HM := Aside0.mk hm
  clear h hm
  go_enter Try.func102, Try.ntmps102
  go_wp2
  go_loopw [4] (fun v4 wr => ∃ i : Nat, row ≤ i ∧ i ≤ R.length ∧ v4 = .int .i64 (i : Int) ∧ Aside0 ((∀ j, row ≤ j → j < i → (R.getD j []).getD col 0 = 0) ∧ Drawn0 w wr)) (fun v4 _ => R.length - (intOf v4).toNat)
  case atStart => exact ⟨row, Nat.le_refl _, hrow, rfl, ⟨fun j h1 h2 => absurd h2 (by omega), Drawn0.refl _⟩⟩
  case round =>
    obtain ⟨i, hri, hi, rfl, HA⟩ := hrel
    obtain ⟨n1, hn1⟩ := HA.out.2.out
    subst hn1
    by_cases hlt : i < R.length
    · obtain ⟨Ai, co, hxi, hli, hCi, _⟩ := HE.out.read i hlt
      have hril := HM.out _ (getD_mem' (l := R) (i := i) hlt)
      generalize hrr : R.getD i [] = ri at hxi hli hCi hril
      obtain ⟨ad, e, hxb⟩ := Kd.at_int hCi (col : Int) (by omega) (by rw [up_length]; omega)
      subst e
      rw [Int.toNat_natCast, getD_up] at hxb
      generalize hxx : ri.getD col 0 = x at hxb
      have HRR := Aside0.mk hrr
      have HXX := Aside0.mk hxx
      have i0 : (0 : Int) ≤ (i : Int) := by omega
      have i1 : (i : Int) < (R.length : Int) := by omega
      have c0' : (0 : Int) ≤ (col : Int) := by omega
      have c1' : (col : Int) < ((up ri).length : Int) := by rw [up_length]; omega
      clear hrr hxx hli hCi hril
      by_cases hx0' : x = 0
      · have hz : (b2i x != 0) = false := by rw [bne_eq_false_iff_eq, hx0']; rfl
        have HZ := Aside0.mk hx0'
        clear hx0'
        go_wp2
        go_quiet (fail)
        go_wp2
        go_roundw
        case rel =>
          refine ⟨i + 1, by omega, by omega, by go_num, ⟨fun j h1 h2 => ?_, ⟨⟨_, rfl⟩⟩⟩⟩
          by_cases hji : j = i
          · subst hji
            rw [HRR.out, HXX.out, HZ.out]
          · exact HA.out.1 j h1 (by omega)
        case measure => simp [intOf]; omega
      · have hz : (b2i x != 0) = true := by rw [bne_iff_ne]; exact fun e => hx0' (b2i_eq_zero.1 e)
        have HF := Aside0.mk (findInt_some hlt hri (by rw [HRR.out, HXX.out]; exact hx0') HA.out.1)
        clear hx0'
        go_wp2
        go_quiet (fail)
        go_wp2
        go_ret
        exact ⟨by rw [HF.out]; rfl, HA.out.2.step _⟩
    · obtain rfl : i = R.length := by omega
      have HF := Aside0.mk (findInt_none HA.out.1)
      go_wp2
      go_ret
      exact ⟨by rw [HF.out]; rfl, HA.out.2⟩
end Go.Proofs.Ytpkghpljgjlmjaa.K
/- Words of this claim's own: two rows of a row of rows change their places. -/
namespace Go.Proofs.Ytpkghpljgjlmjaa.K
open Go.RowKit Go.Proofs.YtpkghpljgjlmjaaW.PrintWords Go.Proofs.YtpkghpljgjlmjaaW.PrintLast Go.Proofs.YtpkghpljgjlmjaaW.PrintMore
set_option linter.unusedVariables false

theorem swap_at {α : Type} (l : List α) (i j m : Nat) (x y : α) (hx : l[i]? = some x) (hy : l[j]? = some y) : ((l.set i y).set j x)[m]? = if m = j then some x else if m = i then some y else l[m]? := by
  have hi := (List.getElem?_eq_some_iff.1 hx).1
  have hj := (List.getElem?_eq_some_iff.1 hy).1
  by_cases h1 : m = j
  · subst h1
    rw [if_pos rfl, List.getElem?_set_self (by simpa using hj)]
  · rw [if_neg h1, List.getElem?_set_ne (by omega)]
    by_cases h2 : m = i
    · subst h2
      rw [if_pos rfl, List.getElem?_set_self hi]
    · rw [if_neg h2, List.getElem?_set_ne (by omega)]
section
variable {W : World} {base g n cap : Nat} {xs : List (List Int)}
theorem S_swap (hS : Kd.S D 34 W base (fun _ => True) (.slice (some ⟨g, 0, none⟩) n cap) xs) (i j : Nat) (x y : List Int) (vi vj : Value) (hx : xs[i]? = some x) (hy : xs[j]? = some y)
    (hvi : W.cell? ⟨g, i, none⟩ = some vi) (hvj : W.cell? ⟨g, j, none⟩ = some vj) :
    Kd.S D 34 ((W.setCell ⟨g, i, none⟩ vj).setCell ⟨g, j, none⟩ vi) base (fun _ => True) (.slice (some ⟨g, 0, none⟩) n cap) ((xs.set i y).set j x) := by
  obtain ⟨f, h0, inner, ho, hr⟩ := hS
  rw [List.length_zipIdx] at ho
  have hi := (List.getElem?_eq_some_iff.1 hx).1
  have hj := (List.getElem?_eq_some_iff.1 hy).1
  have hlen : inner.length = xs.length := by
    have := hr.1
    rw [List.length_zipIdx] at this
    have e : inner.length = xs.length * 1 := this
    omega
  have hini : inner[i]? = some vi := by
    have hc := ho.cells (g := g) rfl i inner[i] (List.getElem?_eq_getElem (by omega))
    rw [add_plain] at hc
    rw [List.getElem?_eq_getElem (by omega)]
    exact hc.symm.trans hvi
  have hinj : inner[j]? = some vj := by
    have hc := ho.cells (g := g) rfl j inner[j] (List.getElem?_eq_getElem (by omega))
    rw [add_plain] at hc
    rw [List.getElem?_eq_getElem (by omega)]
    exact hc.symm.trans hvj
  have hn : n = xs.length := by
    rcases ho.2 with ⟨he, _⟩ | ⟨g', cap', cur, he, _⟩
    · cases he
    · injection he
  subst hn
  have ho1 := (ho.stored i vj).1
  have ho2 := (ho1.stored j vi).1
  have hxl : ((xs.set i y).set j x).length = xs.length := by simp
  refine ⟨fun k => if f k = i then j else if f k = j then i else f k, h0, (inner.set i vj).set j vi, ?_, ?_, ?_⟩
  · rw [List.length_zipIdx, hxl]
    exact ho2
  · rw [List.length_zipIdx, hxl]
    show _ = xs.length * 1
    simp only [List.length_set]
    omega
  · intro m p hp
    rw [List.getElem?_zipIdx, Nat.zero_add, swap_at xs i j m x y hx hy] at hp
    have hz : (D).sz = 1 := rfl
    have hone : ∀ (l : List Value) (q : Nat) (u : Value), l[q]? = some u → (l.drop (q * 1)).take 1 = [u] := by
      intro l q u hu
      have hq := (List.getElem?_eq_some_iff.1 hu).1
      rw [Nat.mul_one, List.drop_eq_getElem_cons hq, List.take_succ_cons, List.take_zero]
      congr 1
      exact (List.getElem?_eq_some_iff.1 hu).2
    have key : ∀ (q : Nat) (z : List Int) (u : Value), xs[q]? = some z → inner[q]? = some u → (Kd.tag f D).M W base (fun k => True ∧ some k ≠ (Value.slice (some ⟨g, 0, none⟩) xs.length cap).ownBlock) (z, q) [u] := by
      intro q z u hz hu
      have h2 := hr.2 q (z, q) (by rw [List.getElem?_zipIdx, hz, Nat.zero_add]; rfl)
      have e : (inner.drop (q * 1)).take 1 = [u] := hone inner q u hu
      rw [show (Kd.tag f D).sz = 1 from rfl, e] at h2
      exact h2
    have move : ∀ (q m : Nat) (z : List Int) (u : Value), (Kd.tag f D).M W base (fun k => True ∧ some k ≠ (Value.slice (some ⟨g, 0, none⟩) xs.length cap).ownBlock) (z, q) [u] →
        (∀ k, f k = q → (if f k = i then j else if f k = j then i else f k) = m) →
        (Kd.tag (fun k => if f k = i then j else if f k = j then i else f k) D).M ((W.setCell ⟨g, i, none⟩ vj).setCell ⟨g, j, none⟩ vi) base (fun k => True ∧ some k ≠ (Value.slice (some ⟨g, 0, none⟩) xs.length cap).ownBlock) (z, m) [u] := by
      intro q m z u h hf
      have h2 : (D).M W base (fun k => (True ∧ some k ≠ (Value.slice (some ⟨g, 0, none⟩) xs.length cap).ownBlock) ∧ f k = q) z [u] := h
      have hne : ∀ k, ((True ∧ some k ≠ (Value.slice (some ⟨g, 0, none⟩) xs.length cap).ownBlock) ∧ f k = q) → k ≠ g := fun k hk e => hk.1.2 (by rw [e]; rfl)
      have h3 := Kd.M_far (p := ⟨g, j, none⟩) (Kd.M_far (p := ⟨g, i, none⟩) h2 hne vj) hne vi
      show (D).M _ base (fun k => (True ∧ some k ≠ (Value.slice (some ⟨g, 0, none⟩) xs.length cap).ownBlock) ∧ (if f k = i then j else if f k = j then i else f k) = m) z [u]
      exact (D).M_mono (fun k hk => ⟨hk.1, hf k hk.2⟩) h3
    rw [show (Kd.tag (fun k => if f k = i then j else if f k = j then i else f k) D).sz = 1 from rfl]
    by_cases h1 : m = j
    · subst h1
      rw [if_pos rfl] at hp
      have hp' : (x, m) = p := by simpa using hp
      subst hp'
      rw [hone _ m vi (by rw [swap_at inner i m m vi vj hini hinj, if_pos rfl])]
      exact move i m x vi (key i x vi hx hini) (fun k hk => by rw [if_pos hk])
    · rw [if_neg h1] at hp
      by_cases h2 : m = i
      · subst h2
        rw [if_pos rfl] at hp
        have hp' : (y, m) = p := by simpa using hp
        subst hp'
        rw [hone _ m vj (by rw [swap_at inner m j m vi vj hini hinj, if_neg h1, if_pos rfl])]
        exact move j m y vj (key j y vj hy hinj) (fun k hk => by
          by_cases h3 : f k = m
          · omega
          · rw [if_neg h3, if_pos hk])
      · rw [if_neg h2] at hp
        obtain ⟨z, hz, rfl⟩ := Option.map_eq_some_iff.1 hp
        have hm := (List.getElem?_eq_some_iff.1 hz).1
        have hu : inner[m]? = some inner[m] := List.getElem?_eq_getElem (by omega)
        rw [hone _ m inner[m] (by rw [swap_at inner i j m vi vj hini hinj, if_neg h1, if_neg h2]; exact hu)]
        exact move m m z _ (key m z _ hz hu) (fun k hk => by rw [if_neg (by omega), if_neg (by omega)]; exact hk)
end
end Go.Proofs.Ytpkghpljgjlmjaa.K
/- The elimination of package matrix: run and eliminate. -/
namespace Go.Proofs.Ytpkghpljgjlmjaa.K
open Go.RowKit Go.Proofs.YtpkghpljgjlmjaaW.PrintWords Go.Proofs.YtpkghpljgjlmjaaW.PrintLast Go.Proofs.YtpkghpljgjlmjaaW.PrintMore Kin
set_option linter.unusedVariables false
set_option linter.unusedSimpArgs false

def swapRows (R : List (List B)) (i j : Nat) : List (List B) := (R.set i (R.getD j [])).set j (R.getD i [])
/-- An elimination: its rows, its pivot columns, its determinant. -/
abbrev ES := List (List B) × List Nat × B
def elimStep (s : ES) (col : Nat) : ES :=
  match findRow s.1 s.2.1.length col with
  | none => s
  | some k => (clearRows (scaleRow (swapRows s.1 s.2.1.length k) s.2.1.length col) s.2.1.length col, s.2.1 ++ [col], gmul s.2.2 (((swapRows s.1 s.2.1.length k).getD s.2.1.length []).getD col 0))
def elimRun (R : List (List B)) (cols : Nat) : ES := (List.range cols).foldl elimStep (R, [], 1)
theorem elimRun_succ (R : List (List B)) (cols : Nat) : elimRun R (cols + 1) = elimStep (elimRun R cols) cols := by
  unfold elimRun
  rw [List.range_succ, List.foldl_append]
  rfl
theorem findRow_some {R : List (List B)} {row col k : Nat} (h : findRow R row col = some k) : row ≤ k ∧ k < R.length ∧ (R.getD k []).getD col 0 ≠ 0 := by
  unfold findRow at h
  rw [List.find?_range_eq_some] at h
  obtain ⟨h1, h2, _⟩ := h
  simp only [Bool.and_eq_true, decide_eq_true_eq] at h1
  exact ⟨h1.1, by simpa using h2, h1.2⟩
theorem findRow_full {R : List (List B)} {row col : Nat} (h : R.length ≤ row) : findRow R row col = none := by
  unfold findRow
  rw [List.find?_range_eq_none]
  intro j hj
  simp; omega
theorem swapRows_length (R : List (List B)) (i j : Nat) : (swapRows R i j).length = R.length := by simp [swapRows]
theorem scaleRow_length (R : List (List B)) (i j : Nat) : (scaleRow R i j).length = R.length := by simp [scaleRow]
theorem clearRows_length (R : List (List B)) (i j : Nat) : (clearRows R i j).length = R.length := by simp [clearRows]
theorem swapRows_rows {R : List (List B)} {m : Nat} (hm : ∀ r ∈ R, r.length = m) {i j : Nat} (hi : i < R.length) (hj : j < R.length) : ∀ r ∈ swapRows R i j, r.length = m := by
  intro r hr
  unfold swapRows at hr
  rcases List.mem_or_eq_of_mem_set hr with hr | rfl
  · rcases List.mem_or_eq_of_mem_set hr with hr | rfl
    · exact hm r hr
    · exact hm _ (getD_mem' hj)
  · exact hm _ (getD_mem' hi)
theorem scaleRow_rows {R : List (List B)} {m : Nat} (hm : ∀ r ∈ R, r.length = m) {i : Nat} (j : Nat) (hi : i < R.length) : ∀ r ∈ scaleRow R i j, r.length = m := by
  intro r hr
  unfold scaleRow at hr
  rcases List.mem_or_eq_of_mem_set hr with hr | rfl
  · exact hm r hr
  · rw [List.length_map]
    exact hm _ (getD_mem' hi)
theorem clearRow_length {pr r : List B} {m : Nat} (h1 : pr.length = m) (h2 : r.length = m) (col : Nat) : (clearRow pr col r).length = m := by
  unfold clearRow
  split
  · exact h2
  · rw [addS_length _ _ _ (by omega), h2]
theorem clearRows_rows {R : List (List B)} {m : Nat} (hm : ∀ r ∈ R, r.length = m) {i : Nat} (j : Nat) (hi : i < R.length) : ∀ r ∈ clearRows R i j, r.length = m := by
  intro r hr
  unfold clearRows at hr
  rw [List.mem_mapIdx] at hr
  obtain ⟨q, hq, rfl⟩ := hr
  split
  · exact clearRow_length (hm _ (getD_mem' hi)) (hm _ (List.getElem_mem hq)) j
  · exact hm _ (List.getElem_mem hq)
theorem elimStep_length (s : ES) (col : Nat) : (elimStep s col).1.length = s.1.length := by
  unfold elimStep
  split
  · rfl
  · simp [clearRows_length, scaleRow_length, swapRows_length]
theorem elimStep_piv {s : ES} (h : s.2.1.length ≤ s.1.length) (col : Nat) : (elimStep s col).2.1.length ≤ (elimStep s col).1.length := by
  rw [elimStep_length]
  unfold elimStep
  split
  · exact h
  · rename_i k hk
    have := findRow_some hk
    simp; omega
theorem elimStep_rows {s : ES} {m : Nat} (hm : ∀ r ∈ s.1, r.length = m) (col : Nat) : ∀ r ∈ (elimStep s col).1, r.length = m := by
  unfold elimStep
  split
  · exact hm
  · rename_i k hk
    have hk := findRow_some hk
    have h1 := swapRows_rows hm (i := s.2.1.length) (j := k) (by omega) (by omega)
    have h2 := scaleRow_rows h1 (i := s.2.1.length) col (by rw [swapRows_length]; omega)
    exact clearRows_rows h2 col (by rw [scaleRow_length, swapRows_length]; omega)
theorem elimRun_length (R : List (List B)) (cols : Nat) : (elimRun R cols).1.length = R.length := by
  induction cols with
  | zero => rfl
  | succ n ih => rw [elimRun_succ, elimStep_length, ih]
theorem elimRun_piv (R : List (List B)) (cols : Nat) : (elimRun R cols).2.1.length ≤ R.length := by
  have : (elimRun R cols).2.1.length ≤ (elimRun R cols).1.length := by
    induction cols with
    | zero => exact Nat.zero_le _
    | succ n ih => rw [elimRun_succ]; exact elimStep_piv ih n
  rwa [elimRun_length] at this
theorem elimRun_rows {R : List (List B)} {m : Nat} (hm : ∀ r ∈ R, r.length = m) (cols : Nat) : ∀ r ∈ (elimRun R cols).1, r.length = m := by
  induction cols with
  | zero => exact hm
  | succ n ih => rw [elimRun_succ]; exact elimStep_rows ih n
theorem elimRun_full {R : List (List B)} {n : Nat} (h : (elimRun R n).2.1.length = R.length) : ∀ k, elimRun R (n + k) = elimRun R n := by
  intro k
  induction k with
  | zero => rfl
  | succ k ih =>
    rw [← Nat.add_assoc, elimRun_succ, ih]
    unfold elimStep
    rw [findRow_full (by rw [elimRun_length, h]; exact Nat.le_refl _)]
def natInts (l : List Nat) : List Int := l.map fun (x : Nat) => (x : Int)
section
variable {w w1 : World} {base gx gr c : Nat} {X : Nat → Prop} {R : List (List B)} {piv : List Int} {d : B}
theorem Elim.swap (h : Elim w base gx gr c X R piv d) {i j : Nat} (hi : i < R.length) (hj : j < R.length) {vi vj : Value} (hvi : w.cell? ⟨gr, i, none⟩ = some vi) (hvj : w.cell? ⟨gr, j, none⟩ = some vj) :
    Elim ((w.setCell ⟨gr, i, none⟩ vj).setCell ⟨gr, j, none⟩ vi) base gx gr c X (swapRows R i j) piv d := by
  obtain ⟨vp, hg, hp⟩ := h.piv
  have hS := S_swap h.rows i j (up (R.getD i [])) (up (R.getD j [])) vi vj (by simp [up2, List.getD_eq_getElem?_getD, List.getElem?_eq_getElem hi]) (by simp [up2, List.getD_eq_getElem?_getD, List.getElem?_eq_getElem hj]) hvi hvj
  rw [set_up2, set_up2] at hS
  have hl : (swapRows R i j).length = R.length := swapRows_length R i j
  refine ⟨⟨vp, ?_, Kd.R_far (p := ⟨gr, j, none⟩) (Kd.R_far (p := ⟨gr, i, none⟩) hp (fun k hk => hk.2.2) _) (fun k hk => hk.2.2) _⟩, ?_, h.baseX, h.baseR, h.ne⟩
  · rw [hl]
    exact (Below.heap_setCell _ _ vi gx h.ne).trans ((Below.heap_setCell w _ vj gx h.ne).trans hg)
  · rw [hl]
    exact hS
end
end Go.Proofs.Ytpkghpljgjlmjaa.K
/- The elimination of package matrix: the walk of run. -/
namespace Go.Proofs.Ytpkghpljgjlmjaa.K
open Go.RowKit Go.Proofs.YtpkghpljgjlmjaaW.PrintWords Go.Proofs.YtpkghpljgjlmjaaW.PrintLast Go.Proofs.YtpkghpljgjlmjaaW.PrintMore Kin
set_option linter.unusedVariables false
set_option linter.unusedSimpArgs false
section
variable {w w1 : World} {base gx gr c : Nat} {X X' : Nat → Prop} {R : List (List B)} {piv piv1 : List Int} {d : B}
theorem Elim.weaken (h : Elim w base gx gr c X R piv d) (hX : ∀ k, X' k → X k) : Elim w base gx gr c X' R piv d := by
  obtain ⟨vp, hg, hp⟩ := h.piv
  exact ⟨⟨vp, hg, Kd.R_mono hp (fun k hk => ⟨fun hx => hk.1 (hX k hx), hk.2⟩)⟩, h.rows, h.baseX, h.baseR, h.ne⟩
theorem Elim.avoid (h : Elim w base gx gr c X R piv d) {g : Nat} (hg : w.heap.size ≤ g) : Elim w base gx gr c (fun k => X k ∨ k = g) R piv d := by
  obtain ⟨vp, hg', hp⟩ := h.piv
  exact ⟨⟨vp, hg', Kd.R_mono (Kd.R_bound hp) (fun k hk => ⟨fun hx => hx.elim hk.1.1 (fun e => by have := hk.2.2.1; omega), hk.1.2⟩)⟩, h.rows, h.baseX, h.baseR, h.ne⟩
theorem Elim.piv' (h : Elim w base gx gr c X R piv d) : ∃ vp, w.cell? ⟨gx, 1, none⟩ = some vp ∧ Kd.R (Kd.int .i64) 3 w base (fun k => ¬ X k ∧ k ≠ gx ∧ k ≠ gr) vp piv := by
  obtain ⟨vp, hg, hp⟩ := h.piv
  exact ⟨vp, by rw [blk_cell hg]; rfl, hp⟩
theorem Elim.setPiv (h : Elim w base gx gr c X R piv d) {vp : Value} (hvp : w.cell? ⟨gx, 1, none⟩ = some vp) {v1 : Value} (hr : Kd.R (Kd.int .i64) 3 w1 base (fun k => ¬ X k ∧ k ≠ gx ∧ k ≠ gr) v1 piv1) (hgb : w.grownBy w1 vp.ownBlock) :
    Elim (w1.setCell ⟨gx, 1, none⟩ v1) base gx gr c X R piv1 d := by
  obtain ⟨vp', hg, hp⟩ := h.piv
  have e : some vp' = some vp := by rw [← hvp, blk_cell hg]; rfl
  obtain rfl := Option.some.inj e
  have hg1 := (hgb.block gx h.lt (fun e => (hp.1 gx e.symm).2.1 rfl)).trans hg
  refine ⟨⟨v1, ?_, Kd.R_far (p := ⟨gx, 1, none⟩) hr (fun k hk => hk.2.1) _⟩, ?_, h.baseX, h.baseR, h.ne⟩
  · rw [blk_set hg1]
    rfl
  · obtain ⟨inner, ho⟩ := Kd.R_own hp
    have h2 := Kd.S_over' h.rows (v := vp') (e' := 3) (fun k hk => own_typed ho k hk) (by decide) hgb
    exact Kd.S_mono (Kd.S_far (p := ⟨gx, 1, none⟩) (Kd.S_types h2 hg1 (by decide)) (fun k hk => hk.2) _) (fun _ hk => hk.1)
theorem Elim.far (h : Elim w base gx gr c X R piv d) {g t : Nat} {cells : Array Value} (hb : w.heap[g]? = some (.cells cells t (0, 0))) (hX : X g) (h1 : g ≠ gx) (ht : ∀ q, q ∈ 34 :: D.E → q ≠ t) (j : Nat) (v : Value) : Elim (w.setCell ⟨g, j, none⟩ v) base gx gr c X R piv d := by
  obtain ⟨vp, hg, hp⟩ := h.piv
  refine ⟨⟨vp, (Below.heap_setCell w _ v gx (Ne.symm h1)).trans hg, Kd.R_far (p := ⟨g, j, none⟩) hp (fun k hk e => hk.1 (e ▸ hX)) _⟩, ?_, h.baseX, h.baseR, h.ne⟩
  exact Kd.S_mono (Kd.S_far (p := ⟨g, j, none⟩) (Kd.S_types h.rows hb ht) (fun k hk => hk.2) _) (fun _ hk => hk.1)
end

def f87.T8 : Bool × List (List Nat × List Nat) := (true, [([], []), ([0], [0]), ([1], [1]), ([2], [2]), ([], []), ([], []), ([5], [5]), ([6], [6]), ([7], [7]), ([], []), ([], []), ([10], [10]), ([11], [11]), ([12], [12]), ([], []), ([13, 14], [13, 14]), ([15], [15]), ([], []), ([17], [17]), ([18], [18]), ([19], [19]), ([], []), ([20, 21], [20, 21]), ([22], [22]), ([3, 4, 0, 1, 2, 3, 4, 8, 10, 11, 12, 13, 14, 15, 16, 20, 23], [3, 4]), ([24, 16, 0, 1, 2, 3, 4, 8, 10, 11, 12, 13, 14, 15, 16, 20, 23], [16, 24]), ([8, 9, 0, 1, 2, 3, 4, 5, 6, 7, 8, 9, 10, 11, 12, 13, 14, 15, 16, 17, 18, 19, 20, 21, 22, 23, 24, 25], [8, 9]), ([26, 23, 25, 0, 1, 2, 3, 4, 5, 6, 7, 8, 9, 10, 11, 12, 13, 14, 15, 16, 17, 18, 19, 20, 21, 22, 23, 24, 25], [23, 26])])
def f87.B8 : List Nat := [0, 1, 3, 7, 0, 0, 32, 96, 224, 0, 0, 1024, 3072, 7168, 0, 31744, 64512, 0, 131072, 393216, 917504, 0, 4063232, 8257536, 16776703, 33553919, 67108863, 134217727]
theorem f87.tab8 : rtab .any (opsOf Try.f87 8) = f87.T8 := by kernel_rfl
theorem f87.bits8 : waitsOk f87.T8.2 f87.B8 = true := by kernel_rfl
def f87.T11 : Bool × List (List Nat × List Nat) := (true, [([], []), ([], []), ([1], [1]), ([2], [2]), ([3], [3]), ([], []), ([5], [5]), ([4, 6], [4, 6]), ([0, 0, 1, 2, 3, 4, 5, 6, 7], [0]), ([8, 0, 1, 2, 3, 4, 5, 6, 7], [8]), ([9, 7, 7, 0, 1, 2, 3, 4, 5, 6, 7], [7, 9])])
def f87.B11 : List Nat := [0, 0, 2, 6, 14, 0, 32, 126, 255, 511, 1023]
theorem f87.tab11 : rtab .any (opsOf Try.f87 11) = f87.T11 := by kernel_rfl
theorem f87.bits11 : waitsOk f87.T11.2 f87.B11 = true := by kernel_rfl
def runX (gbx grow : Nat) : Nat → Prop := fun k => (False ∨ k = gbx) ∨ k = grow
structure RunSt (w0 w : World) (base gx gr c gbx grow : Nat) (s : ES) : Prop where
  elim : Elim w base gx gr c (runX gbx grow) s.1 (natInts s.2.1) s.2.2
  box : w.heap[gbx]? = some (.cells #[.pointer (some ⟨gx, 0, none⟩)] 77 (0, 0))
  row : w.heap[grow]? = some (.cells #[.int .i64 (s.2.1.length : Int)] 3 (0, 0))
  below : Below base w0 w
  n1 : gbx ≠ gx
  n2 : gbx ≠ gr
  n3 : grow ≠ gx
  n4 : grow ≠ gr
  n5 : gbx ≠ grow
  base1 : base ≤ grow
  base2 : base ≤ gbx
theorem RunSt.start {w0 w w1 w2 : World} {base gx gr c gbx grow : Nat} {R : List (List B)} (h : Elim w base gx gr c (fun _ => False) R [] 1) (hB : Below base w0 w) (hg1 : gbx = w.heap.size) (hb1 : w1.heap[gbx]? = some (.cells #[.pointer (some ⟨gx, 0, none⟩)] 77 (0, 0))) (hB1 : Below w.heap.size w w1)
    (hg2 : grow = w1.heap.size) (hb2 : w2.heap[grow]? = some (.cells #[.int .i64 0] 3 (0, 0))) (hB2 : Below w1.heap.size w1 w2) : RunSt w0 (w2.setCell ⟨grow, 0, none⟩ (.int .i64 0)) base gx gr c gbx grow (elimRun R 0) := by
  have h1 := h.lt
  have h2 := h.ltr
  have h3 := hB1.size
  have h4 := h.baseX
  have hA := h.avoid (g := gbx) (by omega)
  have hA2 := hA.avoid (g := grow) (by omega)
  have hl := blk_lt hb1
  have hb1' := (hB2.block gbx (by omega)).trans hb1
  have h5 : Below base w0 w2 := (hB.trans (hB1.mono (by omega))).trans (hB2.mono (by omega))
  have hE := (hA2.below hB1).below hB2
  refine ⟨hE.far hb2 (.inr rfl) (by omega) (by decide) 0 _, blk_far hb1' (by show gbx ≠ grow; omega) _, ?_, h5.setCell (by show base ≤ grow; omega) _, by omega, by omega, by omega, by omega, by omega, by omega, by omega⟩
  rw [blk_set hb2]
  rfl
def colX (gbx grow gcol : Nat) : Nat → Prop := fun k => runX gbx grow k ∨ k = gcol
/-- Inside a round: the column's variable too. -/
structure ColSt (w0 w : World) (base gx gr c gbx grow gcol j r : Nat) (R : List (List B)) (piv : List Int) (d : B) : Prop where
  elim : Elim w base gx gr c (colX gbx grow gcol) R piv d
  box : w.heap[gbx]? = some (.cells #[.pointer (some ⟨gx, 0, none⟩)] 77 (0, 0))
  row : w.heap[grow]? = some (.cells #[.int .i64 (r : Int)] 3 (0, 0))
  col : w.heap[gcol]? = some (.cells #[.int .i64 (j : Int)] 3 (0, 0))
  below : Below base w0 w
  n1 : gbx ≠ gx
  n2 : gbx ≠ gr
  n3 : grow ≠ gx
  n4 : grow ≠ gr
  n5 : gbx ≠ grow
  n6 : gcol ≠ gx
  n7 : gcol ≠ gr
  n8 : gcol ≠ gbx
  n9 : gcol ≠ grow
  base1 : base ≤ grow
  base2 : base ≤ gbx
section
variable {w0 w w1 : World} {base gx gr c gbx grow gcol j r : Nat} {R R1 : List (List B)} {piv piv1 : List Int} {d d1 : B}
theorem ColSt.boxc (h : ColSt w0 w base gx gr c gbx grow gcol j r R piv d) : w.cell? ⟨gbx, 0, none⟩ = some (.pointer (some ⟨gx, 0, none⟩)) := by rw [blk_cell h.box]; rfl
theorem ColSt.rowc (h : ColSt w0 w base gx gr c gbx grow gcol j r R piv d) : w.cell? ⟨grow, 0, none⟩ = some (.int .i64 (r : Int)) := by rw [blk_cell h.row]; rfl
theorem ColSt.colc (h : ColSt w0 w base gx gr c gbx grow gcol j r R piv d) : w.cell? ⟨gcol, 0, none⟩ = some (.int .i64 (j : Int)) := by rw [blk_cell h.col]; rfl
theorem ColSt.rowf (h : ColSt w0 w base gx gr c gbx grow gcol j r R piv d) : w.frozen? ⟨grow, 0, none⟩ = false := blk_frozen h.row 0
theorem ColSt.to (h : ColSt w0 w base gx gr c gbx grow gcol j r R piv d) (hB : Below w.heap.size w w1) : ColSt w0 w1 base gx gr c gbx grow gcol j r R piv d :=
  ⟨h.elim.below hB, (hB.block _ (blk_lt h.box)).trans h.box, (hB.block _ (blk_lt h.row)).trans h.row, (hB.block _ (blk_lt h.col)).trans h.col, h.below.trans (hB.mono (Nat.le_trans h.base1 (Nat.le_of_lt (blk_lt h.row)))), h.n1, h.n2, h.n3, h.n4, h.n5, h.n6, h.n7, h.n8, h.n9, h.base1, h.base2⟩
theorem ColSt.drewN (h : ColSt w0 w base gx gr c gbx grow gcol j r R piv d) (n : Nat) : ColSt w0 (w.drewN n) base gx gr c gbx grow gcol j r R piv d := h.to (pw_below_drewN (Below.refl _ _) n)
theorem ColSt.drew (h : ColSt w0 w base gx gr c gbx grow gcol j r R piv d) : ColSt w0 w.drew base gx gr c gbx grow gcol j r R piv d := h.to (below_drew (Below.refl _ _))
theorem ColSt.framed (h : ColSt w0 w base gx gr c gbx grow gcol j r R piv d) (hE : Elim w1 base gx gr c (colX gbx grow gcol) R1 piv1 d1) (hF : FrameE w w1 gx gr) : ColSt w0 w1 base gx gr c gbx grow gcol j r R1 piv1 d1 :=
  ⟨hE, (hF.block _ (blk_lt h.box) h.n1 h.n2).trans h.box, (hF.block _ (blk_lt h.row) h.n3 h.n4).trans h.row, (hF.block _ (blk_lt h.col) h.n6 h.n7).trans h.col, hF.toBelow h.below hE.baseX hE.baseR (Nat.le_trans h.base1 (Nat.le_of_lt (blk_lt h.row))), h.n1, h.n2, h.n3, h.n4, h.n5, h.n6, h.n7, h.n8, h.n9, h.base1, h.base2⟩
theorem ColSt.swap (h : ColSt w0 w base gx gr c gbx grow gcol j r R piv d) {i k : Nat} (hi : i < R.length) (hj : k < R.length) {vi vj : Value} (hvi : w.cell? ⟨gr, i, none⟩ = some vi) (hvj : w.cell? ⟨gr, k, none⟩ = some vj) :
    ColSt w0 ((w.setCell ⟨gr, i, none⟩ vj).setCell ⟨gr, k, none⟩ vi) base gx gr c gbx grow gcol j r (swapRows R i k) piv d :=
  h.framed (h.elim.swap hi hj hvi hvj) (((FrameE.refl w gx gr).set (p := ⟨gr, i, none⟩) (.inr rfl) _).set (p := ⟨gr, k, none⟩) (.inr rfl) _)
theorem ColSt.append (h : ColSt w0 w base gx gr c gbx grow gcol j r R piv d) {vp : Value} (hvp : w.cell? ⟨gx, 1, none⟩ = some vp) {v1 : Value} (hr : Kd.R (Kd.int .i64) 3 w1 base (fun k => ¬ colX gbx grow gcol k ∧ k ≠ gx ∧ k ≠ gr) v1 piv1) (hgb : w.grownBy w1 vp.ownBlock) (hb : Below base w0 w1) :
    ColSt w0 (w1.setCell ⟨gx, 1, none⟩ v1) base gx gr c gbx grow gcol j r R piv1 d := by
  obtain ⟨vp', hg', hp⟩ := h.elim.piv
  have e : some vp' = some vp := by rw [← hvp, blk_cell hg']; rfl
  obtain rfl := Option.some.inj e
  have f : ∀ k, colX gbx grow gcol k → some k ≠ vp'.ownBlock := fun k hk e => (hp.1 k e.symm).1 hk
  exact ⟨h.elim.setPiv hvp hr hgb, blk_far ((hgb.block _ (blk_lt h.box) (f _ (.inl (.inl (.inr rfl))))).trans h.box) h.n1 _, blk_far ((hgb.block _ (blk_lt h.row) (f _ (.inl (.inr rfl)))).trans h.row) h.n3 _, blk_far ((hgb.block _ (blk_lt h.col) (f _ (.inr rfl))).trans h.col) h.n6 _, hb.setCell h.elim.baseX _, h.n1, h.n2, h.n3, h.n4, h.n5, h.n6, h.n7, h.n8, h.n9, h.base1, h.base2⟩
theorem ColSt.inc (h : ColSt w0 w base gx gr c gbx grow gcol j r R piv d) (r1 : Nat) : ColSt w0 (w.setCell ⟨grow, 0, none⟩ (.int .i64 (r1 : Int))) base gx gr c gbx grow gcol j r1 R piv d :=
  ⟨h.elim.far h.row (.inl (.inr rfl)) h.n3 (by decide) 0 _, blk_far h.box h.n5 _, by rw [blk_set h.row]; rfl, blk_far h.col h.n9 _, h.below.setCell h.base1 _, h.n1, h.n2, h.n3, h.n4, h.n5, h.n6, h.n7, h.n8, h.n9, h.base1, h.base2⟩
theorem ColSt.run {pv : List Nat} (h : ColSt w0 w base gx gr c gbx grow gcol j pv.length R (natInts pv) d) : RunSt w0 w base gx gr c gbx grow (R, pv, d) :=
  ⟨h.elim.weaken (fun _ hk => .inl hk), h.box, h.row, h.below, h.n1, h.n2, h.n3, h.n4, h.n5, h.base1, h.base2⟩
theorem RunSt.colSt {s : ES} (h : RunSt w0 w base gx gr c gbx grow s) (hg : gcol = w.heap.size) (hb : w1.heap[gcol]? = some (.cells #[.int .i64 0] 3 (0, 0))) (hB : Below w.heap.size w w1) (j : Nat) :
    ColSt w0 (w1.setCell ⟨gcol, 0, none⟩ (.int .i64 (j : Int))) base gx gr c gbx grow gcol j s.2.1.length s.1 (natInts s.2.1) s.2.2 := by
  have l1 := blk_lt h.box
  have l2 := blk_lt h.row
  have l3 := h.elim.lt
  have l4 := h.elim.ltr
  have l5 := h.base1
  have hE := ((h.elim.avoid (g := gcol) (by omega)).below hB).far hb (.inr rfl) (by omega) (by decide) 0 (.int .i64 (j : Int))
  refine ⟨hE, blk_far ((hB.block _ l1).trans h.box) (by show gbx ≠ gcol; omega) _, blk_far ((hB.block _ l2).trans h.row) (by show grow ≠ gcol; omega) _, by rw [blk_set hb]; rfl, (h.below.trans (hB.mono (by omega))).setCell (by show base ≤ gcol; omega) _, h.n1, h.n2, h.n3, h.n4, h.n5, by omega, by omega, by omega, by omega, h.base1, h.base2⟩
end

set_option maxRecDepth 100000 in
set_option maxHeartbeats 8000000 in
theorem run_calls {w0 w : World} {base gx gr c m : Nat} {R : List (List B)} (h : Elim w base gx gr c (fun _ => False) R [] 1) (hB : Below base w0 w) (cols : Nat)
    (hm : ∀ r ∈ R, r.length = m) (hcols : cols ≤ m) (hlim : m ≤ 1000) (hn : R.length ≤ 64) :
    Calls Try.prog 87 #[.pointer (some ⟨gx, 0, none⟩), .int .i64 (cols : Int)] w fun e w' => e = .returned (.tuple #[]) ∧ Elim w' base gx gr c (fun _ => False) (elimRun R cols).1 (natInts (elimRun R cols).2.1) (elimRun R cols).2.2 ∧ Below base w0 w' := by
  have hmf : ∀ (fn : Fn) (first cap : Array Value) (w : World), (Instr.makeFunc fn first cap).run Try.prog w = .ok (.func fn first cap) w := fun _ _ _ _ => rfl
  have HE := Aside0.mk h
  have HM := Aside0.mk hm
  have HBB := Aside0.mk hB
  clear h hm hB
  go_enter Try.func87, Try.ntmps87
  go_wp2_with (first | ((with_reducible refine gate_dst (N := 2) rfl ?_); refine box_event rfl (N := 2) rfl (cs := #[.pointer (some ⟨gx, 0, none⟩)]) (t := 77) ?hrun ?_; (case hrun => first | (go_simp; done) | (go_simp; rfl)); intro gbx hgb w1 hb1 hB1; have HG1 := Aside0.mk hgb; have HB1 := Aside0.mk hB1; have HK1 := Aside0.mk hb1; clear hgb hb1 hB1) | ((with_reducible refine gate_dst (N := 4) rfl ?_); refine box_event rfl (N := 4) rfl (cs := #[.int .i64 0]) (t := 3) ?hrun ?_; (case hrun => first | (go_simp; done) | (go_simp; rfl)); intro grow hgr w2 hb2 hB2; have HG2 := Aside0.mk hgr; have HB2 := Aside0.mk hB2; have HK2 := Aside0.mk hb2; have hxr := blk_cell hb2 0; have hfr := blk_frozen hb2 0; have hlr := blk_lt hb2; clear hgr hb2 hB2))
  go_frame
  go_step3
  go_wp2_with (first | ((with_reducible refine gate_dst (N := 2) rfl ?_); refine box_event rfl (N := 2) rfl (cs := #[.pointer (some ⟨gx, 0, none⟩)]) (t := 77) ?hrun ?_; (case hrun => first | (go_simp; done) | (go_simp; rfl)); intro gbx hgb w1 hb1 hB1; have HG1 := Aside0.mk hgb; have HB1 := Aside0.mk hB1; have HK1 := Aside0.mk hb1; clear hgb hb1 hB1) | ((with_reducible refine gate_dst (N := 4) rfl ?_); refine box_event rfl (N := 4) rfl (cs := #[.int .i64 0]) (t := 3) ?hrun ?_; (case hrun => first | (go_simp; done) | (go_simp; rfl)); intro grow hgr w2 hb2 hB2; have HG2 := Aside0.mk hgr; have HB2 := Aside0.mk hB2; have HK2 := Aside0.mk hb2; have hxr := blk_cell hb2 0; have hfr := blk_frozen hb2 0; have hlr := blk_lt hb2; clear hgr hb2 hB2))
  go_step3
  go_wp2_with (first | ((with_reducible refine gate_dst (N := 2) rfl ?_); refine box_event rfl (N := 2) rfl (cs := #[.pointer (some ⟨gx, 0, none⟩)]) (t := 77) ?hrun ?_; (case hrun => first | (go_simp; done) | (go_simp; rfl)); intro gbx hgb w1 hb1 hB1; have HG1 := Aside0.mk hgb; have HB1 := Aside0.mk hB1; have HK1 := Aside0.mk hb1; clear hgb hb1 hB1) | ((with_reducible refine gate_dst (N := 4) rfl ?_); refine box_event rfl (N := 4) rfl (cs := #[.int .i64 0]) (t := 3) ?hrun ?_; (case hrun => first | (go_simp; done) | (go_simp; rfl)); intro grow hgr w2 hb2 hB2; have HG2 := Aside0.mk hgr; have HB2 := Aside0.mk hB2; have HK2 := Aside0.mk hb2; have hxr := blk_cell hb2 0; have hfr := blk_frozen hb2 0; have hlr := blk_lt hb2; clear hgr hb2 hB2))
  have hST := RunSt.start HE.out HBB.out HG1.out HK1.out HB1.out HG2.out HK2.out HB2.out
  have HST := Aside0.mk hST
  clear hST hxr hfr hlr HG1 HK1 HB1 HG2 HK2 HB2
  generalize (w2.setCell ⟨grow, 0, none⟩ (.int .i64 0)) = W0 at HST ⊢
  clear w1 w2
  go_loopw [9] (fun v9 wr => ∃ j : Nat, j ≤ cols ∧ v9 = .int .i64 (j : Int) ∧ Aside0 (RunSt w0 wr base gx gr c gbx grow (elimRun R j))) (fun v9 _ => cols - (intOf v9).toNat)
  case atStart => exact ⟨0, by omega, rfl, HST⟩
  case round =>
    obtain ⟨j, hj, rfl, HA⟩ := hrel
    by_cases hlt : j < cols
    · have HL := Aside0.mk (elimRun_length R j)
      have HP := Aside0.mk (elimRun_piv R j)
      have HR := Aside0.mk (elimRun_rows HM.out j)
      have HS := Aside0.mk (elimRun_succ R j)
      generalize hs : elimRun R j = s at HA HL HP HR HS
      have HF := Aside0.mk hs
      clear hs
      obtain ⟨Rj, piv, det⟩ := s
      obtain ⟨wo, rfl⟩ : ∃ wo : World, wo = wr := ⟨_, rfl⟩
      rcases hfind : findRow Rj piv.length j with _ | k
      · have HFI := Aside0.mk (show findInt Rj piv.length j = -1 by unfold findInt; rw [hfind])
        have HFE := Aside0.mk hfind
        clear hfind
        go_wp2_with (first | ((with_reducible refine gate_dst (N := 5) rfl ?_); refine box_event rfl (N := 5) rfl (cs := #[.int .i64 0]) (t := 3) ?hrun ?_; (case hrun => first | (go_simp; done) | (go_simp; rfl)); intro gcol hgc w5 hb5 hB5; have HG5 := Aside0.mk hgc; have HB5 := Aside0.mk hB5; have HK5 := Aside0.mk hb5; have hxc := blk_cell hb5 0; have hfc := blk_frozen hb5 0; have hlc := blk_lt hb5; clear hgc hb5 hB5; have HCS := Aside0.mk (RunSt.colSt HA.out HG5.out HK5.out HB5.out j)) | (with_reducible refine (find_calls HCS.out.elim grow gbx gcol piv.length j HCS.out.boxc HCS.out.rowc HCS.out.colc HR.out (by omega) (by have := HP.out; have := HL.out; (try simp only at *); omega) (by omega) (by have := HL.out; (try simp only at *); omega)).mono ?_; rintro e w6 ⟨rfl, hdr⟩; obtain ⟨n1, hn1⟩ := hdr.out; subst hn1; rw [HFI.out]; clear hdr; replace HCS := Aside0.mk (HCS.out.drewN n1)))
        go_roundw
        case rel =>
          refine ⟨j + 1, by omega, by go_num, ⟨?_⟩⟩
          have e : elimStep (Rj, piv, det) j = (Rj, piv, det) := by unfold elimStep; rw [HFE.out]
          rw [HS.out, e]
          exact HCS.out.run
        case measure => simp [intOf]; omega
      · have HFI := Aside0.mk (show findInt Rj piv.length j = k by unfold findInt; rw [hfind])
        have HFE := Aside0.mk hfind
        have hk := findRow_some hfind
        have HK := Aside0.mk hk
        clear hfind
        have hk1 := hk.1
        have hk2 := hk.2.1
        have hkn : decide ((k : Int) < 0) = false := by rw [decide_eq_false_iff_not]; omega
        clear hk
        go_wp2_with (first | ((with_reducible refine gate_dst (N := 5) rfl ?_); refine box_event rfl (N := 5) rfl (cs := #[.int .i64 0]) (t := 3) ?hrun ?_; (case hrun => first | (go_simp; done) | (go_simp; rfl)); intro gcol hgc w5 hb5 hB5; have HG5 := Aside0.mk hgc; have HB5 := Aside0.mk hB5; have HK5 := Aside0.mk hb5; have hxc := blk_cell hb5 0; have hfc := blk_frozen hb5 0; have hlc := blk_lt hb5; clear hgc hb5 hB5; have HCS := Aside0.mk (RunSt.colSt HA.out HG5.out HK5.out HB5.out j)) | (with_reducible refine (find_calls HCS.out.elim grow gbx gcol piv.length j HCS.out.boxc HCS.out.rowc HCS.out.colc HR.out (by omega) (by have := HP.out; have := HL.out; (try simp only at *); omega) (by omega) (by have := HL.out; (try simp only at *); omega)).mono ?_; rintro e w6 ⟨rfl, hdr⟩; obtain ⟨n1, hn1⟩ := hdr.out; subst hn1; rw [HFI.out]; clear hdr; replace HCS := Aside0.mk (HCS.out.drewN n1)))
        clear hxc hfc hlc HG5 HB5 HK5
        have hHCS := HCS.out
        clear HCS
        generalize ((w5.setCell ⟨gcol, 0, none⟩ (.int .i64 (j : Int))).drewN n1) = W at hHCS ⊢
        have hx0 := hHCS.elim.cells.1
        have hLj := HL.out
        have hPj := HP.out
        replace hLj : Rj.length = R.length := hLj
        replace hPj : piv.length ≤ R.length := hPj
        obtain ⟨Ap, cp, hxp, hlp, hCp, hfp⟩ := hHCS.elim.read piv.length (by omega)
        obtain ⟨Ak, ck, hxk, hlk, hCk, hfk⟩ := hHCS.elim.read k (by omega)
        clear hlp hCp hlk hCk
        generalize (up (Rj.getD piv.length [])).length = np at hxp
        generalize (up (Rj.getD k [])).length = nk at hxk
        have hxb := hHCS.boxc
        have hxr := hHCS.rowc
        have p0 : (0 : Int) ≤ (piv.length : Int) := by omega
        have p1 : (piv.length : Int) < (Rj.length : Int) := by omega
        have k0 : (0 : Int) ≤ (k : Int) := by omega
        have k1 : (k : Int) < (Rj.length : Int) := by omega
        have HCS := Aside0.mk hHCS
        have HL1 := Aside0.mk (show piv.length < Rj.length by omega)
        have HL2 := Aside0.mk hk2
        clear hHCS hk1 hk2 hLj hPj
        refine start_ (n := 28) (S := fun w' => w'.cell? ⟨gbx, 0, none⟩ = some (.pointer (some ⟨gx, 0, none⟩)) ∧ w'.cell? ⟨grow, 0, none⟩ = some (.int .i64 (piv.length : Int)) ∧ w'.cell? ⟨gx, 0, none⟩ = some (.slice (some ⟨gr, 0, none⟩) Rj.length c) ∧ w'.cell? ⟨gr, k, none⟩ = some (.slice Ak nk ck) ∧ w'.cell? ⟨gr, piv.length, none⟩ = some (.slice Ap np cp)) (ds := [25, 27]) #[false, false, false, false, false, false, false, false, false, false, false, false, false, false, false, false, false, false, false, false, false, false, false, false, false, false, false, false] (by kernel_rfl) rfl rfl ⟨hxb, hxr, hx0, hxk, hxp⟩ (fun hHeld => ?_)
        refine with_tabW f87.tab8 f87.bits8 (fun HT_ HW_ => ?_)
        have HC := Aside0.mk HCS.out.drew
        replace hfp : W.drew.frozen? ⟨gr, piv.length, none⟩ = false := hfp
        replace hfk : W.drew.frozen? ⟨gr, k, none⟩ = false := hfk
        clear hxb hxr hx0 hxk hxp
        generalize W.drew = W1 at HC hfp hfk hHeld ⊢
        clear HCS w5
        refine pure_ (i := 9) (N := some 26) (v := ?_) (a' := ?_) #[false, false, false, false, false, false, false, false, false, true, false, false, false, false, false, false, false, false, false, false, false, false, false, false, false, false, false, false] rfl rfl (any_of HT_.out (by kernel_rfl)) (fun _ _ _ h => h) (Or.inl ⟨by rfl, ?_⟩) ?_ ?_
        rotate_left
        · intro w'
          go_simp
          with_reducible rfl
        rotate_left
        · simp only [Act.put, List.setIfInBounds_toArray, List.set_cons_zero, List.set_cons_succ, i64_w, i32_w]
          rfl
        refine pure_ (i := 14) (N := some 31) (v := ?_) (a' := ?_) #[false, false, false, false, false, false, false, false, false, true, false, false, false, false, true, false, false, false, false, false, false, false, false, false, false, false, false, false] rfl rfl (any_of HT_.out (by kernel_rfl)) (fun _ _ _ h => h) (Or.inl ⟨by rfl, ?_⟩) ?_ ?_
        rotate_left
        · intro w'
          go_simp
          with_reducible rfl
        rotate_left
        · simp only [Act.put, List.setIfInBounds_toArray, List.set_cons_zero, List.set_cons_succ, i64_w, i32_w]
          rfl
        refine take_ (i := 0) (N := some 17) (v := ?_) (a' := ?_) #[true, false, false, false, false, false, false, false, false, true, false, false, false, false, true, false, false, false, false, false, false, false, false, false, false, false, false, false] rfl rfl (take_ofW HT_.out HW_.out (by kernel_rfl)) (fun _ _ _ h => h) (Or.inl ⟨by rfl, ?_⟩) hHeld ?_ ?_
        rotate_left
        · rintro w' ⟨s0, s1, s2, s3, s4⟩
          go_simp
          with_reducible rfl
        rotate_left
        · simp only [Act.put, List.setIfInBounds_toArray, List.set_cons_zero, List.set_cons_succ, i64_w, i32_w]
          rfl
        refine pure_ (i := 1) (N := some 18) (v := ?_) (a' := ?_) #[true, true, false, false, false, false, false, false, false, true, false, false, false, false, true, false, false, false, false, false, false, false, false, false, false, false, false, false] rfl rfl (any_of HT_.out (by kernel_rfl)) (fun _ _ _ h => h) (Or.inl ⟨by rfl, ?_⟩) ?_ ?_
        rotate_left
        · intro w'
          go_simp
          with_reducible rfl
        rotate_left
        · simp only [Act.put, List.setIfInBounds_toArray, List.set_cons_zero, List.set_cons_succ, i64_w, i32_w]
          rfl
        refine pure_ (i := 2) (N := some 19) (v := ?_) (a' := ?_) #[true, true, true, false, false, false, false, false, false, true, false, false, false, false, true, false, false, false, false, false, false, false, false, false, false, false, false, false] rfl rfl (any_of HT_.out (by kernel_rfl)) (fun _ _ _ h => h) (Or.inl ⟨by rfl, ?_⟩) ?_ ?_
        rotate_left
        · intro w'
          go_simp
          with_reducible rfl
        rotate_left
        · simp only [Act.put, List.setIfInBounds_toArray, List.set_cons_zero, List.set_cons_succ, i64_w, i32_w]
          rfl
        refine take_ (i := 3) (N := some 20) (v := ?_) (a' := ?_) #[true, true, true, true, false, false, false, false, false, true, false, false, false, false, true, false, false, false, false, false, false, false, false, false, false, false, false, false] rfl rfl (take_ofW HT_.out HW_.out (by kernel_rfl)) (fun _ _ _ h => h) (Or.inl ⟨by rfl, ?_⟩) hHeld ?_ ?_
        rotate_left
        · rintro w' ⟨s0, s1, s2, s3, s4⟩
          go_simp
          with_reducible rfl
        rotate_left
        · simp only [Act.put, List.setIfInBounds_toArray, List.set_cons_zero, List.set_cons_succ, i64_w, i32_w]
          rfl
        refine take_ (i := 4) (N := some 21) (v := ?_) (a' := ?_) #[true, true, true, true, true, false, false, false, false, true, false, false, false, false, true, false, false, false, false, false, false, false, false, false, false, false, false, false] rfl rfl (take_ofW HT_.out HW_.out (by kernel_rfl)) (fun _ _ _ h => h) (Or.inl ⟨by rfl, ?_⟩) hHeld ?_ ?_
        rotate_left
        · rintro w' ⟨s0, s1, s2, s3, s4⟩
          go_simp
          with_reducible rfl
        rotate_left
        · simp only [Act.put, List.setIfInBounds_toArray, List.set_cons_zero, List.set_cons_succ, i64_w, i32_w]
          rfl
        refine take_ (i := 5) (N := some 22) (v := ?_) (a' := ?_) #[true, true, true, true, true, true, false, false, false, true, false, false, false, false, true, false, false, false, false, false, false, false, false, false, false, false, false, false] rfl rfl (take_ofW HT_.out HW_.out (by kernel_rfl)) (fun _ _ _ h => h) (Or.inl ⟨by rfl, ?_⟩) hHeld ?_ ?_
        rotate_left
        · rintro w' ⟨s0, s1, s2, s3, s4⟩
          go_simp
          with_reducible rfl
        rotate_left
        · simp only [Act.put, List.setIfInBounds_toArray, List.set_cons_zero, List.set_cons_succ, i64_w, i32_w]
          rfl
        refine pure_ (i := 6) (N := some 23) (v := ?_) (a' := ?_) #[true, true, true, true, true, true, true, false, false, true, false, false, false, false, true, false, false, false, false, false, false, false, false, false, false, false, false, false] rfl rfl (any_of HT_.out (by kernel_rfl)) (fun _ _ _ h => h) (Or.inl ⟨by rfl, ?_⟩) ?_ ?_
        rotate_left
        · intro w'
          go_simp
          with_reducible rfl
        rotate_left
        · simp only [Act.put, List.setIfInBounds_toArray, List.set_cons_zero, List.set_cons_succ, i64_w, i32_w]
          rfl
        refine pure_ (i := 7) (N := some 24) (v := ?_) (a' := ?_) #[true, true, true, true, true, true, true, true, false, true, false, false, false, false, true, false, false, false, false, false, false, false, false, false, false, false, false, false] rfl rfl (any_of HT_.out (by kernel_rfl)) (fun _ _ _ h => h) (Or.inl ⟨by rfl, ?_⟩) ?_ ?_
        rotate_left
        · intro w'
          go_simp
          with_reducible rfl
        rotate_left
        · simp only [Act.put, List.setIfInBounds_toArray, List.set_cons_zero, List.set_cons_succ, i64_w, i32_w]
          rfl
        refine take_ (i := 8) (N := some 25) (v := ?_) (a' := ?_) #[true, true, true, true, true, true, true, true, true, true, false, false, false, false, true, false, false, false, false, false, false, false, false, false, false, false, false, false] rfl rfl (take_ofW HT_.out HW_.out (by kernel_rfl)) (fun _ _ _ h => h) (Or.inl ⟨by rfl, ?_⟩) hHeld ?_ ?_
        rotate_left
        · rintro w' ⟨s0, s1, s2, s3, s4⟩
          go_simp
          with_reducible rfl
        rotate_left
        · simp only [Act.put, List.setIfInBounds_toArray, List.set_cons_zero, List.set_cons_succ, i64_w, i32_w]
          rfl
        refine take_ (i := 10) (N := some 27) (v := ?_) (a' := ?_) #[true, true, true, true, true, true, true, true, true, true, true, false, false, false, true, false, false, false, false, false, false, false, false, false, false, false, false, false] rfl rfl (take_ofW HT_.out HW_.out (by kernel_rfl)) (fun _ _ _ h => h) (Or.inl ⟨by rfl, ?_⟩) hHeld ?_ ?_
        rotate_left
        · rintro w' ⟨s0, s1, s2, s3, s4⟩
          go_simp
          with_reducible rfl
        rotate_left
        · simp only [Act.put, List.setIfInBounds_toArray, List.set_cons_zero, List.set_cons_succ, i64_w, i32_w]
          rfl
        refine pure_ (i := 11) (N := some 28) (v := ?_) (a' := ?_) #[true, true, true, true, true, true, true, true, true, true, true, true, false, false, true, false, false, false, false, false, false, false, false, false, false, false, false, false] rfl rfl (any_of HT_.out (by kernel_rfl)) (fun _ _ _ h => h) (Or.inl ⟨by rfl, ?_⟩) ?_ ?_
        rotate_left
        · intro w'
          go_simp
          with_reducible rfl
        rotate_left
        · simp only [Act.put, List.setIfInBounds_toArray, List.set_cons_zero, List.set_cons_succ, i64_w, i32_w]
          rfl
        refine pure_ (i := 12) (N := some 29) (v := ?_) (a' := ?_) #[true, true, true, true, true, true, true, true, true, true, true, true, true, false, true, false, false, false, false, false, false, false, false, false, false, false, false, false] rfl rfl (any_of HT_.out (by kernel_rfl)) (fun _ _ _ h => h) (Or.inl ⟨by rfl, ?_⟩) ?_ ?_
        rotate_left
        · intro w'
          go_simp
          with_reducible rfl
        rotate_left
        · simp only [Act.put, List.setIfInBounds_toArray, List.set_cons_zero, List.set_cons_succ, i64_w, i32_w]
          rfl
        refine take_ (i := 13) (N := some 30) (v := ?_) (a' := ?_) #[true, true, true, true, true, true, true, true, true, true, true, true, true, true, true, false, false, false, false, false, false, false, false, false, false, false, false, false] rfl rfl (take_ofW HT_.out HW_.out (by kernel_rfl)) (fun _ _ _ h => h) (Or.inl ⟨by rfl, ?_⟩) hHeld ?_ ?_
        rotate_left
        · rintro w' ⟨s0, s1, s2, s3, s4⟩
          go_simp
          with_reducible rfl
        rotate_left
        · simp only [Act.put, List.setIfInBounds_toArray, List.set_cons_zero, List.set_cons_succ, i64_w, i32_w]
          rfl
        refine pure_ (i := 15) (N := some 32) (v := ?_) (a' := ?_) #[true, true, true, true, true, true, true, true, true, true, true, true, true, true, true, true, false, false, false, false, false, false, false, false, false, false, false, false] rfl rfl (any_of HT_.out (by kernel_rfl)) (fun _ _ _ h => h) (Or.inl ⟨by rfl, ?_⟩) ?_ ?_
        rotate_left
        · intro w'
          go_simp
          with_reducible rfl
        rotate_left
        · simp only [Act.put, List.setIfInBounds_toArray, List.set_cons_zero, List.set_cons_succ, i64_w, i32_w]
          rfl
        refine take_ (i := 16) (N := some 33) (v := ?_) (a' := ?_) #[true, true, true, true, true, true, true, true, true, true, true, true, true, true, true, true, true, false, false, false, false, false, false, false, false, false, false, false] rfl rfl (take_ofW HT_.out HW_.out (by kernel_rfl)) (fun _ _ _ h => h) (Or.inl ⟨by rfl, ?_⟩) hHeld ?_ ?_
        rotate_left
        · rintro w' ⟨s0, s1, s2, s3, s4⟩
          go_simp
          with_reducible rfl
        rotate_left
        · simp only [Act.put, List.setIfInBounds_toArray, List.set_cons_zero, List.set_cons_succ, i64_w, i32_w]
          rfl
        refine take_ (i := 17) (N := some 34) (v := ?_) (a' := ?_) #[true, true, true, true, true, true, true, true, true, true, true, true, true, true, true, true, true, true, false, false, false, false, false, false, false, false, false, false] rfl rfl (take_ofW HT_.out HW_.out (by kernel_rfl)) (fun _ _ _ h => h) (Or.inl ⟨by rfl, ?_⟩) hHeld ?_ ?_
        rotate_left
        · rintro w' ⟨s0, s1, s2, s3, s4⟩
          go_simp
          with_reducible rfl
        rotate_left
        · simp only [Act.put, List.setIfInBounds_toArray, List.set_cons_zero, List.set_cons_succ, i64_w, i32_w]
          rfl
        refine pure_ (i := 18) (N := some 35) (v := ?_) (a' := ?_) #[true, true, true, true, true, true, true, true, true, true, true, true, true, true, true, true, true, true, true, false, false, false, false, false, false, false, false, false] rfl rfl (any_of HT_.out (by kernel_rfl)) (fun _ _ _ h => h) (Or.inl ⟨by rfl, ?_⟩) ?_ ?_
        rotate_left
        · intro w'
          go_simp
          with_reducible rfl
        rotate_left
        · simp only [Act.put, List.setIfInBounds_toArray, List.set_cons_zero, List.set_cons_succ, i64_w, i32_w]
          rfl
        refine pure_ (i := 19) (N := some 36) (v := ?_) (a' := ?_) #[true, true, true, true, true, true, true, true, true, true, true, true, true, true, true, true, true, true, true, true, false, false, false, false, false, false, false, false] rfl rfl (any_of HT_.out (by kernel_rfl)) (fun _ _ _ h => h) (Or.inl ⟨by rfl, ?_⟩) ?_ ?_
        rotate_left
        · intro w'
          go_simp
          with_reducible rfl
        rotate_left
        · simp only [Act.put, List.setIfInBounds_toArray, List.set_cons_zero, List.set_cons_succ, i64_w, i32_w]
          rfl
        refine take_ (i := 20) (N := some 37) (v := ?_) (a' := ?_) #[true, true, true, true, true, true, true, true, true, true, true, true, true, true, true, true, true, true, true, true, true, false, false, false, false, false, false, false] rfl rfl (take_ofW HT_.out HW_.out (by kernel_rfl)) (fun _ _ _ h => h) (Or.inl ⟨by rfl, ?_⟩) hHeld ?_ ?_
        rotate_left
        · rintro w' ⟨s0, s1, s2, s3, s4⟩
          go_simp
          with_reducible rfl
        rotate_left
        · simp only [Act.put, List.setIfInBounds_toArray, List.set_cons_zero, List.set_cons_succ, i64_w, i32_w]
          rfl
        refine take_ (i := 21) (N := some 38) (v := ?_) (a' := ?_) #[true, true, true, true, true, true, true, true, true, true, true, true, true, true, true, true, true, true, true, true, true, true, false, false, false, false, false, false] rfl rfl (take_ofW HT_.out HW_.out (by kernel_rfl)) (fun _ _ _ h => h) (Or.inl ⟨by rfl, ?_⟩) hHeld ?_ ?_
        rotate_left
        · rintro w' ⟨s0, s1, s2, s3, s4⟩
          go_simp
          with_reducible rfl
        rotate_left
        · simp only [Act.put, List.setIfInBounds_toArray, List.set_cons_zero, List.set_cons_succ, i64_w, i32_w]
          rfl
        refine pure_ (i := 22) (N := some 39) (v := ?_) (a' := ?_) #[true, true, true, true, true, true, true, true, true, true, true, true, true, true, true, true, true, true, true, true, true, true, true, false, false, false, false, false] rfl rfl (any_of HT_.out (by kernel_rfl)) (fun _ _ _ h => h) (Or.inl ⟨by rfl, ?_⟩) ?_ ?_
        rotate_left
        · intro w'
          go_simp
          with_reducible rfl
        rotate_left
        · simp only [Act.put, List.setIfInBounds_toArray, List.set_cons_zero, List.set_cons_succ, i64_w, i32_w]
          rfl
        refine take_ (i := 23) (N := some 40) (v := ?_) (a' := ?_) #[true, true, true, true, true, true, true, true, true, true, true, true, true, true, true, true, true, true, true, true, true, true, true, true, false, false, false, false] rfl rfl (take_ofW HT_.out HW_.out (by kernel_rfl)) (fun _ _ _ h => h) (Or.inl ⟨by rfl, ?_⟩) hHeld ?_ ?_
        rotate_left
        · rintro w' ⟨s0, s1, s2, s3, s4⟩
          go_simp
          with_reducible rfl
        rotate_left
        · simp only [Act.put, List.setIfInBounds_toArray, List.set_cons_zero, List.set_cons_succ, i64_w, i32_w]
          rfl
        refine pure_ (i := 24) (N := some 41) (v := ?_) (a' := ?_) #[true, true, true, true, true, true, true, true, true, true, true, true, true, true, true, true, true, true, true, true, true, true, true, true, true, false, false, false] rfl rfl (any_of HT_.out (by kernel_rfl)) (fun _ _ _ h => h) (Or.inl ⟨by rfl, ?_⟩) ?_ ?_
        rotate_left
        · intro w'
          go_simp
          with_reducible rfl
        rotate_left
        · simp only [Act.put, List.setIfInBounds_toArray, List.set_cons_zero, List.set_cons_succ, i64_w, i32_w]
          rfl
        refine last_ (i := 25) (N := none) #[true, true, true, true, true, true, true, true, true, true, true, true, true, true, true, true, true, true, true, true, true, true, true, true, true, true, false, false] rfl rfl (one_of HT_.out (by kernel_rfl)) (by decide) (fun K hK => ?_)
        refine skip_ (w1 := ?_) (by rfl) rfl ?_ ?_
        rotate_left
        · go_simp
          rfl
        refine hK.out _ _ ?_
        clear hK K
        refine pure_ (i := 26) (N := some 42) (v := ?_) (a' := ?_) #[true, true, true, true, true, true, true, true, true, true, true, true, true, true, true, true, true, true, true, true, true, true, true, true, true, true, true, false] rfl rfl (any_of HT_.out (by kernel_rfl)) (fun _ _ _ h => h) (Or.inl ⟨by rfl, ?_⟩) ?_ ?_
        rotate_left
        · intro w'
          go_simp
          with_reducible rfl
        rotate_left
        · simp only [Act.put, List.setIfInBounds_toArray, List.set_cons_zero, List.set_cons_succ, i64_w, i32_w]
          rfl
        have hx2 : (W1.setCell ⟨gr, piv.length, none⟩ (.slice Ak nk ck)).cell? ⟨gr, k, none⟩ = some (.slice Ak nk ck) := by
          by_cases e : piv.length = k
          · subst e
            exact World.cell?_setCell_same' W1 _ _ (by rw [hHeld.2.2.2.1]; rfl)
          · exact (World.cell?_setCell_other W1 _ _ _ (by intro h; injection h with h1 h2; exact e h2)).trans hHeld.2.2.2.1
        refine last_ (i := 27) (N := none) #[true, true, true, true, true, true, true, true, true, true, true, true, true, true, true, true, true, true, true, true, true, true, true, true, true, true, true, true] rfl rfl (one_of HT_.out (by kernel_rfl)) (by decide) (fun K hK => ?_)
        refine skip_ (w1 := ?_) (by rfl) rfl ?_ ?_
        rotate_left
        · go_simp
          rfl
        refine hK.out _ _ ?_
        clear hK K
        refine done_ (done_of HT_.out (by kernel_rfl)) ?_
        have HC2 := Aside0.mk (HC.out.swap HL1.out HL2.out hHeld.2.2.2.2 hHeld.2.2.2.1)
        clear HC hfp hfk hHeld hx2
        generalize ((W1.setCell ⟨gr, piv.length, none⟩ (.slice Ak nk ck)).setCell ⟨gr, k, none⟩ (.slice Ap np cp)) = W2 at HC2 ⊢
        clear W1
        have HRS := Aside0.mk (swapRows_rows HR.out HL1.out HL2.out)
        have HSS := Aside0.mk (show elimStep (Rj, piv, det) j = (clearRows (scaleRow (swapRows Rj piv.length k) piv.length j) piv.length j, piv ++ [j], gmul det (((swapRows Rj piv.length k).getD piv.length []).getD j 0)) by unfold elimStep; simp only []; rw [HFE.out])
        have HSL := Aside0.mk (swapRows_length Rj piv.length k)
        generalize swapRows Rj piv.length k = R1 at HC2 HRS HSS HSL
        have HR1 := Aside0.mk (show piv.length < R1.length by rw [HSL.out]; exact HL1.out)
        have HRL := Aside0.mk (HRS.out _ (getD_mem' (l := R1) (i := piv.length) HR1.out))
        have HS2 := Aside0.mk (scaleRow_rows HRS.out j HR1.out)
        have HN1 := Aside0.mk (show R1.length ≤ 64 by rw [HSL.out, show Rj.length = R.length from HL.out]; exact hn)
        have hxb := HC2.out.boxc
        have hxr := HC2.out.rowc
        have hxc := HC2.out.colc
        go_wp2_with (first | (go_at_call 103; (with_reducible refine (escale_calls HC2.out.elim piv.length j HR1.out (by rw [HRL.out]; omega) (by rw [HRL.out]; omega) (by have := HN1.out; omega)).mono ?_); rintro e w7 ⟨rfl, hE7, hF7⟩; have HC3 := Aside0.mk (HC2.out.framed hE7 hF7); clear hE7 hF7 hxb hxr hxc; have hxb := HC3.out.boxc; have hxr := HC3.out.rowc; have hxc := HC3.out.colc) | (go_at_call 104; (with_reducible refine (eclear_calls HC3.out.elim piv.length j (by rw [scaleRow_length]; exact HR1.out) HS2.out (by omega) (by omega) (by rw [scaleRow_length]; have := HN1.out; omega)).mono ?_); rintro e w8 ⟨rfl, hE8, hF8⟩; have HC4 := Aside0.mk (HC3.out.framed hE8 hF8); clear hE8 hF8 hxb hxr hxc; have hxb := HC4.out.boxc; have hxr := HC4.out.rowc; have hxc := HC4.out.colc))
        clear HC2 HC3 w7
        obtain ⟨vq, hxv, hRv⟩ := HC4.out.elim.piv'
        obtain ⟨Aq, cq, rfl⟩ := Kd.R_slice hRv
        have HRV := Aside0.mk hRv
        have hpl : piv.length ≤ 64 := by have := HR1.out; have := HN1.out; omega
        clear hRv hxr
        have hfx1 := HC4.out.elim.cells.2.2 1
        refine start_ (n := 11) (S := fun w' => w'.cell? ⟨gbx, 0, none⟩ = some (.pointer (some ⟨gx, 0, none⟩)) ∧ w'.cell? ⟨gx, 1, none⟩ = some (.slice Aq (natInts piv).length cq) ∧ w'.cell? ⟨gcol, 0, none⟩ = some (.int .i64 (j : Int))) (ds := [10]) #[false, false, false, false, false, false, false, false, false, false, false] (by kernel_rfl) rfl rfl ⟨hxb, hxv, hxc⟩ (fun hHeld => ?_)
        refine with_tabW f87.tab11 f87.bits11 (fun HT_ HW_ => ?_)
        have HC5 := Aside0.mk HC4.out.drew
        replace HRV := Aside0.mk (Kd.R_below HRV.out (below_drew (Below.refl _ _)))
        have HXV := Aside0.mk hHeld.2.1
        replace hfx1 : w8.drew.frozen? ⟨gx, 1, none⟩ = false := hfx1
        clear hxb hxv hxc
        generalize w8.drew = W3 at HC5 HRV HXV hHeld hfx1 ⊢
        refine take_ (i := 0) (N := some 51) (v := ?_) (a' := ?_) #[true, false, false, false, false, false, false, false, false, false, false] rfl rfl (take_ofW HT_.out HW_.out (by kernel_rfl)) (fun _ _ _ h => h) (Or.inl ⟨by rfl, ?_⟩) hHeld ?_ ?_
        rotate_left
        · rintro w' ⟨s0, s1, s2⟩
          go_simp
          with_reducible rfl
        rotate_left
        · simp only [Act.put, List.setIfInBounds_toArray, List.set_cons_zero, List.set_cons_succ, i64_w, i32_w]
          rfl
        refine take_ (i := 1) (N := some 52) (v := ?_) (a' := ?_) #[true, true, false, false, false, false, false, false, false, false, false] rfl rfl (take_ofW HT_.out HW_.out (by kernel_rfl)) (fun _ _ _ h => h) (Or.inl ⟨by rfl, ?_⟩) hHeld ?_ ?_
        rotate_left
        · rintro w' ⟨s0, s1, s2⟩
          go_simp
          with_reducible rfl
        rotate_left
        · simp only [Act.put, List.setIfInBounds_toArray, List.set_cons_zero, List.set_cons_succ, i64_w, i32_w]
          rfl
        refine pure_ (i := 2) (N := some 53) (v := ?_) (a' := ?_) #[true, true, true, false, false, false, false, false, false, false, false] rfl rfl (any_of HT_.out (by kernel_rfl)) (fun _ _ _ h => h) (Or.inl ⟨by rfl, ?_⟩) ?_ ?_
        rotate_left
        · intro w'
          go_simp
          with_reducible rfl
        rotate_left
        · simp only [Act.put, List.setIfInBounds_toArray, List.set_cons_zero, List.set_cons_succ, i64_w, i32_w]
          rfl
        refine pure_ (i := 3) (N := some 54) (v := ?_) (a' := ?_) #[true, true, true, true, false, false, false, false, false, false, false] rfl rfl (any_of HT_.out (by kernel_rfl)) (fun _ _ _ h => h) (Or.inl ⟨by rfl, ?_⟩) ?_ ?_
        rotate_left
        · intro w'
          go_simp
          with_reducible rfl
        rotate_left
        · simp only [Act.put, List.setIfInBounds_toArray, List.set_cons_zero, List.set_cons_succ, i64_w, i32_w]
          rfl
        refine take_ (i := 4) (N := some 55) (v := ?_) (a' := ?_) #[true, true, true, true, true, false, false, false, false, false, false] rfl rfl (take_ofW HT_.out HW_.out (by kernel_rfl)) (fun _ _ _ h => h) (Or.inl ⟨by rfl, ?_⟩) hHeld ?_ ?_
        rotate_left
        · rintro w' ⟨s0, s1, s2⟩
          go_simp
          with_reducible rfl
        rotate_left
        · simp only [Act.put, List.setIfInBounds_toArray, List.set_cons_zero, List.set_cons_succ, i64_w, i32_w]
          rfl
        refine take_ (i := 5) (N := some 56) (v := ?_) (a' := ?_) #[true, true, true, true, true, true, false, false, false, false, false] rfl rfl (take_ofW HT_.out HW_.out (by kernel_rfl)) (fun _ _ _ h => h) (Or.inl ⟨by rfl, ?_⟩) hHeld ?_ ?_
        rotate_left
        · rintro w' ⟨s0, s1, s2⟩
          go_simp
          with_reducible rfl
        rotate_left
        · simp only [Act.put, List.setIfInBounds_toArray, List.set_cons_zero, List.set_cons_succ, i64_w, i32_w]
          rfl
        refine one_ (i := 6) (N := some 57) #[true, true, true, true, true, true, true, false, false, false, false] rfl rfl (one_of HT_.out (by kernel_rfl)) (by decide) (fun K hK => ?_)
        refine event_step (v := .slice (some ⟨W3.heap.size, 0, none⟩) 1 1) (w1 := W3.alloc (.cells #[.int .i64 (j : Int)] 3 (0, 0))) (by rfl) (by first | (go_simp; done) | (go_simp; rfl)) ?_
        refine hK.out _ _ ⟨((below_alloc (Below.refl _ _) _).cell (blk_lt HC5.out.box)).trans hHeld.1, ((below_alloc (Below.refl _ _) _).cell HC5.out.elim.lt).trans hHeld.2.1, ((below_alloc (Below.refl _ _) _).cell (blk_lt HC5.out.col)).trans hHeld.2.2⟩ (fun hHeld => ?_)
        clear hK K
        refine norm_ (a' := ?_) ?_ ?_
        rotate_left
        · show Act.put _ (some 57) _ = _
          simp only [Act.put, List.setIfInBounds_toArray, List.set_cons_zero, List.set_cons_succ, i64_w, i32_w]
          rfl
        refine one_ (i := 7) (N := some 58) #[true, true, true, true, true, true, true, true, false, false, false] rfl rfl (one_of HT_.out (by kernel_rfl)) (by decide) (fun K hK => ?_)
        refine Kd.R_append_step (Kd.int .i64) (w0 := W3) base (by rfl) (.tmp 55) (.tmp 57) 29 3 (.int .i64 0) 8 rfl rfl rfl rfl (by decide) (by decide) (.slice Aq (natInts piv).length cq) (natInts piv) (j : Int) [.int .i64 (j : Int)] (fun k => ¬ colX gbx grow gcol k ∧ k ≠ gx ∧ k ≠ gr) (fun _ => False) rfl rfl rfl (fun _ hk => hk.elim) (fun k hk => ?hfresh) HRV.out (Below.refl _ _) ?hbase ?hlen ?_
        case hfresh => have h1 := blk_lt HC5.out.box; have h2 := blk_lt HC5.out.row; have h3 := blk_lt HC5.out.col; have h4 := HC5.out.elim.lt; have h5 := HC5.out.elim.ltr; exact ⟨by rintro (((h | h) | h) | h) <;> omega, by omega, by omega⟩
        case hbase => have h1 := blk_lt HC5.out.box; have h2 := HC5.out.base2; omega
        case hlen => rw [natInts, List.length_map]; omega
        intro v4 W4 hR6 hB6 hG6 hO6
        obtain ⟨A4, c4, rfl⟩ := Kd.R_slice hR6
        generalize (natInts piv ++ [(j : Int)]).length = n4 at *
        have HR6 := Aside0.mk hR6
        have HB6 := Aside0.mk hB6
        have HG6 := Aside0.mk hG6
        have HN6 := Aside0.mk (HC5.out.append HXV.out hR6 hG6 (HC5.out.below.trans hB6))
        clear hR6 hB6 hG6 hO6
        have hne : ∀ g, colX gbx grow gcol g ∨ g = gx → some g ≠ (Value.slice Aq (natInts piv).length cq).ownBlock := fun g hg e => hg.elim (fun h => (HRV.out.1 g e.symm).1 h) (fun h => (HRV.out.1 g e.symm).2.1 h)
        have hq1 := blk_grown HC5.out.box HG6.out (hne _ (.inl (.inl (.inl (.inr rfl)))))
        have hq2 := blk_grown HC5.out.col HG6.out (hne _ (.inl (.inr rfl)))
        have hq3 := (HG6.out.block gx HC5.out.elim.lt (hne _ (.inr rfl)))
        replace hfx1 : W4.frozen? ⟨gx, 1, none⟩ = false := by rw [← hfx1]; unfold World.frozen?; rw [hq3]
        refine hK.out _ _ ⟨by rw [blk_cell hq1]; rfl, (World.cell?_of_block hq3).trans HXV.out, by rw [blk_cell hq2]; rfl⟩ (fun hHeld => ?_)
        clear hne hq1 hq2 hq3
        clear hK K
        refine norm_ (a' := ?_) ?_ ?_
        rotate_left
        · show Act.put _ (some 58) _ = _
          simp only [Act.put, List.setIfInBounds_toArray, List.set_cons_zero, List.set_cons_succ, i64_w, i32_w]
          rfl
        refine pure_ (i := 8) (N := some 59) (v := ?_) (a' := ?_) #[true, true, true, true, true, true, true, true, true, false, false] rfl rfl (any_of HT_.out (by kernel_rfl)) (fun _ _ _ h => h) (Or.inl ⟨by rfl, ?_⟩) ?_ ?_
        rotate_left
        · intro w'
          go_simp
          with_reducible rfl
        rotate_left
        · simp only [Act.put, List.setIfInBounds_toArray, List.set_cons_zero, List.set_cons_succ, i64_w, i32_w]
          rfl
        refine pure_ (i := 9) (N := some 60) (v := ?_) (a' := ?_) #[true, true, true, true, true, true, true, true, true, true, false] rfl rfl (any_of HT_.out (by kernel_rfl)) (fun _ _ _ h => h) (Or.inl ⟨by rfl, ?_⟩) ?_ ?_
        rotate_left
        · intro w'
          go_simp
          with_reducible rfl
        rotate_left
        · simp only [Act.put, List.setIfInBounds_toArray, List.set_cons_zero, List.set_cons_succ, i64_w, i32_w]
          rfl
        refine last_ (i := 10) (N := none) #[true, true, true, true, true, true, true, true, true, true, true] rfl rfl (one_of HT_.out (by kernel_rfl)) (by decide) (fun K hK => ?_)
        refine skip_ (w1 := ?_) (by rfl) rfl ?_ ?_
        rotate_left
        · go_simp
          rfl
        refine hK.out _ _ ?_
        clear hK K
        refine done_ (done_of HT_.out (by kernel_rfl)) ?_
        have HC6 := HN6
        clear HC4 HC5 HR6 HG6 HXV HRV HB6 HN6 hHeld hfx1
        generalize (W4.setCell ⟨gx, 1, none⟩ (.slice A4 n4 c4)) = W5 at HC6 ⊢
        clear W4
        have hxr := HC6.out.rowc
        have hfr := HC6.out.rowf
        have hl4 : (clearRows (scaleRow R1 piv.length j) piv.length j).length = R.length := by rw [clearRows_length, scaleRow_length, HSL.out]; exact HL.out
        have HX5 := Aside0.mk hl4
        clear hl4
        go_wp2
        have HC7 : Aside0 (ColSt w0 (W5.setCell ⟨grow, 0, none⟩ (.int .i64 ((piv.length : Int) + 1))) base gx gr c gbx grow gcol j (piv ++ [j]).length (clearRows (scaleRow R1 piv.length j) piv.length j) (natInts (piv ++ [j])) (gmul det (((R1).getD piv.length []).getD j 0))) := by
          have h := HC6.out.inc (piv.length + 1)
          have e : natInts piv ++ [(j : Int)] = natInts (piv ++ [j]) := by simp [natInts]
          have e2 : (piv ++ [j]).length = piv.length + 1 := by simp
          rw [e] at h
          rw [e2]
          exact ⟨h⟩
        clear hxr hfr HC6
        generalize (W5.setCell ⟨grow, 0, none⟩ (.int .i64 ((piv.length : Int) + 1))) = W6 at HC7 ⊢
        clear W5
        have hxr : W6.cell? ⟨grow, 0, none⟩ = some (.int .i64 ((piv.length : Int) + 1)) := by
          have := HC7.out.rowc
          rw [this]; simp
        have hxb := HC7.out.boxc
        have hx0 := HC7.out.elim.cells.1
        rw [HX5.out] at hx0
        have HRS1 : Aside0 (∀ w, ColSt w0 w base gx gr c gbx grow gcol j (piv ++ [j]).length (clearRows (scaleRow R1 piv.length j) piv.length j) (natInts (piv ++ [j])) (gmul det (((R1).getD piv.length []).getD j 0)) → RunSt w0 w base gx gr c gbx grow (elimRun R (j + 1))) := ⟨fun w h => by rw [HS.out, HSS.out]; exact h.run⟩
        have HFU : Aside0 (piv.length + 1 = R.length → elimRun R cols = elimRun R (j + 1)) := ⟨fun e => by
          have := elimRun_full (R := R) (n := j + 1) (by rw [HS.out, HSS.out]; simp; omega) (cols - (j + 1))
          rw [← this]; congr 1; omega⟩
        clear HRS HSS HSL HR1 HRL HS2 HN1 HX5 HS HFI HFE HK HL1 HL2
        by_cases hfull : piv.length + 1 = R.length
        · have ht : (((piv.length : Int) + 1) == (R.length : Int)) = true := by rw [beq_iff_eq]; omega
          have HFU2 := Aside0.mk (HFU.out hfull)
          clear hfull HFU
          go_wp2
          go_quiet (fail)
          go_wp2
          unfold Exit.noGoto
          go_end0
          have hF := HRS1.out _ (HC7.out.drewN nq)
          rw [← HFU2.out] at hF
          exact ⟨rfl, hF.elim.weaken (fun _ (hk : False) => hk.elim), hF.below⟩
        · have ht : (((piv.length : Int) + 1) == (R.length : Int)) = false := by rw [beq_eq_false_iff_ne]; omega
          clear hfull HFU
          go_wp2
          go_quiet (fail)
          go_wp2
          go_roundw
          case rel => exact ⟨j + 1, by omega, by go_num, ⟨HRS1.out _ (HC7.out.drewN nq)⟩⟩
          case measure => simp [intOf]; omega
    · obtain rfl : j = cols := by omega
      go_wp2
      unfold Exit.noGoto
      go_end0
      exact ⟨rfl, HA.out.elim.weaken (fun _ (hk : False) => hk.elim), HA.out.below⟩
end Go.Proofs.Ytpkghpljgjlmjaa.K
/- The elimination of package matrix: the walk of eliminate. -/
namespace Go.Proofs.Ytpkghpljgjlmjaa.K
open Go.RowKit Go.Proofs.YtpkghpljgjlmjaaW.PrintWords Go.Proofs.YtpkghpljgjlmjaaW.PrintLast Go.Proofs.YtpkghpljgjlmjaaW.PrintMore Kin
set_option linter.unusedVariables false
set_option linter.unusedSimpArgs false
/-- What an elimination has come to, at block gx. -/
structure ElimOut (w : World) (base gx : Nat) (s : ES) : Prop where
  out : ∃ vr vp, w.heap[gx]? = some (.cells #[vr, vp, .int .u8 (b2i s.2.2)] 80 (0, 0)) ∧ Kd.S D 34 w base (fun _ => True) vr (up2 s.1) ∧ Kd.R (Kd.int .i64) 3 w base (fun _ => True) vp (natInts s.2.1)
theorem Elim.toOut {w : World} {base gx gr c : Nat} {X : Nat → Prop} {s : ES} (h : Elim w base gx gr c X s.1 (natInts s.2.1) s.2.2) : ElimOut w base gx s := by
  obtain ⟨vp, hg, hp⟩ := h.piv
  exact ⟨⟨_, vp, hg, h.rows, Kd.R_mono hp (fun _ _ => trivial)⟩⟩
set_option maxRecDepth 100000 in
set_option maxHeartbeats 2000000 in
theorem run_zero (w : World) (p : Option Addr) : Calls Try.prog 87 #[.pointer p, .int .i64 0] w fun e w' => e = .returned (.tuple #[]) ∧ Below w.heap.size w w' := by
  have HBB := Aside0.mk (Below.refl w.heap.size w)
  go_enter Try.func87, Try.ntmps87
  go_wp2_with (first | ((with_reducible refine gate_dst (N := 2) rfl ?_); refine box_event rfl (N := 2) rfl (cs := #[.pointer p]) (t := 77) ?hrun ?_; (case hrun => first | (go_simp; done) | (go_simp; rfl)); intro gbx hgb w1 hb1 hB1; have HG1 := Aside0.mk hgb; have HB1 := Aside0.mk hB1; clear hgb hb1 hB1) | ((with_reducible refine gate_dst (N := 4) rfl ?_); refine box_event rfl (N := 4) rfl (cs := #[.int .i64 0]) (t := 3) ?hrun ?_; (case hrun => first | (go_simp; done) | (go_simp; rfl)); intro grow hgr w2 hb2 hB2; have HG2 := Aside0.mk hgr; have HB2 := Aside0.mk hB2; have hxr := blk_cell hb2 0; have hfr := blk_frozen hb2 0; clear hgr hb2 hB2))
  go_frame
  go_step3
  go_wp2_with (first | ((with_reducible refine gate_dst (N := 2) rfl ?_); refine box_event rfl (N := 2) rfl (cs := #[.pointer p]) (t := 77) ?hrun ?_; (case hrun => first | (go_simp; done) | (go_simp; rfl)); intro gbx hgb w1 hb1 hB1; have HG1 := Aside0.mk hgb; have HB1 := Aside0.mk hB1; clear hgb hb1 hB1) | ((with_reducible refine gate_dst (N := 4) rfl ?_); refine box_event rfl (N := 4) rfl (cs := #[.int .i64 0]) (t := 3) ?hrun ?_; (case hrun => first | (go_simp; done) | (go_simp; rfl)); intro grow hgr w2 hb2 hB2; have HG2 := Aside0.mk hgr; have HB2 := Aside0.mk hB2; have hxr := blk_cell hb2 0; have hfr := blk_frozen hb2 0; clear hgr hb2 hB2))
  go_step3
  go_wp2_with (first | ((with_reducible refine gate_dst (N := 2) rfl ?_); refine box_event rfl (N := 2) rfl (cs := #[.pointer p]) (t := 77) ?hrun ?_; (case hrun => first | (go_simp; done) | (go_simp; rfl)); intro gbx hgb w1 hb1 hB1; have HG1 := Aside0.mk hgb; have HB1 := Aside0.mk hB1; clear hgb hb1 hB1) | ((with_reducible refine gate_dst (N := 4) rfl ?_); refine box_event rfl (N := 4) rfl (cs := #[.int .i64 0]) (t := 3) ?hrun ?_; (case hrun => first | (go_simp; done) | (go_simp; rfl)); intro grow hgr w2 hb2 hB2; have HG2 := Aside0.mk hgr; have HB2 := Aside0.mk hB2; have hxr := blk_cell hb2 0; have hfr := blk_frozen hb2 0; clear hgr hb2 hB2))
  have HB := Aside0.mk (((HB1.out.trans (HB2.out.mono HB1.out.size))).setCell (p := ⟨grow, 0, none⟩) (by show w.heap.size ≤ grow; rw [HG2.out]; exact HB1.out.size) (.int .i64 0))
  clear hxr hfr HG1 HB1 HG2 HB2
  generalize (w2.setCell ⟨grow, 0, none⟩ (.int .i64 0)) = W0 at HB ⊢
  clear w1 w2
  go_loopw [9] (fun v9 wr => v9 = .int .i64 0 ∧ Aside0 (Below w.heap.size w wr)) (fun v9 _ => 0)
  case atStart => exact ⟨rfl, HB⟩
  case round =>
    obtain ⟨rfl, HA⟩ := hrel
    go_wp2
    unfold Exit.noGoto
    go_end0
    exact ⟨rfl, HA.out⟩
theorem run_any {w0 w4 w5 : World} {base gx c4 cols m : Nat} {A4 : Option Addr} {R : List (List B)} (hS : Kd.S D 34 w4 base (fun _ => True) (.slice A4 (up2 R).length c4) (up2 R)) (hg : gx = w4.heap.size)
    (hb : w5.heap[gx]? = some (.cells #[.slice A4 (up2 R).length c4, .slice none 0 0, .int .u8 1] 80 (0, 0))) (hB : Below w4.heap.size w4 w5) (hB0 : Below base w0 w4) (hbase : base ≤ w4.heap.size)
    (hm : ∀ r ∈ R, r.length = m) (hcols : cols ≤ m) (hlim : m ≤ 1000) (hn : R.length ≤ 64) (h0 : R = [] → cols = 0) :
    Calls Try.prog 87 #[.pointer (some ⟨gx, 0, none⟩), .int .i64 (cols : Int)] w5 fun e w' => e = .returned (.tuple #[]) ∧ ElimOut w' base gx (elimRun R cols) ∧ Below base w0 w' := by
  have hB5 : Below base w0 w5 := hB0.trans (hB.mono hbase)
  have hS5 := Kd.S_below hS hB
  by_cases hR : R = []
  · obtain rfl := h0 hR
    subst hR
    refine (run_zero w5 _).mono ?_
    rintro e w' ⟨rfl, hb'⟩
    refine ⟨rfl, ⟨_, .slice none 0 0, (hb'.block _ (blk_lt hb)).trans hb, Kd.S_below hS5 hb', Kd.R_nil _ _ _ _ _⟩, hB5.trans (hb'.mono ?_)⟩
    have := hB.size
    omega
  · obtain ⟨inner, ho⟩ := Kd.S_own hS
    have hl : 0 < (up2 R).length := by
      rw [up2_length]
      exact List.length_pos_iff.2 hR
    obtain ⟨gr, rfl⟩ : ∃ gr, A4 = some ⟨gr, 0, none⟩ := by
      rcases ho.2 with ⟨e, e2⟩ | ⟨g, cap, cur, e, _⟩
      · injection e with e1 e2 e3
        omega
      · injection e with e1 e2 e3
        exact ⟨g, e1⟩
    have hgr := Kd.S_lt hS gr rfl
    have hbr := Kd.S_base hS gr rfl
    rw [up2_length] at hb hS5
    have hE : Elim w5 base gx gr c4 (fun _ => False) R [] 1 := ⟨⟨_, hb, Kd.R_nil _ _ _ _ _⟩, hS5, by omega, by omega, by omega⟩
    refine (run_calls hE hB5 cols hm hcols hlim hn).mono ?_
    rintro e w' ⟨rfl, hE', hB'⟩
    exact ⟨rfl, hE'.toOut, hB'⟩
set_option maxRecDepth 100000 in
set_option maxHeartbeats 2000000 in
theorem eliminate_calls (A0 : Option Addr) (c0 : Nat) (R : List (List B)) (cols m : Nat) (w : World) (hr0 : Kd.C (Kd.slice 5 (Kd.int .u8)) w A0 (up2 R).length (up2 R)) (hc0 : (up2 R).length ≤ c0) (hm : ∀ r ∈ R, r.length = m) (hcols : cols ≤ m) (hlim : m ≤ 1000) (hn : R.length ≤ 64) (h0 : R = [] → cols = 0) :
    Calls Try.prog 62 #[.slice A0 (up2 R).length c0, .int .i64 (cols : Int)] w fun e w' => ∃ gx, e = .returned (.pointer (some ⟨gx, 0, none⟩)) ∧ ElimOut w' w.heap.size gx (elimRun R cols) ∧ Below w.heap.size w w' := by
  have HC := Aside0.mk (clone_eq (up2 R) (by rw [up2_length]; omega) (by
    intro x hx
    obtain ⟨r, hr, rfl⟩ := List.mem_map.1 hx
    rw [up_length, hm r hr]; omega) (k := R.length + 1) (by rw [up2_length]; omega))
  have HR0 := Aside0.mk hr0
  have HC0 := Aside0.mk hc0
  have HM := Aside0.mk hm
  clear hr0 hc0 hm
  go_enter Try.func62, Try.ntmps62
  go_wp2_with (first | (go_at_call 86; (with_reducible refine (matrix_clone.calls (R.length + 1) _ _ (up2 R) _ _ HR0.out HC0.out HC.out).mono ?_); rintro e w4 ⟨v4, rfl, hv4, hb4⟩; obtain ⟨A4, c4, rfl⟩ := Kd.R_slice (Kd.S_R hv4); have HV4 := Aside0.mk hv4; have HB4 := Aside0.mk hb4; clear hv4 hb4) | ((with_reducible refine gate_dst (N := 9) rfl ?_); refine box_event rfl (N := 9) rfl (cs := #[.slice A4 (up2 R).length c4, .slice none 0 0, .int .u8 1]) (t := 80) ?hrun ?_; (case hrun => first | (go_simp; done) | (go_simp; rfl)); intro gx hgx w5 hb5 hB5; have HG5 := Aside0.mk hgx; have HB5 := Aside0.mk hB5; have HK5 := Aside0.mk hb5; clear hgx hb5 hB5) | ((with_reducible refine (run_any HV4.out HG5.out HK5.out HB5.out HB4.out HB4.out.size HM.out hcols hlim hn h0).mono ?_); rintro e w6 ⟨rfl, hE6, hB6⟩; have HE6 := Aside0.mk hE6; have HB6 := Aside0.mk hB6; clear hE6 hB6))
  go_ret
  exact ⟨gx, rfl, HE6.out, HB6.out⟩
theorem eliminate_calls' {n : Nat} (A0 : Option Addr) (c0 : Nat) (R : List (List B)) (cols m : Nat) (w : World) (e : n = (up2 R).length) (hr0 : Kd.C (Kd.slice 5 (Kd.int .u8)) w A0 n (up2 R)) (hc0 : n ≤ c0) (hm : ∀ r ∈ R, r.length = m) (hcols : cols ≤ m) (hlim : m ≤ 1000) (hn : R.length ≤ 64) (h0 : R = [] → cols = 0) :
    Calls Try.prog 62 #[.slice A0 n c0, .int .i64 (cols : Int)] w fun e w' => ∃ gx, e = .returned (.pointer (some ⟨gx, 0, none⟩)) ∧ ElimOut w' w.heap.size gx (elimRun R cols) ∧ Below w.heap.size w w' := by
  subst e
  exact eliminate_calls A0 c0 R cols m w hr0 hc0 hm hcols hlim hn h0
end Go.Proofs.Ytpkghpljgjlmjaa.K
