/- Walks and plain facts behind the laws of package matrix. No conditions. -/
import Derived.Test.YtpkghpljgjlmjaaB4
import Derived.Test.YtpkghpljgjlmjaaProg
import Derived.Below
import Derived.Deep.Draws
import Derived.Deep.AppendLies
import Derived.Maps.AppendAt
import Derived.OwnWalk
import Derived.Laws.BytesArg
import Derived.Laws.MakeOwn
import Derived.Laws.OwnMore
import Derived.Deep.OwnRows
import Derived.Tactics
import Derived.Lib.ConvBytes
import Derived.Laws.Slices
import Derived.WalkKit
import Derived.KernelRfl
import Derived.RowKit3
import Derived.Deep.LoopGhost
import Derived.Deep.QuietTactic
import Derived.BigQuiet
import Derived.WideLaws
import Derived.Deep.DeepCutAuto
import Derived.Deep.CutBlock
import Derived.Deep.RegionHeld3
import Derived.Laws.Rows
import Derived.Lib.AppendStr
import Derived.ArgAppend
import Derived.Laws.IdiomCopy
import Derived.OrdersHeld
import Derived.Laws.BitsLemmas
import Derived.RowKit
import Derived.Test.YtpkghpljgjlmjaaU2
import Derived.Laws.BitsAllLaws
import Derived.Lib.AppendZerosOnto
import Derived.Lib.SliceRun
import Derived.Lib.Walk
import Derived.Outline
import Derived.ProofKit
import Derived.ShutString
import Derived.ChangeOld
import Derived.SizedLaws
import Derived.OpenShut
-- Lines of this claim, written by the session's own program kprint.py (it runs print.py).
namespace Go.Proofs.Ytpkghpljgjlmjaa.K
open Go.RowKit Go.Proofs.YtpkghpljgjlmjaaW.PrintWords Go.Proofs.YtpkghpljgjlmjaaW.PrintLast Go.Proofs.YtpkghpljgjlmjaaW.PrintMore
attribute [local go_sem] max2_int min2_int max_two min_two max_three min_three max_four min_four   -- for this text's walks alone
set_option linter.unusedVariables false
set_option linter.unusedSimpArgs false






theorem info3 : (Try.prog.info? 3).map (fun i => (i.zero, i.size, i.bytes)) = some (some (.int .i64 0), 1, 8) := by kernel_rfl
end Go.Proofs.Ytpkghpljgjlmjaa.K
-- Lines of this claim, written by the session's own program kprint.py (it runs print.py).
namespace Go.Proofs.Ytpkghpljgjlmjaa.K
open Go.RowKit Go.Proofs.YtpkghpljgjlmjaaW.PrintWords Go.Proofs.YtpkghpljgjlmjaaW.PrintLast Go.Proofs.YtpkghpljgjlmjaaW.PrintMore
attribute [local go_sem] max2_int min2_int max_two min_two max_three min_three max_four min_four   -- for this text's walks alone
set_option linter.unusedVariables false
set_option linter.unusedSimpArgs false
/-! ### matrix_Identity: function 48 -/
def matrix_Identity.l0 : Nat → List (List Int) → Int → Int → Option ((List (List Int)))
  | 0, _, _, _ => none
  | k + 1, x3, x12, x13 => if x13 < x12 then (if 0 ≤ x13 then (if x13 < (x3.length : Int) then (if x13 < ((rd_L1 x3 x13).length : Int) then (matrix_Identity.l0 k (x3.set (x13 : Int).toNat ((rd_L1 x3 x13).set (x13 : Int).toNat 1)) x12 (wrap64 (x13 + 1))) else (none)) else (none)) else (none)) else (some x3)
def matrix_Identity.f (k : Nat) (a0 : Int) : Option ((List (List Int))) := (matrix_size.f a0).bind fun t118 => (if t118 = true then ((matrix_zero.f k a0 a0).bind fun t119 => (matrix_Identity.l0 k t119 (t119.length : Int) 0)) else (some ([] : List (List Int))))
set_option maxHeartbeats 8000000 in
set_option maxRecDepth 100000 in
theorem matrix_Identity.calls (k : Nat) (a0 : Int) (r : List (List Int)) (w : World) (h : matrix_Identity.f k a0 = some r) :
    Calls Try.prog 48 #[.int .i64 a0] w fun e w' => ∃ v0_ : Value, e = .returned (v0_) ∧ Kd.S (Kd.slice 5 (Kd.int .u8)) 34 w' w.heap.size (fun _ => True) v0_ r ∧ Below w.heap.size w w' := by
  have HB := Aside0.mk (Below.refl w.heap.size w)
  have H : ((matrix_size.f a0).bind fun t118 => (if t118 = true then ((matrix_zero.f k a0 a0).bind fun t119 => (matrix_Identity.l0 k t119 (t119.length : Int) 0)) else (some ([] : List (List Int))))) = some r := h
  clear h
  replace H := Option.bind_eq_some_iff.mp H
  obtain ⟨t118, A20, H⟩ := H
  replace H : (if t118 = true then ((matrix_zero.f k a0 a0).bind fun t119 => (matrix_Identity.l0 k t119 (t119.length : Int) 0)) else (some ([] : List (List Int)))) = some r := H
  have A2 := Aside0.mk A20
  clear A20
  by_cases c3 : t118 = true
  · subst c3
    have H1 : ((matrix_zero.f k a0 a0).bind fun t119 => (matrix_Identity.l0 k t119 (t119.length : Int) 0)) = some r := by rw [if_pos rfl] at H; exact H
    clear H
    have H := H1
    clear H1
    replace H := Option.bind_eq_some_iff.mp H
    obtain ⟨t119, A40, H⟩ := H
    replace H : (matrix_Identity.l0 k t119 (t119.length : Int) 0) = some r := H
    have A4 := Aside0.mk A40
    clear A40
    have H' := Aside0.mk H
    clear H
    go_enter Try.func48, Try.ntmps48
    go_wp2_with (first | ((with_reducible refine gate_callee (f := 57) rfl ?_); refine goesL_ (some 6) rfl rfl Try.func57 (by kernel_rfl) rfl #[.int .i64 a0] rfl (by (try simp only [List.map_toArray, List.map_cons, List.map_nil]); first | done | rfl | (simp only [List.length_drop, List.length_take]; rfl)) ?_; (with_reducible refine (matrix_size.calls a0 true _ A2.out).mono ?_); rintro e w' ⟨rfl, ⟨nd, rfl⟩⟩; refine ⟨_, rfl, ?_⟩) | ((with_reducible refine gate_callee (f := 64) rfl ?_); refine goesL_ (some 10) rfl rfl Try.func64 (by kernel_rfl) rfl #[.int .i64 a0, .int .i64 a0] rfl (by (try simp only [List.map_toArray, List.map_cons, List.map_nil]); first | done | rfl | (simp only [List.length_drop, List.length_take]; rfl)) ?_; (with_reducible refine (matrix_zero.calls k a0 a0 t119 _ A4.out).mono ?_); rintro e w5 ⟨v120, rfl, ho0, hb⟩; refine ⟨_, rfl, ?_⟩; have n0_ := Aside0.mk (Kd.S_lower ho0 (below_size (by repeat (first | (with_reducible first | exact HB.out | apply below_alloc | apply pw_below_drewN | apply below_drew1) | exact HB.out)))); have n1_ := Aside0.mk (below_step (by repeat (first | (with_reducible first | exact HB.out | apply below_alloc | apply pw_below_drewN | apply below_drew1) | exact HB.out)) hb); clear HB; have HO121 := n0_; have HB := n1_; clear n0_ n1_; (try clear hb); (try clear hb2); (try clear hk); (try clear hi); (try clear ho0); obtain ⟨Ao6, co6, eo6⟩ := Kd.S_slice HO121.out; subst eo6))
    go_loopg [13] k (fun kq v13 w' => ∃ (x3_1 : List (List Int)) (x13_1 : Int), v13 = .int .i64 x13_1 ∧ Aside0 (matrix_Identity.l0 kq x3_1 (t119.length : Int) x13_1 = some r) ∧ Aside0 (kq ≤ k) ∧ Aside0 (Kd.S (Kd.slice 5 (Kd.int .u8)) 34 w' w.heap.size (fun _ => True) (.slice Ao6 t119.length co6) x3_1) ∧ Aside0 (Below w.heap.size w w'))
    case atStart => exact ⟨(t119), (0), (by first | rfl | (simp; done) | (simp [*]; done)), H', ⟨Nat.le_refl _⟩, ⟨by (with_reducible repeat (first | apply Kd.S_alloc | apply Kd.S_drewN | apply Kd.S_drew)); exact HO121.out⟩, ⟨by repeat (first | (with_reducible first | exact HB.out | apply below_alloc | apply pw_below_drewN | apply below_drew1) | exact HB.out)⟩⟩
    case round =>
      clear H'; (try clear p2); (try clear c3); (try clear c4); (try clear c5); (try clear c6)
      obtain ⟨x3_1, x13_1, rfl, HA, HK1, HO_3, HB⟩ := hrel
      have hl3_1 := (Kd.S_reads' HO_3.out).1
      rw [hl3_1] at HO_3
      (try simp only [hl3_1])
      cases gk with
      | zero => exact absurd HA.out (by simp [matrix_Identity.l0])
      | succ k1 =>
        have H := HA.out
        clear HA
        simp only [matrix_Identity.l0] at H
        by_cases c7 : x13_1 < (t119.length : Int)
        · rw [if_pos c7] at H
          have c7b0 : decide (x13_1 < (t119.length : Int)) = true := decide_eq_true c7
          (try (have c7b0x := c7b0; rw [hl3_1] at c7b0x))
          clear c7
          by_cases c8 : 0 ≤ x13_1
          · rw [if_pos c8] at H
            have c8b0 : decide (0 ≤ x13_1) = true := decide_eq_true c8
            (try (have c8b0x := c8b0; rw [hl3_1] at c8b0x))
            clear c8
            by_cases c9 : x13_1 < (x3_1.length : Int)
            · rw [if_pos c9] at H
              have c9b0 : decide (x13_1 < (x3_1.length : Int)) = true := decide_eq_true c9
              (try (have c9b0x := c9b0; rw [hl3_1] at c9b0x))
              clear c9
              by_cases c10 : x13_1 < ((rd_L1 x3_1 x13_1).length : Int)
              · rw [if_pos c10] at H
                have c10b0 : decide (x13_1 < ((rd_L1 x3_1 x13_1).length : Int)) = true := decide_eq_true c10
                (try (have c10b0x := c10b0; rw [hl3_1] at c10b0x))
                clear c10
                obtain ⟨y123, hy123⟩ : ∃ y_ : List Int, y_ = ((rd_L1 x3_1 x13_1).set (x13_1 : Int).toNat 1) := ⟨_, rfl⟩
                replace H : (matrix_Identity.l0 k1 (x3_1.set (x13_1 : Int).toNat y123) (t119.length : Int) (wrap64 (x13_1 + 1))) = some r := by first | (rw [hy123]; with_reducible exact H) | (have H2_ := (Option.bind_some _ _).symm.trans H; rw [hy123]; with_reducible exact H2_) | (have H2_ := (Option.bind_some _ _).symm.trans H; with_reducible exact H2_) | with_reducible exact H | (rw [hy123]; exact H) | exact H
                have Ny123 := Aside0.mk hy123
                clear hy123
                obtain ⟨y125, hy125⟩ : ∃ y_ : List (List Int), y_ = (x3_1.set (x13_1 : Int).toNat y123) := ⟨_, rfl⟩
                replace H : (matrix_Identity.l0 k1 y125 (t119.length : Int) (wrap64 (x13_1 + 1))) = some r := by first | (rw [hy125]; with_reducible exact H) | (have H2_ := (Option.bind_some _ _).symm.trans H; rw [hy125]; with_reducible exact H2_) | (have H2_ := (Option.bind_some _ _).symm.trans H; with_reducible exact H2_) | with_reducible exact H | (rw [hy125]; exact H) | exact H
                have Ny125 := Aside0.mk hy125
                clear hy125
                have H' := Aside0.mk H
                clear H
                have p122 : 0 ≤ (x13_1 : Int) := of_decide_eq_true (by first | (with_reducible assumption) | assumption)
                have q122 : x13_1 < (x3_1.length : Int) := of_decide_eq_true (by first | (with_reducible assumption) | assumption)
                obtain ⟨ad122, A122_0, c122_0, e122, hx122_0, hl122_0, hi122_0⟩ := at_L1 (Kd.S_reads' HO_3.out).2.2 x13_1 p122 q122
                cases e122
                obtain ⟨ce122, hce122, hMe122, hcc122⟩ := Kd.S_get HO_3.out [] x13_1 p122 (by first | exact q122 | exact of_decide_eq_true (by first | (with_reducible assumption) | assumption) | (have e_ := (Kd.S_reads' HO_3.out).1; omega))
                obtain ⟨ve122_0, rfl, ge122_0⟩ := hMe122
                have hv122_0 := hcc122 0 _ rfl
                rw [Nat.add_zero, show ((Kd.slice 5 (Kd.int .u8))).sz = 1 from rfl, Nat.mul_one] at hv122_0
                replace hv122_0 := Option.some.inj (hv122_0.symm.trans hx122_0)
                rw [hv122_0] at ge122_0
                have HL122_0 := Aside0.mk (show Kd.R (Kd.int .u8) 5 _ _ _ _ (rd_L1 x3_1 x13_1) from ge122_0)
                clear hv122_0 ge122_0
                have HX122_0 := Aside0.mk hx122_0
                clear hcc122 hce122
                have HR122_0 := Aside0.mk hi122_0
                have HC122_0 := Aside0.mk hl122_0
                clear hi122_0 hl122_0
                replace p122 := eq_true p122
                replace q122 := eq_true q122
                have p11 : 0 ≤ (x13_1 : Int) := of_decide_eq_true (by first | (with_reducible assumption) | assumption)
                have q11 : (x13_1 : Int) < (((rd_L1 x3_1 x13_1).length : Int) : Int) := of_decide_eq_true (by first | (with_reducible assumption) | assumption)
                obtain ⟨go11, co11, eo11, gb11, gl11, cl11, HG11⟩ := Kd.R_form HL122_0.out (by omega)
                (first | cases eo11 | (injection eo11 with ea_ en_ ec_; (first | subst ea_ | (injection ea_ with ea_; subst ea_)); subst ec_; clear en_))
                have GB11 := Aside0.mk gb11
                have GG11 := Aside0.mk HG11
                clear gb11 gl11 HG11
                obtain ⟨hx11_0, hf11_0⟩ := Kd.R_celln 0 HL122_0.out (x13_1 : Int) p11 q11
                replace p11 := eq_true p11
                replace q11 := eq_true q11
                have hq12 : (x13_1 : Int) < (x3_1.length : Int) := (by have h_ : (x13_1 : Int) < ((x3_1.length : Int) : Int) := of_decide_eq_true (by first | (with_reducible assumption) | assumption); first | exact h_ | (have e_ := (Kd.S_reads' HO_3.out).1; omega) | simpa only [List.length_set, List.length_set] using h_)
                obtain ⟨oki12, ce12, hcl12, hM12, hcc12, hok12, hbk12⟩ := Kd.S_borrow HO_3.out [] (x13_1 : Int) (of_decide_eq_true (by first | (with_reducible assumption) | assumption)) hq12
                obtain ⟨ve12_0, rfl, ge12_0⟩ := hM12
                have hv12 := hcc12 0 _ rfl
                rw [Nat.add_zero, show ((Kd.slice 5 (Kd.int .u8))).sz = 1 from rfl, Nat.mul_one] at hv12
                replace hv12 := Option.some.inj (hv12.symm.trans HX122_0.out)
                subst hv12
                clear hcc12 hcl12
                replace ge12_0 := (show Kd.R (Kd.int .u8) 5 _ _ _ _ (rd_L1 x3_1 x13_1) from ge12_0)
                have HP12 := Kd.R_putg ge12_0 (x13_1 : Int) 1
                go_wp2_with (first | ((with_reducible refine gate_store (t := 5) (p := 21) rfl ?_); refine store_event (t := 5) (p := 21) (v := ?vo_w13) (w1 := (wr.setCell ⟨go11, (x13_1 : Int).toNat, none⟩ (.int .u8 1))) ?hg ?ho ?hn ?hr ?_; (case ho => rfl); (case hg => rfl); (case hn => rfl); (case hr => first | (go_simp; done) | (go_simp; rfl)); intro w13 hw; have hg : wr.grownBy w13 (some go11) := (by rw [hw]; exact HP12.2); have hz_ : Kd.R (Kd.int .u8) 5 w13 w.heap.size oki12 (.slice (some ⟨go11, 0, none⟩) (rd_L1 x3_1 x13_1).length c122_0) y123 := (by rw [hw, Ny123.out]; exact HP12.1); have hp_ : Kd.S (Kd.slice 5 (Kd.int .u8)) 34 w13 w.heap.size (fun _ => True) (.slice (some ad122) x3_1.length co6) y125 := (by rw [Ny125.out]; exact hbk12 hg (fun k_ e_ => by injection e_ with e_; subst e_; exact ge12_0.1 _ rfl) (Kd.M_row hz_)); have hm_ := Kd.R_mono hz_ hok12; clear HP12 hbk12; have n0_ := Aside0.mk (hp_); have n1_ := Aside0.mk ((by rw [hw]; exact below_set (HB.out) GB11.out : Below w.heap.size w w13)); have n2_ := Aside0.mk (hm_); have n3_ := Aside0.mk ((Kd.R_reads' hm_).2.1); clear HO_3; clear HB; clear HL122_0; have HO_3 := n0_; have HB := n1_; have HL126 := n2_; have HC124 := n3_; clear n0_ n1_ n2_ n3_; clear hg hw hp_ hz_ hm_ hok12))
                (try simp only [← hl3_1])
                go_roundg k1
                case measure => have := HK1.out; omega
                case rel => exact ⟨(y125), (wrap64 (x13_1 + 1)), (by first | rfl | (simp; done) | (simp [*]; done)), H', ⟨by have := HK1.out; omega⟩, ⟨by (try simp only [hl3_1]); (with_reducible repeat (first | apply Kd.S_alloc | apply Kd.S_drewN | apply Kd.S_drew)); exact HO_3.out⟩, ⟨by repeat (first | (with_reducible first | exact HB.out | apply below_alloc | apply pw_below_drewN | apply below_drew1) | exact HB.out)⟩⟩
              · rw [if_neg c10] at H
                exact absurd H (by simp)
            · rw [if_neg c9] at H
              exact absurd H (by simp)
          · rw [if_neg c8] at H
            exact absurd H (by simp)
        · rw [if_neg c7] at H
          have c7b0 : decide (x13_1 < (t119.length : Int)) = false := decide_eq_false c7
          (try (have c7b0x := c7b0; rw [hl3_1] at c7b0x))
          clear c7
          obtain rfl := Option.some.inj H
          go_wp2
          go_ret
          exact ⟨_, by first | rfl | (simp [errW_none, errW_some] <;> rfl) | (simp [*, errW_none, errW_some] <;> rfl), by (with_reducible repeat (first | apply Kd.S_alloc | apply Kd.S_drewN | apply Kd.S_drew)); exact HO_3.out, by repeat (first | (with_reducible first | exact HB.out | apply below_alloc | apply pw_below_drewN | apply below_drew1) | exact HB.out)⟩
  · replace c3 := Bool.eq_false_iff.mpr c3
    subst c3
    have H1 : (some ([] : List (List Int))) = some r := by rw [if_neg (show ¬ (false = true) by decide)] at H; exact H
    clear H
    have H := H1
    clear H1
    obtain rfl := Option.some.inj H
    go_enter Try.func48, Try.ntmps48
    go_wp2_with (first | ((with_reducible refine gate_callee (f := 57) rfl ?_); refine goesL_ (some 6) rfl rfl Try.func57 (by kernel_rfl) rfl #[.int .i64 a0] rfl (by (try simp only [List.map_toArray, List.map_cons, List.map_nil]); first | done | rfl | (simp only [List.length_drop, List.length_take]; rfl)) ?_; (with_reducible refine (matrix_size.calls a0 false _ A2.out).mono ?_); rintro e w' ⟨rfl, ⟨nd, rfl⟩⟩; refine ⟨_, rfl, ?_⟩))
    go_ret
    exact ⟨_, by first | rfl | (simp [errW_none, errW_some] <;> rfl) | (simp [*, errW_none, errW_some] <;> rfl), by first | exact Kd.S_nil _ _ _ _ _ | exact Kd.N_nil _ _ _ _ _ | exact Kd.V_nil _ _ _ _ _ | exact Kd.Q_nil _ _ _ _ _ | exact Kd.R_nil _ _ _ _ _, by repeat (first | (with_reducible first | exact HB.out | apply below_alloc | apply pw_below_drewN | apply below_drew1) | exact HB.out)⟩
end Go.Proofs.Ytpkghpljgjlmjaa.K
/- The field of 256 elements on bytes: the product bit by bit, its laws, inverses. No program in sight. -/
namespace Kin
theorem bx_zero (a : B) : a ^^^ 0 = a := UInt8.xor_zero
theorem bx_cancel_left (a b : B) : a ^^^ (a ^^^ b) = b := by rw [← bx_assoc, bx_self, zero_bx]
theorem bx_cancel_right (a b : B) : a ^^^ b ^^^ b = a := by rw [bx_assoc, bx_self, bx_zero]
theorem bx_eq_zero {a b : B} : a ^^^ b = 0 ↔ a = b := by
  constructor
  · intro h
    have : a ^^^ b ^^^ b = 0 ^^^ b := by rw [h]
    rwa [bx_cancel_right, zero_bx] at this
  · rintro rfl
    exact bx_self a
theorem gmul_left_comm (a b c : B) : gmul a (gmul b c) = gmul b (gmul a c) := by rw [← gmul_assoc, gmul_comm a b, gmul_assoc]
theorem gmul_eq_zero {a b : B} : gmul a b = 0 ↔ a = 0 ∨ b = 0 := by
  constructor
  · intro h
    by_cases ha : a = 0
    · exact .inl ha
    · right
      have : gmul (ginv a) (gmul a b) = gmul (ginv a) 0 := by rw [h]
      rwa [← gmul_assoc, ginv_gmul a ha, one_gmul, gmul_zero] at this
  · rintro (rfl | rfl)
    · exact zero_gmul b
    · exact gmul_zero a
theorem gmul_ne_zero {a b : B} (ha : a ≠ 0) (hb : b ≠ 0) : gmul a b ≠ 0 := fun h => (gmul_eq_zero.1 h).elim ha hb
end Kin
/- The printed functions of the field (Add, double, Mul, raise, Inv) compute what Gf.lean defines. -/
namespace Go.Proofs.Ytpkghpljgjlmjaa.K
open Go.RowKit Go.Proofs.YtpkghpljgjlmjaaW.PrintWords Kin
set_option linter.unusedVariables false
theorem b2i_one : b2i 1 = 1 := rfl
theorem up2_append (a b : List (List B)) : up2 (a ++ b) = up2 a ++ up2 b := by simp [up2]
theorem up_drop (l : List B) (n : Nat) : (up l).drop n = up (l.drop n) := by simp [up, List.map_drop]
end Go.Proofs.Ytpkghpljgjlmjaa.K
/- Reduce and Rank of package matrix: walks. -/
namespace Go.Proofs.Ytpkghpljgjlmjaa.K
open Go.RowKit Go.Proofs.YtpkghpljgjlmjaaW.PrintWords Go.Proofs.YtpkghpljgjlmjaaW.PrintLast Go.Proofs.YtpkghpljgjlmjaaW.PrintMore Kin
set_option linter.unusedVariables false
set_option linter.unusedSimpArgs false
theorem bytes2_up2 (M : List (List B)) : bytes2 (up2 M) = true := by
  simp only [bytes2, up2, List.all_map, List.all_eq_true]
  intro x _
  show (up x).all isB = true
  rw [List.all_eq_true]
  intro y hy
  obtain ⟨z, _, rfl⟩ := List.mem_map.1 hy
  exact isB_b2i z
end Go.Proofs.Ytpkghpljgjlmjaa.K
-- Lines of this claim, written by the session's own program kprint.py (it runs print.py).
namespace Go.Proofs.Ytpkghpljgjlmjaa.K
open Go.RowKit Go.Proofs.YtpkghpljgjlmjaaW.PrintWords Go.Proofs.YtpkghpljgjlmjaaW.PrintLast Go.Proofs.YtpkghpljgjlmjaaW.PrintMore
attribute [local go_sem] max2_int min2_int max_two min_two max_three min_three max_four min_four   -- for this text's walks alone
set_option linter.unusedVariables false
set_option linter.unusedSimpArgs false
set_option maxHeartbeats 8000000 in
set_option maxRecDepth 100000 in
theorem kinkeepref04_Mul.calls (k : Nat) (a0 : Int) (a1 : Int) (r : Int) (w : World) (h : kinkeepref04_Mul.f k a0 a1 = some r) :
    Calls Try.prog 35 #[.int .u8 a0, .int .u8 a1] w fun e w' => e = .returned (.int .u8 r) ∧ Drawn0 w w' := by
  have H : (kinkeepref04_Mul.l0 k a1 (wrap64 (a0)) 0 0) = some r := h
  clear h
  have H' := Aside0.mk H
  clear H
  go_enter Try.func35, Try.ntmps35
  go_wp2
  go_loopg [5, 6, 7] k (fun kq v5 v6 v7 w' => ∃ (x5_1 : Int) (x6_1 : Int) (x7_1 : Int), v5 = .int .i64 x5_1 ∧ v6 = .int .i64 x6_1 ∧ v7 = .int .i64 x7_1 ∧ Aside0 (kinkeepref04_Mul.l0 kq a1 x5_1 x6_1 x7_1 = some r) ∧ Aside0 (kq ≤ k) ∧ Drawn0 w w')
  case atStart => exact ⟨(wrap64 (a0)), (0), (0), (by first | rfl | (simp; done) | (simp [*]; done)), (by first | rfl | (simp; done) | (simp [*]; done)), (by first | rfl | (simp; done) | (simp [*]; done)), H', ⟨Nat.le_refl _⟩, by repeat (first | exact Drawn0.refl _ | apply Drawn0.step)⟩
  case round =>
    clear H'; (try clear p2)
    obtain ⟨x5_1, x6_1, x7_1, rfl, rfl, rfl, HA, HK1, ⟨m1, rfl⟩⟩ := hrel
    cases gk with
    | zero => exact absurd HA.out (by simp [kinkeepref04_Mul.l0])
    | succ k1 =>
      have H := HA.out
      clear HA
      simp only [kinkeepref04_Mul.l0] at H
      by_cases c3 : x7_1 < 8
      · rw [if_pos c3] at H
        have c3b0 : decide (x7_1 < 8) = true := decide_eq_true c3
        clear c3
        by_cases c4 : 0 ≤ x7_1
        · rw [if_pos c4] at H
          have c4b0 := eq_true c4
          have c4b1 : decide (0 ≤ x7_1) = true := decide_eq_true c4
          clear c4
          obtain ⟨ji5, hji5⟩ : ∃ j_ : Int, (shr .u8 a1 x7_1) = j_ := ⟨_, rfl⟩
          replace H : (if (Go.bits .and .u8 (ji5) 1) = 1 then (if (wrap64 (x5_1 * 2)) > 255 then (kinkeepref04_Mul.l0 k1 a1 (Go.bits .xor .i64 (wrap64 (x5_1 * 2)) 285) (Go.bits .xor .i64 x6_1 x5_1) (wrap64 (x7_1 + 1))) else (kinkeepref04_Mul.l0 k1 a1 (wrap64 (x5_1 * 2)) (Go.bits .xor .i64 x6_1 x5_1) (wrap64 (x7_1 + 1)))) else (if (wrap64 (x5_1 * 2)) > 255 then (kinkeepref04_Mul.l0 k1 a1 (Go.bits .xor .i64 (wrap64 (x5_1 * 2)) 285) x6_1 (wrap64 (x7_1 + 1))) else (kinkeepref04_Mul.l0 k1 a1 (wrap64 (x5_1 * 2)) x6_1 (wrap64 (x7_1 + 1))))) = some r := by first | (rw [hji5] at H; exact H) | (simp only [hji5] at H ⊢; exact H)
          have hji5_ : (a1 / 2 ^ min x7_1.toNat 8) = ji5 := hji5
          have hji5z : x7_1 ≤ 8 → (a1 / 2 ^ x7_1.toNat) = ji5 := shr_small hji5
          by_cases c6 : (Go.bits .and .u8 (ji5) 1) = 1
          · rw [if_pos c6] at H
            have c6b0 : ((Go.bits .and .u8 (ji5) 1) == 1) = true := beq_iff_eq.mpr c6
            have c6b1 : ((Go.bits .and .u8 (ji5) 1) != 1) = false := bne_eq_false_iff_eq.mpr c6
            clear c6
            by_cases c7 : (wrap64 (x5_1 * 2)) > 255
            · rw [if_pos c7] at H
              have c7b0 : decide (255 < (wrap64 (x5_1 * 2))) = true := decide_eq_true c7
              clear c7
              have H' := Aside0.mk H
              clear H
              go_wp2
              go_roundg k1
              case measure => have := HK1.out; omega
              case rel => exact ⟨(Go.bits .xor .i64 (wrap64 (x5_1 * 2)) 285), (Go.bits .xor .i64 x6_1 x5_1), (wrap64 (x7_1 + 1)), (by first | rfl | (simp; done) | (simp [*]; done)), (by first | rfl | (simp; done) | (simp [*]; done)), (by first | rfl | (simp; done) | (simp [*]; done)), H', ⟨by have := HK1.out; omega⟩, by repeat (first | exact Drawn0.refl _ | apply Drawn0.step)⟩
            · rw [if_neg c7] at H
              have c7b0 : decide (255 < (wrap64 (x5_1 * 2))) = false := decide_eq_false c7
              clear c7
              have H' := Aside0.mk H
              clear H
              go_wp2
              go_roundg k1
              case measure => have := HK1.out; omega
              case rel => exact ⟨(wrap64 (x5_1 * 2)), (Go.bits .xor .i64 x6_1 x5_1), (wrap64 (x7_1 + 1)), (by first | rfl | (simp; done) | (simp [*]; done)), (by first | rfl | (simp; done) | (simp [*]; done)), (by first | rfl | (simp; done) | (simp [*]; done)), H', ⟨by have := HK1.out; omega⟩, by repeat (first | exact Drawn0.refl _ | apply Drawn0.step)⟩
          · rw [if_neg c6] at H
            have c6b0 : ((Go.bits .and .u8 (ji5) 1) == 1) = false := beq_eq_false_iff_ne.mpr c6
            have c6b1 : ((Go.bits .and .u8 (ji5) 1) != 1) = true := bne_iff_ne.mpr c6
            by_cases c8 : (wrap64 (x5_1 * 2)) > 255
            · rw [if_pos c8] at H
              have c8b0 : decide (255 < (wrap64 (x5_1 * 2))) = true := decide_eq_true c8
              clear c8
              have H' := Aside0.mk H
              clear H
              go_wp2
              go_roundg k1
              case measure => have := HK1.out; omega
              case rel => exact ⟨(Go.bits .xor .i64 (wrap64 (x5_1 * 2)) 285), (x6_1), (wrap64 (x7_1 + 1)), (by first | rfl | (simp; done) | (simp [*]; done)), (by first | rfl | (simp; done) | (simp [*]; done)), (by first | rfl | (simp; done) | (simp [*]; done)), H', ⟨by have := HK1.out; omega⟩, by repeat (first | exact Drawn0.refl _ | apply Drawn0.step)⟩
            · rw [if_neg c8] at H
              have c8b0 : decide (255 < (wrap64 (x5_1 * 2))) = false := decide_eq_false c8
              clear c8
              have H' := Aside0.mk H
              clear H
              go_wp2
              go_roundg k1
              case measure => have := HK1.out; omega
              case rel => exact ⟨(wrap64 (x5_1 * 2)), (x6_1), (wrap64 (x7_1 + 1)), (by first | rfl | (simp; done) | (simp [*]; done)), (by first | rfl | (simp; done) | (simp [*]; done)), (by first | rfl | (simp; done) | (simp [*]; done)), H', ⟨by have := HK1.out; omega⟩, by repeat (first | exact Drawn0.refl _ | apply Drawn0.step)⟩
        · rw [if_neg c4] at H
          exact absurd H (by simp)
      · rw [if_neg c3] at H
        have c3b0 : decide (x7_1 < 8) = false := decide_eq_false c3
        clear c3
        obtain rfl := Option.some.inj H
        go_wp2
        go_ret
        exact ⟨by first | rfl | (simp; done) | (simp [*]; done), by repeat (first | exact Drawn0.refl _ | apply Drawn0.step)⟩
set_option maxHeartbeats 8000000 in
set_option maxRecDepth 100000 in
theorem kinkeepref04_Cols.calls (A0 : Option Addr) (c0 : Nat) (l0 : List (List Int)) (r : Int) (w : World) (hr0 : Kd.C (Kd.slice 5 (Kd.int .u8)) w A0 l0.length l0) (hc0 : l0.length ≤ c0) (h : kinkeepref04_Cols.f l0 = some r) :
    Calls Try.prog 21 #[.slice A0 l0.length c0] w fun e w' => e = .returned (.int .i64 r) ∧ Drawn0 w w' := by
  have HR0 := Aside0.mk hr0
  have HC0 := Aside0.mk hc0
  clear hr0 hc0
  have H : (if (l0.length : Int) = 0 then (some 0) else (if 0 < (l0.length : Int) then (some ((rd_L1 l0 0).length : Int)) else (none))) = some r := h
  clear h
  by_cases c2 : (l0.length : Int) = 0
  · rw [if_pos c2] at H
    have c2b0 : ((l0.length : Int) == 0) = true := beq_iff_eq.mpr c2
    have c2b1 : ((l0.length : Int) != 0) = false := bne_eq_false_iff_eq.mpr c2
    clear c2
    obtain rfl := Option.some.inj H
    go_enter Try.func21, Try.ntmps21
    go_wp2
    go_ret
    exact ⟨by first | rfl | (simp; done) | (simp [*]; done), by repeat (first | exact Drawn0.refl _ | apply Drawn0.step)⟩
  · rw [if_neg c2] at H
    have c2b0 : ((l0.length : Int) == 0) = false := beq_eq_false_iff_ne.mpr c2
    have c2b1 : ((l0.length : Int) != 0) = true := bne_iff_ne.mpr c2
    have c2b2 : ¬ (l0 = []) := fun h_ => c2 (by rw [h_]; rfl)
    by_cases c3 : 0 < (l0.length : Int)
    · rw [if_pos c3] at H
      have c3b0 : decide (0 < (l0.length : Int)) = true := decide_eq_true c3
      have c3b1 : decide (0 < l0.length) = true := decide_eq_true (by omega)
      clear c3
      obtain rfl := Option.some.inj H
      have p131 : 0 ≤ (0 : Int) := (by omega)
      have q131 : 0 < (l0.length : Int) := of_decide_eq_true (by first | (with_reducible assumption) | assumption)
      obtain ⟨ad131, A131_0, c131_0, e131, hx131_0, hl131_0, hi131_0⟩ := at_L1 HR0.out 0 p131 q131
      cases e131
      have qi131 : (0 < l0.length) = True := eq_true (by omega)
      (try rw [show ((0 : Int)).toNat = 0 from rfl] at hx131_0)
      (try rw [Addr.add_zero'] at hx131_0)
      have HR131_0 := Aside0.mk hi131_0
      have HC131_0 := Aside0.mk hl131_0
      clear hi131_0 hl131_0
      replace p131 := eq_true p131
      replace q131 := eq_true q131
      go_enter Try.func21, Try.ntmps21
      go_wp2
      go_ret
      exact ⟨by first | rfl | (simp; done) | (simp [*]; done), by repeat (first | exact Drawn0.refl _ | apply Drawn0.step)⟩
    · rw [if_neg c3] at H
      exact absurd H (by simp)
set_option maxHeartbeats 8000000 in
set_option maxRecDepth 100000 in
theorem kinkeepref04_Zero.calls (k : Nat) (a0 : Int) (a1 : Int) (r : List (List Int)) (w : World) (h : kinkeepref04_Zero.f k a0 a1 = some r) :
    Calls Try.prog 26 #[.int .i64 a0, .int .i64 a1] w fun e w' => ∃ v0_ : Value, e = .returned (v0_) ∧ Kd.S (Kd.slice 5 (Kd.int .u8)) 34 w' w.heap.size (fun _ => True) v0_ r ∧ Below w.heap.size w w' := by
  have HB := Aside0.mk (Below.refl w.heap.size w)
  have H : (kinkeepref04_Zero.l0 k a0 a1 (([] : List (List Int))) 0) = some r := h
  clear h
  obtain ⟨y132, hy132⟩ : ∃ y_ : List (List Int), y_ = (([] : List (List Int))) := ⟨_, rfl⟩
  replace H : (kinkeepref04_Zero.l0 k a0 a1 y132 0) = some r := by first | (rw [hy132]; with_reducible exact H) | (have H2_ := (Option.bind_some _ _).symm.trans H; rw [hy132]; with_reducible exact H2_) | (have H2_ := (Option.bind_some _ _).symm.trans H; with_reducible exact H2_) | with_reducible exact H | (rw [hy132]; exact H) | exact H
  have Ny132 := Aside0.mk hy132
  clear hy132
  have H' := Aside0.mk H
  clear H
  go_enter Try.func26, Try.ntmps26
  go_wp2_with (first | ((with_reducible refine gate_dst (N := 7) rfl ?_); refine Kd.S_lit (Kd.slice 5 (Kd.int .u8)) _ 34 ?hg (N := 7) ?hd (xs := ([] : List (List Int))) (inner := []) (ok := fun _ => True) (okp := fun _ => True) ?hr ?hp (fun _ hk => hk) trivial (Below.refl _ _) (Nat.le_refl _) (by simp) ?_; (case hd => rfl); (case hg => rfl); (case hr => first | (go_simp; done) | (go_simp; rfl)); (case hp => exact (Reps.none _ _)); intro v133 w3 ho4 hb hg_ hnew_; clear hg_ hnew_; (first | rw [← Ny132.out] at ho4 | (simp only [Int.reduceToNat] at ho4; rw [← Ny132.out] at ho4)); have n0_ := Aside0.mk (Kd.S_lower ho4 (below_size (by repeat (first | (with_reducible first | exact HB.out | apply below_alloc | apply pw_below_drewN | apply below_drew1) | exact HB.out)))); have n1_ := Aside0.mk (below_step (by repeat (first | (with_reducible first | exact HB.out | apply below_alloc | apply pw_below_drewN | apply below_drew1) | exact HB.out)) hb); clear HB; have HO134 := n0_; have HB := n1_; clear n0_ n1_; clear hb ho4))
  go_loopg [5, 6] k (fun kq v5 v6 w' => ∃ (x5_1 : List (List Int)) (x6_1 : Int), v6 = .int .i64 x6_1 ∧ Aside0 (kinkeepref04_Zero.l0 kq a0 a1 x5_1 x6_1 = some r) ∧ Aside0 (kq ≤ k) ∧ Aside0 (Kd.S (Kd.slice 5 (Kd.int .u8)) 34 w' w.heap.size (fun _ => True) v5 x5_1) ∧ Aside0 (Below w.heap.size w w'))
  case atStart => exact ⟨(y132), (0), (by first | rfl | (simp; done) | (simp [*]; done)), H', ⟨Nat.le_refl _⟩, ⟨by (with_reducible repeat (first | apply Kd.S_alloc | apply Kd.S_drewN | apply Kd.S_drew)); exact HO134.out⟩, ⟨by repeat (first | (with_reducible first | exact HB.out | apply below_alloc | apply pw_below_drewN | apply below_drew1) | exact HB.out)⟩⟩
  case round =>
    clear H'; (try clear c2); (try clear p2)
    obtain ⟨x5_1, x6_1, rfl, HA, HK1, HO_5, HB⟩ := hrel
    cases gk with
    | zero => exact absurd HA.out (by simp [kinkeepref04_Zero.l0])
    | succ k1 =>
      have H := HA.out
      clear HA
      simp only [kinkeepref04_Zero.l0] at H
      by_cases c5 : x6_1 < a0
      · rw [if_pos c5] at H
        have c5b0 : decide (x6_1 < a0) = true := decide_eq_true c5
        clear c5
        by_cases c6 : 0 ≤ a1
        · rw [if_pos c6] at H
          have c6b0 := eq_true c6
          have c6b1 : decide (0 ≤ a1) = true := decide_eq_true c6
          clear c6
          by_cases c7 : (a1 : Int).toNat ≤ 281474976710656
          · rw [if_pos c7] at H
            have c7b0 := eq_true c7
            have c7b1 : decide ((a1 : Int).toNat ≤ 281474976710656) = true := decide_eq_true c7
            clear c7
            obtain ⟨y135, hy135⟩ : ∃ y_ : List Int, y_ = (List.replicate (a1 : Int).toNat 0) := ⟨_, rfl⟩
            replace H : (if x5_1.length < 5864062014805 then (kinkeepref04_Zero.l0 k1 a0 a1 (x5_1 ++ [y135]) (wrap64 (x6_1 + 1))) else (none)) = some r := by first | (rw [hy135]; with_reducible exact H) | (have H2_ := (Option.bind_some _ _).symm.trans H; rw [hy135]; with_reducible exact H2_) | (have H2_ := (Option.bind_some _ _).symm.trans H; with_reducible exact H2_) | with_reducible exact H | (rw [hy135]; exact H) | exact H
            have Ny135 := Aside0.mk hy135
            clear hy135
            by_cases c8 : x5_1.length < 5864062014805
            · rw [if_pos c8] at H
              have LMc8 := Aside0.mk c8
              clear c8
              obtain ⟨y138, hy138⟩ : ∃ y_ : List (List Int), y_ = (x5_1 ++ [y135]) := ⟨_, rfl⟩
              replace H : (kinkeepref04_Zero.l0 k1 a0 a1 y138 (wrap64 (x6_1 + 1))) = some r := by first | (rw [hy138]; with_reducible exact H) | (have H2_ := (Option.bind_some _ _).symm.trans H; rw [hy138]; with_reducible exact H2_) | (have H2_ := (Option.bind_some _ _).symm.trans H; with_reducible exact H2_) | with_reducible exact H | (rw [hy138]; exact H) | exact H
              have Ny138 := Aside0.mk hy138
              clear hy138
              have H' := Aside0.mk H
              clear H
              go_wp2_with (first | ((with_reducible refine gate_dst (N := 15) rfl ?_); refine Kd.R_make (Kd.int .u8) _ 5 rfl (N := 15) rfl 34 _ _ rfl a1 rfl rfl Try.underlying34 (.int .u8 0) 1 info5 rfl (by decide) (by omega) 0 (ok := fun _ => True) (okp := fun _ => True) rfl (fun _ hk => hk) trivial (of_decide_eq_true (by first | (with_reducible assumption) | assumption)) (Nat.le_trans (Nat.mul_le_mul_right _ (of_decide_eq_true (by first | (with_reducible assumption) | assumption) : a1.toNat ≤ 281474976710656)) (by omega)) (Below.refl _ _) (Nat.le_refl _) ?_; intro v136 w9 ho10 hb hg_ hnew_; clear hg_ hnew_; (first | rw [← Ny135.out] at ho10 | (simp only [Int.reduceToNat] at ho10; rw [← Ny135.out] at ho10)); have n0_ := Aside0.mk (Kd.S_elder' (by (with_reducible repeat (first | apply Kd.S_alloc | apply Kd.S_drewN | apply Kd.S_drew)); exact HO_5.out) (Kd.R_base ho10) hb); have n1_ := Aside0.mk (Kd.R_lower ho10 (below_size (by repeat (first | (with_reducible first | exact HB.out | apply below_alloc | apply pw_below_drewN | apply below_drew1) | exact HB.out)))); have n2_ := Aside0.mk (below_step (by repeat (first | (with_reducible first | exact HB.out | apply below_alloc | apply pw_below_drewN | apply below_drew1) | exact HB.out)) hb); clear HO_5; clear HB; have HO_5 := n0_; have HO137 := n1_; have HB := n2_; clear n0_ n1_ n2_; clear hb ho10; obtain ⟨Ao12, co12, eo12⟩ := Kd.R_slice HO137.out; subst eo12) | ((with_reducible refine gate_builtin (b := .append) (xs := #[.tmp 13, .tmp 16]) rfl ?_); at_builtin; refine Kd.S_append (Kd.slice 5 (Kd.int .u8)) (w0 := w) w.heap.size rfl (.tmp 13) (.tmp 16) 22 34 (.slice none 0 0) 24 rfl Try.underlying22 info34 rfl (by decide) (by omega) u5 x5_1 y135 [.slice Ao12 y135.length co12] (fun _ => True) (fun k_ => some k_ = (.slice Ao12 y135.length co12 : Value).ownBlock) rfl rfl ?aP (fun k_ hk_ => ((Kd.R_mono (ok' := fun k_ => ((fun _ => True)) k_ ∧ some k_ ≠ (u5 : Value).ownBlock) (Kd.R_apart' (HO137.out) (Kd.S_typed HO_5.out) (by decide)) (fun k_ hk => ⟨trivial, hk.2⟩))).1 k_ hk_.symm) ?aF ?aO ?aB ?aS ?aL ?_; (case aP => exact Kd.M_row (Kd.R_mono (Kd.R_tight rfl (Kd.R_mono (ok' := fun k_ => ((fun _ => True)) k_ ∧ some k_ ≠ (u5 : Value).ownBlock) (Kd.R_apart' (HO137.out) (Kd.S_typed HO_5.out) (by decide)) (fun k_ hk => ⟨trivial, hk.2⟩))) (fun _ h_ => h_))); (case aB => exact (by repeat (first | (with_reducible first | exact HB.out | apply below_alloc | apply pw_below_drewN | apply below_drew1) | exact HB.out))); (case aF => exact (fun _ _ => trivial)); (case aO => exact (by (with_reducible repeat (first | apply Kd.S_alloc | apply Kd.S_drewN | apply Kd.S_drew)); exact Kd.S_mono HO_5.out (fun k_ hk => ⟨trivial, fun e_ => hk.2 e_⟩))); (case aS => exact (below_size (by repeat (first | (with_reducible first | exact HB.out | apply below_alloc | apply pw_below_drewN | apply below_drew1) | exact HB.out)))); (case aL => have := LMc8.out; omega); intro v139 w11 ho hb hg hat; rw [← Ny138.out] at ho; have n0_ := Aside0.mk (hb); have n1_ := Aside0.mk (ho); clear HB; clear HO_5; clear HO137; have HB := n0_; have HO140 := n1_; clear n0_ n1_; clear ho hb hg hat))
              go_roundg k1
              case measure => have := HK1.out; omega
              case rel => exact ⟨(y138), (wrap64 (x6_1 + 1)), (by first | rfl | (simp; done) | (simp [*]; done)), H', ⟨by have := HK1.out; omega⟩, ⟨by (with_reducible repeat (first | apply Kd.S_alloc | apply Kd.S_drewN | apply Kd.S_drew)); exact HO140.out⟩, ⟨by repeat (first | (with_reducible first | exact HB.out | apply below_alloc | apply pw_below_drewN | apply below_drew1) | exact HB.out)⟩⟩
            · rw [if_neg c8] at H
              exact absurd H (by simp)
          · rw [if_neg c7] at H
            exact absurd H (by simp)
        · rw [if_neg c6] at H
          exact absurd H (by simp)
      · rw [if_neg c5] at H
        have c5b0 : decide (x6_1 < a0) = false := decide_eq_false c5
        clear c5
        obtain rfl := Option.some.inj H
        go_wp2
        go_ret
        exact ⟨_, by first | rfl | (simp [errW_none, errW_some] <;> rfl) | (simp [*, errW_none, errW_some] <;> rfl), by (with_reducible repeat (first | apply Kd.S_alloc | apply Kd.S_drewN | apply Kd.S_drew)); exact HO_5.out, by repeat (first | (with_reducible first | exact HB.out | apply below_alloc | apply pw_below_drewN | apply below_drew1) | exact HB.out)⟩
/-! ### kinkeepref04_Identity: function 51 -/
def kinkeepref04_Identity.l0 : Nat → Int → List (List Int) → Int → Option ((List (List Int)))
  | 0, _, _, _ => none
  | k + 1, x0, x3, x4 => if x4 < x0 then (if 0 ≤ x4 then (if x4 < (x3.length : Int) then (if x4 < ((rd_L1 x3 x4).length : Int) then (kinkeepref04_Identity.l0 k x0 (x3.set (x4 : Int).toNat ((rd_L1 x3 x4).set (x4 : Int).toNat 1)) (wrap64 (x4 + 1))) else (none)) else (none)) else (none)) else (some x3)
def kinkeepref04_Identity.f (k : Nat) (a0 : Int) : Option ((List (List Int))) := (kinkeepref04_Zero.f k a0 a0).bind fun t141 => (kinkeepref04_Identity.l0 k a0 t141 0)
set_option maxHeartbeats 8000000 in
set_option maxRecDepth 100000 in
theorem kinkeepref04_Identity.calls (k : Nat) (a0 : Int) (r : List (List Int)) (w : World) (h : kinkeepref04_Identity.f k a0 = some r) :
    Calls Try.prog 51 #[.int .i64 a0] w fun e w' => ∃ v0_ : Value, e = .returned (v0_) ∧ Kd.S (Kd.slice 5 (Kd.int .u8)) 34 w' w.heap.size (fun _ => True) v0_ r ∧ Below w.heap.size w w' := by
  have HB := Aside0.mk (Below.refl w.heap.size w)
  have H : ((kinkeepref04_Zero.f k a0 a0).bind fun t141 => (kinkeepref04_Identity.l0 k a0 t141 0)) = some r := h
  clear h
  replace H := Option.bind_eq_some_iff.mp H
  obtain ⟨t141, A20, H⟩ := H
  replace H : (kinkeepref04_Identity.l0 k a0 t141 0) = some r := H
  have A2 := Aside0.mk A20
  clear A20
  have H' := Aside0.mk H
  clear H
  go_enter Try.func51, Try.ntmps51
  go_wp2_with (first | ((with_reducible refine gate_callee (f := 26) rfl ?_); refine goesL_ (some 7) rfl rfl Try.func26 (by kernel_rfl) rfl #[.int .i64 a0, .int .i64 a0] rfl (by (try simp only [List.map_toArray, List.map_cons, List.map_nil]); first | done | rfl | (simp only [List.length_drop, List.length_take]; rfl)) ?_; (with_reducible refine (kinkeepref04_Zero.calls k a0 a0 t141 _ A2.out).mono ?_); rintro e w3 ⟨v142, rfl, ho0, hb⟩; refine ⟨_, rfl, ?_⟩; have n0_ := Aside0.mk (Kd.S_lower ho0 (below_size (by repeat (first | (with_reducible first | exact HB.out | apply below_alloc | apply pw_below_drewN | apply below_drew1) | exact HB.out)))); have n1_ := Aside0.mk (below_step (by repeat (first | (with_reducible first | exact HB.out | apply below_alloc | apply pw_below_drewN | apply below_drew1) | exact HB.out)) hb); clear HB; have HO143 := n0_; have HB := n1_; clear n0_ n1_; (try clear hb); (try clear hb2); (try clear hk); (try clear hi); (try clear ho0)))
  go_loopg [4] k (fun kq v4 w' => ∃ (x3_1 : List (List Int)) (x4_1 : Int), v4 = .int .i64 x4_1 ∧ Aside0 (kinkeepref04_Identity.l0 kq a0 x3_1 x4_1 = some r) ∧ Aside0 (kq ≤ k) ∧ Aside0 (Kd.S (Kd.slice 5 (Kd.int .u8)) 34 w' w.heap.size (fun _ => True) v142 x3_1) ∧ Aside0 (Below w.heap.size w w'))
  case atStart => exact ⟨(t141), (0), (by first | rfl | (simp; done) | (simp [*]; done)), H', ⟨Nat.le_refl _⟩, ⟨by (with_reducible repeat (first | apply Kd.S_alloc | apply Kd.S_drewN | apply Kd.S_drew)); exact HO143.out⟩, ⟨by repeat (first | (with_reducible first | exact HB.out | apply below_alloc | apply pw_below_drewN | apply below_drew1) | exact HB.out)⟩⟩
  case round =>
    clear H'; (try clear c2); (try clear p2)
    obtain ⟨x3_1, x4_1, rfl, HA, HK1, HO_3, HB⟩ := hrel
    cases gk with
    | zero => exact absurd HA.out (by simp [kinkeepref04_Identity.l0])
    | succ k1 =>
      have H := HA.out
      clear HA
      simp only [kinkeepref04_Identity.l0] at H
      by_cases c4 : x4_1 < a0
      · rw [if_pos c4] at H
        have c4b0 : decide (x4_1 < a0) = true := decide_eq_true c4
        clear c4
        by_cases c5 : 0 ≤ x4_1
        · rw [if_pos c5] at H
          have c5b0 : decide (0 ≤ x4_1) = true := decide_eq_true c5
          clear c5
          by_cases c6 : x4_1 < (x3_1.length : Int)
          · rw [if_pos c6] at H
            have c6b0 : decide (x4_1 < (x3_1.length : Int)) = true := decide_eq_true c6
            clear c6
            by_cases c7 : x4_1 < ((rd_L1 x3_1 x4_1).length : Int)
            · rw [if_pos c7] at H
              have c7b0 : decide (x4_1 < ((rd_L1 x3_1 x4_1).length : Int)) = true := decide_eq_true c7
              clear c7
              obtain ⟨y145, hy145⟩ : ∃ y_ : List Int, y_ = ((rd_L1 x3_1 x4_1).set (x4_1 : Int).toNat 1) := ⟨_, rfl⟩
              replace H : (kinkeepref04_Identity.l0 k1 a0 (x3_1.set (x4_1 : Int).toNat y145) (wrap64 (x4_1 + 1))) = some r := by first | (rw [hy145]; with_reducible exact H) | (have H2_ := (Option.bind_some _ _).symm.trans H; rw [hy145]; with_reducible exact H2_) | (have H2_ := (Option.bind_some _ _).symm.trans H; with_reducible exact H2_) | with_reducible exact H | (rw [hy145]; exact H) | exact H
              have Ny145 := Aside0.mk hy145
              clear hy145
              obtain ⟨y147, hy147⟩ : ∃ y_ : List (List Int), y_ = (x3_1.set (x4_1 : Int).toNat y145) := ⟨_, rfl⟩
              replace H : (kinkeepref04_Identity.l0 k1 a0 y147 (wrap64 (x4_1 + 1))) = some r := by first | (rw [hy147]; with_reducible exact H) | (have H2_ := (Option.bind_some _ _).symm.trans H; rw [hy147]; with_reducible exact H2_) | (have H2_ := (Option.bind_some _ _).symm.trans H; with_reducible exact H2_) | with_reducible exact H | (rw [hy147]; exact H) | exact H
              have Ny147 := Aside0.mk hy147
              clear hy147
              have H' := Aside0.mk H
              clear H
              obtain ⟨Ao9, co9, eo9⟩ := Kd.S_slice HO_3.out
              subst eo9
              have p144 : 0 ≤ (x4_1 : Int) := of_decide_eq_true (by first | (with_reducible assumption) | assumption)
              have q144 : x4_1 < (x3_1.length : Int) := of_decide_eq_true (by first | (with_reducible assumption) | assumption)
              obtain ⟨ad144, A144_0, c144_0, e144, hx144_0, hl144_0, hi144_0⟩ := at_L1 (Kd.S_reads' HO_3.out).2.2 x4_1 p144 q144
              cases e144
              obtain ⟨ce144, hce144, hMe144, hcc144⟩ := Kd.S_get HO_3.out [] x4_1 p144 (by first | exact q144 | exact of_decide_eq_true (by first | (with_reducible assumption) | assumption) | (have e_ := (Kd.S_reads' HO_3.out).1; omega))
              obtain ⟨ve144_0, rfl, ge144_0⟩ := hMe144
              have hv144_0 := hcc144 0 _ rfl
              rw [Nat.add_zero, show ((Kd.slice 5 (Kd.int .u8))).sz = 1 from rfl, Nat.mul_one] at hv144_0
              replace hv144_0 := Option.some.inj (hv144_0.symm.trans hx144_0)
              rw [hv144_0] at ge144_0
              have HL144_0 := Aside0.mk (show Kd.R (Kd.int .u8) 5 _ _ _ _ (rd_L1 x3_1 x4_1) from ge144_0)
              clear hv144_0 ge144_0
              have HX144_0 := Aside0.mk hx144_0
              clear hcc144 hce144
              have HR144_0 := Aside0.mk hi144_0
              have HC144_0 := Aside0.mk hl144_0
              clear hi144_0 hl144_0
              replace p144 := eq_true p144
              replace q144 := eq_true q144
              have p8 : 0 ≤ (x4_1 : Int) := of_decide_eq_true (by first | (with_reducible assumption) | assumption)
              have q8 : (x4_1 : Int) < (((rd_L1 x3_1 x4_1).length : Int) : Int) := of_decide_eq_true (by first | (with_reducible assumption) | assumption)
              obtain ⟨go8, co8, eo8, gb8, gl8, cl8, HG8⟩ := Kd.R_form HL144_0.out (by omega)
              (first | cases eo8 | (injection eo8 with ea_ en_ ec_; (first | subst ea_ | (injection ea_ with ea_; subst ea_)); subst ec_; clear en_))
              have GB8 := Aside0.mk gb8
              have GG8 := Aside0.mk HG8
              clear gb8 gl8 HG8
              obtain ⟨hx8_0, hf8_0⟩ := Kd.R_celln 0 HL144_0.out (x4_1 : Int) p8 q8
              replace p8 := eq_true p8
              replace q8 := eq_true q8
              have hq10 : (x4_1 : Int) < (x3_1.length : Int) := (by have h_ : (x4_1 : Int) < ((x3_1.length : Int) : Int) := of_decide_eq_true (by first | (with_reducible assumption) | assumption); first | exact h_ | (have e_ := (Kd.S_reads' HO_3.out).1; omega) | simpa only [List.length_set, List.length_set] using h_)
              obtain ⟨oki10, ce10, hcl10, hM10, hcc10, hok10, hbk10⟩ := Kd.S_borrow HO_3.out [] (x4_1 : Int) (of_decide_eq_true (by first | (with_reducible assumption) | assumption)) hq10
              obtain ⟨ve10_0, rfl, ge10_0⟩ := hM10
              have hv10 := hcc10 0 _ rfl
              rw [Nat.add_zero, show ((Kd.slice 5 (Kd.int .u8))).sz = 1 from rfl, Nat.mul_one] at hv10
              replace hv10 := Option.some.inj (hv10.symm.trans HX144_0.out)
              subst hv10
              clear hcc10 hcl10
              replace ge10_0 := (show Kd.R (Kd.int .u8) 5 _ _ _ _ (rd_L1 x3_1 x4_1) from ge10_0)
              have HP10 := Kd.R_putg ge10_0 (x4_1 : Int) 1
              go_wp2_with (first | ((with_reducible refine gate_store (t := 5) (p := 18) rfl ?_); refine store_event (t := 5) (p := 18) (v := ?vo_w11) (w1 := (wr.setCell ⟨go8, (x4_1 : Int).toNat, none⟩ (.int .u8 1))) ?hg ?ho ?hn ?hr ?_; (case ho => rfl); (case hg => rfl); (case hn => rfl); (case hr => first | (go_simp; done) | (go_simp; rfl)); intro w11 hw; have hg : wr.grownBy w11 (some go8) := (by rw [hw]; exact HP10.2); have hz_ : Kd.R (Kd.int .u8) 5 w11 w.heap.size oki10 (.slice (some ⟨go8, 0, none⟩) (rd_L1 x3_1 x4_1).length c144_0) y145 := (by rw [hw, Ny145.out]; exact HP10.1); have hp_ : Kd.S (Kd.slice 5 (Kd.int .u8)) 34 w11 w.heap.size (fun _ => True) (.slice (some ad144) x3_1.length co9) y147 := (by rw [Ny147.out]; exact hbk10 hg (fun k_ e_ => by injection e_ with e_; subst e_; exact ge10_0.1 _ rfl) (Kd.M_row hz_)); have hm_ := Kd.R_mono hz_ hok10; clear HP10 hbk10; have n0_ := Aside0.mk (hp_); have n1_ := Aside0.mk ((by rw [hw]; exact below_set (HB.out) GB8.out : Below w.heap.size w w11)); have n2_ := Aside0.mk (hm_); have n3_ := Aside0.mk ((Kd.R_reads' hm_).2.1); clear HO_3; clear HB; clear HL144_0; have HO_3 := n0_; have HB := n1_; have HL148 := n2_; have HC146 := n3_; clear n0_ n1_ n2_ n3_; clear hg hw hp_ hz_ hm_ hok10))
              go_roundg k1
              case measure => have := HK1.out; omega
              case rel => exact ⟨(y147), (wrap64 (x4_1 + 1)), (by first | rfl | (simp; done) | (simp [*]; done)), H', ⟨by have := HK1.out; omega⟩, ⟨by (with_reducible repeat (first | apply Kd.S_alloc | apply Kd.S_drewN | apply Kd.S_drew)); exact HO_3.out⟩, ⟨by repeat (first | (with_reducible first | exact HB.out | apply below_alloc | apply pw_below_drewN | apply below_drew1) | exact HB.out)⟩⟩
            · rw [if_neg c7] at H
              exact absurd H (by simp)
          · rw [if_neg c6] at H
            exact absurd H (by simp)
        · rw [if_neg c5] at H
          exact absurd H (by simp)
      · rw [if_neg c4] at H
        have c4b0 : decide (x4_1 < a0) = false := decide_eq_false c4
        clear c4
        obtain rfl := Option.some.inj H
        go_wp2
        go_ret
        exact ⟨_, by first | rfl | (simp [errW_none, errW_some] <;> rfl) | (simp [*, errW_none, errW_some] <;> rfl), by (with_reducible repeat (first | apply Kd.S_alloc | apply Kd.S_drewN | apply Kd.S_drew)); exact HO_3.out, by repeat (first | (with_reducible first | exact HB.out | apply below_alloc | apply pw_below_drewN | apply below_drew1) | exact HB.out)⟩
end Go.Proofs.Ytpkghpljgjlmjaa.K
-- Lines of this claim, written by the session's own program kprint.py (it runs print.py).
namespace Go.Proofs.Ytpkghpljgjlmjaa.K
open Go.RowKit Go.Proofs.YtpkghpljgjlmjaaW.PrintWords Go.Proofs.YtpkghpljgjlmjaaW.PrintLast Go.Proofs.YtpkghpljgjlmjaaW.PrintMore
attribute [local go_sem] max2_int min2_int max_two min_two max_three min_three max_four min_four   -- for this text's walks alone
set_option linter.unusedVariables false
set_option linter.unusedSimpArgs false
end Go.Proofs.Ytpkghpljgjlmjaa.K
-- Lines of this claim, written by the session's own program kprint.py (it runs print.py).
namespace Go.Proofs.Ytpkghpljgjlmjaa.K
open Go.RowKit Go.Proofs.YtpkghpljgjlmjaaW.PrintWords Go.Proofs.YtpkghpljgjlmjaaW.PrintLast Go.Proofs.YtpkghpljgjlmjaaW.PrintMore
attribute [local go_sem] max2_int min2_int max_two min_two max_three min_three max_four min_four   -- for this text's walks alone
set_option linter.unusedVariables false
set_option linter.unusedSimpArgs false

/-! ### kinkeepref04_Product: function 24 -/
mutual
def kinkeepref04_Product.l0 : Nat → List (List Int) → List (List Int) → List (List Int) → Int → Option ((List (List Int)))
  | 0, _, _, _, _ => none
  | k + 1, x0, x1, x5, x6 => if x6 < (x0.length : Int) then (kinkeepref04_Product.l1 k x0 x1 x5 x6 0) else (some x5)
def kinkeepref04_Product.l1 : Nat → List (List Int) → List (List Int) → List (List Int) → Int → Int → Option ((List (List Int)))
  | 0, _, _, _, _, _ => none
  | k + 1, x0, x1, x5, x6, x7 => (kinkeepref04_Cols.f x1).bind fun t181 => (if x7 < t181 then (kinkeepref04_Product.l2 k x0 x1 x5 x6 x7 0) else (kinkeepref04_Product.l0 k x0 x1 x5 (wrap64 (x6 + 1))))
def kinkeepref04_Product.l2 : Nat → List (List Int) → List (List Int) → List (List Int) → Int → Int → Int → Option ((List (List Int)))
  | 0, _, _, _, _, _, _ => none
  | k + 1, x0, x1, x5, x6, x7, x8 => if x8 < (x1.length : Int) then (if 0 ≤ x6 then (if x6 < (x5.length : Int) then (if 0 ≤ x7 then (if x7 < ((rd_L1 x5 x6).length : Int) then (if x6 < (x0.length : Int) then (if 0 ≤ x8 then (if x8 < ((rd_L1 x0 x6).length : Int) then (if x7 < ((rd_L1 x1 x8).length : Int) then ((kinkeepref04_Mul.f k (rd (rd_L1 x0 x6) x8) (rd (rd_L1 x1 x8) x7)).bind fun t189 => (kinkeepref04_Product.l2 k x0 x1 (x5.set (x6 : Int).toNat ((rd_L1 x5 x6).set (x7 : Int).toNat (Go.bits .xor .u8 (rd (rd_L1 x5 x6) x7) t189))) x6 x7 (wrap64 (x8 + 1)))) else (none)) else (none)) else (none)) else (none)) else (none)) else (none)) else (none)) else (none)) else (kinkeepref04_Product.l1 k x0 x1 x5 x6 (wrap64 (x7 + 1)))
end
def kinkeepref04_Product.f (k : Nat) (l0 : List (List Int)) (l1 : List (List Int)) : Option ((List (List Int))) := (kinkeepref04_Cols.f l1).bind fun t177 => ((kinkeepref04_Zero.f k (l0.length : Int) t177).bind fun t178 => (kinkeepref04_Product.l0 k l0 l1 t178 0))
def kinkeepref04_Product.T11 : Bool × List (List Nat × List Nat) := (true, [([], []), ([], []), ([0, 1], [0, 1]), ([2], [2]), ([], []), ([], []), ([], []), ([5, 6], [5, 6]), ([7], [7]), ([], []), ([8, 9], [8, 9]), ([10], [10]), ([], []), ([], []), ([12, 13], [12, 13]), ([14], [14]), ([], []), ([15, 16], [15, 16]), ([17], [17]), ([], []), ([], []), ([19, 20], [19, 20]), ([21], [21]), ([], []), ([22, 23], [22, 23]), ([24], [24]), ([18, 25], [18, 25]), ([11, 26], [11, 26]), ([3, 4, 0, 1, 2, 3, 4, 5, 6, 7, 8, 9, 10, 11, 12, 13, 14, 15, 16, 17, 18, 19, 20, 21, 22, 23, 24, 25, 26, 27], [3, 4]), ([28, 27, 26, 0, 1, 2, 3, 4, 5, 6, 7, 8, 9, 10, 11, 12, 13, 14, 15, 16, 17, 18, 19, 20, 21, 22, 23, 24, 25, 26, 27], [27, 28])])
def kinkeepref04_Product.B11 : List Nat := [0, 0, 3, 7, 0, 0, 0, 96, 224, 0, 992, 2016, 0, 0, 12288, 28672, 0, 126976, 258048, 0, 0, 1572864, 3670016, 0, 16252928, 33030144, 67104768, 134217696, 268435455, 536870911]
theorem kinkeepref04_Product.tab11 : rtab .any (opsOf Try.f24 11) = kinkeepref04_Product.T11 := by kernel_rfl
theorem kinkeepref04_Product.bits11 : waitsOk kinkeepref04_Product.T11.2 kinkeepref04_Product.B11 = true := by kernel_rfl
set_option maxHeartbeats 8000000 in
set_option maxRecDepth 100000 in
theorem kinkeepref04_Product.calls (k : Nat) (A0 : Option Addr) (c0 : Nat) (l0 : List (List Int)) (A1 : Option Addr) (c1 : Nat) (l1 : List (List Int)) (r : List (List Int)) (w : World) (hr0 : Kd.C (Kd.slice 5 (Kd.int .u8)) w A0 l0.length l0) (hc0 : l0.length ≤ c0) (hr1 : Kd.C (Kd.slice 5 (Kd.int .u8)) w A1 l1.length l1) (hc1 : l1.length ≤ c1) (h : kinkeepref04_Product.f k l0 l1 = some r) :
    Calls Try.prog 24 #[.slice A0 l0.length c0, .slice A1 l1.length c1] w fun e w' => ∃ v0_ : Value, e = .returned (v0_) ∧ Kd.S (Kd.slice 5 (Kd.int .u8)) 34 w' w.heap.size (fun _ => True) v0_ r ∧ Below w.heap.size w w' := by
  have HR0 := Aside0.mk hr0
  have HC0 := Aside0.mk hc0
  clear hr0 hc0
  have HR1 := Aside0.mk hr1
  have HC1 := Aside0.mk hc1
  clear hr1 hc1
  have HB := Aside0.mk (Below.refl w.heap.size w)
  have H : ((kinkeepref04_Cols.f l1).bind fun t177 => ((kinkeepref04_Zero.f k (l0.length : Int) t177).bind fun t178 => (kinkeepref04_Product.l0 k l0 l1 t178 0))) = some r := h
  clear h
  replace H := Option.bind_eq_some_iff.mp H
  obtain ⟨t177, A30, H⟩ := H
  replace H : ((kinkeepref04_Zero.f k (l0.length : Int) t177).bind fun t178 => (kinkeepref04_Product.l0 k l0 l1 t178 0)) = some r := H
  have A3 := Aside0.mk A30
  clear A30
  replace H := Option.bind_eq_some_iff.mp H
  obtain ⟨t178, A40, H⟩ := H
  replace H : (kinkeepref04_Product.l0 k l0 l1 t178 0) = some r := H
  have A4 := Aside0.mk A40
  clear A40
  have H' := Aside0.mk H
  clear H
  go_enter Try.func24, Try.ntmps24
  go_wp2_with (first | ((with_reducible refine gate_callee (f := 21) rfl ?_); refine goesL_ (some 12) rfl rfl Try.func21 (by kernel_rfl) rfl #[.slice A1 l1.length c1] rfl (by (try simp only [List.map_toArray, List.map_cons, List.map_nil]); first | done | rfl | (simp only [List.length_drop, List.length_take]; rfl)) ?_; (with_reducible refine (kinkeepref04_Cols.calls _ _ l1 t177 _ ?side1 ?side2 A3.out).mono ?_); (case side1 => repeat (first | exact HR1.out | (with_reducible refine Kd.C_alloc ?_ _) | (with_reducible refine Kd.C_drewN ?_ _) | (with_reducible refine Kd.C_drew ?_))); (case side2 => exact HC1.out); rintro e w' ⟨rfl, ⟨nd, rfl⟩⟩; refine ⟨_, rfl, ?_⟩) | ((with_reducible refine gate_callee (f := 26) rfl ?_); refine goesL_ (some 13) rfl rfl Try.func26 (by kernel_rfl) rfl #[.int .i64 (l0.length : Int), .int .i64 t177] rfl (by (try simp only [List.map_toArray, List.map_cons, List.map_nil]); first | done | rfl | (simp only [List.length_drop, List.length_take]; rfl)) ?_; (with_reducible refine (kinkeepref04_Zero.calls k (l0.length : Int) t177 t178 _ A4.out).mono ?_); rintro e w5 ⟨v179, rfl, ho0, hb⟩; refine ⟨_, rfl, ?_⟩; have n0_ := Aside0.mk (Kd.S_lower ho0 (below_size (by repeat (first | (with_reducible first | exact HB.out | apply below_alloc | apply pw_below_drewN | apply below_drew1) | exact HB.out)))); have n1_ := Aside0.mk (below_step (by repeat (first | (with_reducible first | exact HB.out | apply below_alloc | apply pw_below_drewN | apply below_drew1) | exact HB.out)) hb); clear HB; have HO180 := n0_; have HB := n1_; clear n0_ n1_; (try clear hb); (try clear hb2); (try clear hk); (try clear hi); (try clear ho0)))
  go_loopg [6] k (fun kq v6 w' => ∃ (x5_1 : List (List Int)) (x6_1 : Int), v6 = .int .i64 x6_1 ∧ Aside0 (kinkeepref04_Product.l0 kq l0 l1 x5_1 x6_1 = some r) ∧ Aside0 (kq ≤ k) ∧ Aside0 (Kd.S (Kd.slice 5 (Kd.int .u8)) 34 w' w.heap.size (fun _ => True) v179 x5_1) ∧ Aside0 (Below w.heap.size w w'))
  case atStart => exact ⟨(t178), (0), (by first | rfl | (simp; done) | (simp [*]; done)), H', ⟨Nat.le_refl _⟩, ⟨by (with_reducible repeat (first | apply Kd.S_alloc | apply Kd.S_drewN | apply Kd.S_drew)); exact HO180.out⟩, ⟨by repeat (first | (with_reducible first | exact HB.out | apply below_alloc | apply pw_below_drewN | apply below_drew1) | exact HB.out)⟩⟩
  case round =>
    clear H'; (try clear c1); (try clear c2); (try clear p2)
    obtain ⟨x5_1, x6_1, rfl, HA, HK1, HO_5, HB⟩ := hrel
    cases gk with
    | zero => exact absurd HA.out (by simp [kinkeepref04_Product.l0])
    | succ k1 =>
      have H := HA.out
      clear HA
      simp only [kinkeepref04_Product.l0] at H
      by_cases c6 : x6_1 < (l0.length : Int)
      · rw [if_pos c6] at H
        have c6b0 : decide (x6_1 < (l0.length : Int)) = true := decide_eq_true c6
        clear c6
        have H' := Aside0.mk H
        clear H
        go_wp2
        go_loopg [7] k1 (fun kq v7 w' => ∃ (x5_2 : List (List Int)) (x7_2 : Int), v7 = .int .i64 x7_2 ∧ Aside0 (kinkeepref04_Product.l1 kq l0 l1 x5_2 x6_1 x7_2 = some r) ∧ Aside0 (kq ≤ k1) ∧ Aside0 (Kd.S (Kd.slice 5 (Kd.int .u8)) 34 w' w.heap.size (fun _ => True) v179 x5_2) ∧ Aside0 (Below w.heap.size w w'))
        case atStart => exact ⟨(x5_1), (0), (by first | rfl | (simp; done) | (simp [*]; done)), H', ⟨Nat.le_refl _⟩, ⟨by (with_reducible repeat (first | apply Kd.S_alloc | apply Kd.S_drewN | apply Kd.S_drew)); exact HO_5.out⟩, ⟨by repeat (first | (with_reducible first | exact HB.out | apply below_alloc | apply pw_below_drewN | apply below_drew1) | exact HB.out)⟩⟩
        case round =>
          clear H'; (try clear c1); (try clear c2); (try clear p2); (try clear c6); (try clear c6b0); (try clear p2)
          obtain ⟨x5_2, x7_2, rfl, HA, HK2, HO_5, HB⟩ := hrel
          cases gk with
          | zero => exact absurd HA.out (by simp [kinkeepref04_Product.l1])
          | succ k2 =>
            have H := HA.out
            clear HA
            simp only [kinkeepref04_Product.l1] at H
            replace H := Option.bind_eq_some_iff.mp H
            obtain ⟨t181, A70, H⟩ := H
            replace H : (if x7_2 < t181 then (kinkeepref04_Product.l2 k2 l0 l1 x5_2 x6_1 x7_2 0) else (kinkeepref04_Product.l0 k2 l0 l1 x5_2 (wrap64 (x6_1 + 1)))) = some r := H
            have A7 := Aside0.mk A70
            clear A70
            by_cases c8 : x7_2 < t181
            · rw [if_pos c8] at H
              have c8b0 : decide (x7_2 < t181) = true := decide_eq_true c8
              clear c8
              have H' := Aside0.mk H
              clear H
              go_wp2_with (first | ((with_reducible refine gate_callee (f := 21) rfl ?_); refine goesL_ (some 22) rfl rfl Try.func21 (by kernel_rfl) rfl #[.slice A1 l1.length c1] rfl (by (try simp only [List.map_toArray, List.map_cons, List.map_nil]); first | done | rfl | (simp only [List.length_drop, List.length_take]; rfl)) ?_; (with_reducible refine (kinkeepref04_Cols.calls _ _ l1 t181 _ ?side1 ?side2 A7.out).mono ?_); (case side1 => repeat (first | exact (Kd.C_below HR1.out HB.out) | (with_reducible refine Kd.C_alloc ?_ _) | (with_reducible refine Kd.C_drewN ?_ _) | (with_reducible refine Kd.C_drew ?_))); (case side2 => exact HC1.out); rintro e w' ⟨rfl, ⟨nd, rfl⟩⟩; refine ⟨_, rfl, ?_⟩))
              go_loopg [8] k2 (fun kq v8 w' => ∃ (x5_3 : List (List Int)) (x8_3 : Int), v8 = .int .i64 x8_3 ∧ Aside0 (kinkeepref04_Product.l2 kq l0 l1 x5_3 x6_1 x7_2 x8_3 = some r) ∧ Aside0 (kq ≤ k2) ∧ Aside0 (Kd.S (Kd.slice 5 (Kd.int .u8)) 34 w' w.heap.size (fun _ => True) v179 x5_3) ∧ Aside0 (Below w.heap.size w w'))
              case atStart => exact ⟨(x5_2), (0), (by first | rfl | (simp; done) | (simp [*]; done)), H', ⟨Nat.le_refl _⟩, ⟨by (with_reducible repeat (first | apply Kd.S_alloc | apply Kd.S_drewN | apply Kd.S_drew)); exact HO_5.out⟩, ⟨by repeat (first | (with_reducible first | exact HB.out | apply below_alloc | apply pw_below_drewN | apply below_drew1) | exact HB.out)⟩⟩
              case round =>
                clear H'; (try clear c1); (try clear c2); (try clear p2); (try clear c6); (try clear c6b0); (try clear p6); (try clear c8); (try clear c8b0); (try clear p2)
                obtain ⟨x5_3, x8_3, rfl, HA, HK3, HO_5, HB⟩ := hrel
                cases gk with
                | zero => exact absurd HA.out (by simp [kinkeepref04_Product.l2])
                | succ k3 =>
                  have H := HA.out
                  clear HA
                  simp only [kinkeepref04_Product.l2] at H
                  by_cases c9 : x8_3 < (l1.length : Int)
                  · rw [if_pos c9] at H
                    have c9b0 : decide (x8_3 < (l1.length : Int)) = true := decide_eq_true c9
                    clear c9
                    by_cases c10 : 0 ≤ x6_1
                    · rw [if_pos c10] at H
                      have c10b0 : decide (0 ≤ x6_1) = true := decide_eq_true c10
                      clear c10
                      by_cases c11 : x6_1 < (x5_3.length : Int)
                      · rw [if_pos c11] at H
                        have c11b0 : decide (x6_1 < (x5_3.length : Int)) = true := decide_eq_true c11
                        clear c11
                        by_cases c12 : 0 ≤ x7_2
                        · rw [if_pos c12] at H
                          have c12b0 : decide (0 ≤ x7_2) = true := decide_eq_true c12
                          clear c12
                          by_cases c13 : x7_2 < ((rd_L1 x5_3 x6_1).length : Int)
                          · rw [if_pos c13] at H
                            have c13b0 : decide (x7_2 < ((rd_L1 x5_3 x6_1).length : Int)) = true := decide_eq_true c13
                            clear c13
                            by_cases c14 : x6_1 < (l0.length : Int)
                            · rw [if_pos c14] at H
                              have c14b0 : decide (x6_1 < (l0.length : Int)) = true := decide_eq_true c14
                              clear c14
                              by_cases c15 : 0 ≤ x8_3
                              · rw [if_pos c15] at H
                                have c15b0 : decide (0 ≤ x8_3) = true := decide_eq_true c15
                                clear c15
                                by_cases c16 : x8_3 < ((rd_L1 l0 x6_1).length : Int)
                                · rw [if_pos c16] at H
                                  have c16b0 : decide (x8_3 < ((rd_L1 l0 x6_1).length : Int)) = true := decide_eq_true c16
                                  clear c16
                                  by_cases c17 : x7_2 < ((rd_L1 l1 x8_3).length : Int)
                                  · rw [if_pos c17] at H
                                    have c17b0 : decide (x7_2 < ((rd_L1 l1 x8_3).length : Int)) = true := decide_eq_true c17
                                    clear c17
                                    replace H := Option.bind_eq_some_iff.mp H
                                    obtain ⟨t189, A180, H⟩ := H
                                    replace H : (kinkeepref04_Product.l2 k3 l0 l1 (x5_3.set (x6_1 : Int).toNat ((rd_L1 x5_3 x6_1).set (x7_2 : Int).toNat (Go.bits .xor .u8 (rd (rd_L1 x5_3 x6_1) x7_2) t189))) x6_1 x7_2 (wrap64 (x8_3 + 1))) = some r := H
                                    have A18 := Aside0.mk A180
                                    clear A180
                                    obtain ⟨y190, hy190⟩ : ∃ y_ : List Int, y_ = ((rd_L1 x5_3 x6_1).set (x7_2 : Int).toNat (Go.bits .xor .u8 (rd (rd_L1 x5_3 x6_1) x7_2) t189)) := ⟨_, rfl⟩
                                    replace H : (kinkeepref04_Product.l2 k3 l0 l1 (x5_3.set (x6_1 : Int).toNat y190) x6_1 x7_2 (wrap64 (x8_3 + 1))) = some r := by first | (rw [hy190]; with_reducible exact H) | (have H2_ := (Option.bind_some _ _).symm.trans H; rw [hy190]; with_reducible exact H2_) | (have H2_ := (Option.bind_some _ _).symm.trans H; with_reducible exact H2_) | with_reducible exact H | (rw [hy190]; exact H) | exact H
                                    have Ny190 := Aside0.mk hy190
                                    clear hy190
                                    obtain ⟨y192, hy192⟩ : ∃ y_ : List (List Int), y_ = (x5_3.set (x6_1 : Int).toNat y190) := ⟨_, rfl⟩
                                    replace H : (kinkeepref04_Product.l2 k3 l0 l1 y192 x6_1 x7_2 (wrap64 (x8_3 + 1))) = some r := by first | (rw [hy192]; with_reducible exact H) | (have H2_ := (Option.bind_some _ _).symm.trans H; rw [hy192]; with_reducible exact H2_) | (have H2_ := (Option.bind_some _ _).symm.trans H; with_reducible exact H2_) | with_reducible exact H | (rw [hy192]; exact H) | exact H
                                    have Ny192 := Aside0.mk hy192
                                    clear hy192
                                    have H' := Aside0.mk H
                                    clear H
                                    try go_wp2
                                    have n0_ := Aside0.mk (Kd.S_drew HO_5.out)
                                    have n1_ := Aside0.mk (below_drew1 HB.out)
                                    clear HO_5; clear HB
                                    have HO_5 := n0_
                                    have HB := n1_
                                    clear n0_ n1_
                                    obtain ⟨Ao21, co21, eo21⟩ := Kd.S_slice HO_5.out
                                    (first | subst eo21 | (injection eo21 with f1_ f2_ f3_; have f4_ := f1_.symm; have f5_ := f3_.symm; clear f1_ f2_ f3_; subst f4_; subst f5_))
                                    have p182 : 0 ≤ (x6_1 : Int) := of_decide_eq_true (by first | (with_reducible assumption) | assumption)
                                    have q182 : x6_1 < (x5_3.length : Int) := of_decide_eq_true (by first | (with_reducible assumption) | assumption)
                                    obtain ⟨ad182, A182_0, c182_0, e182, hx182_0, hl182_0, hi182_0⟩ := at_L1 (Kd.S_reads' HO_5.out).2.2 x6_1 p182 q182
                                    cases e182
                                    obtain ⟨ce182, hce182, hMe182, hcc182⟩ := Kd.S_get HO_5.out [] x6_1 p182 (by first | exact q182 | exact of_decide_eq_true (by first | (with_reducible assumption) | assumption) | (have e_ := (Kd.S_reads' HO_5.out).1; omega))
                                    obtain ⟨ve182_0, rfl, ge182_0⟩ := hMe182
                                    have hv182_0 := hcc182 0 _ rfl
                                    rw [Nat.add_zero, show ((Kd.slice 5 (Kd.int .u8))).sz = 1 from rfl, Nat.mul_one] at hv182_0
                                    replace hv182_0 := Option.some.inj (hv182_0.symm.trans hx182_0)
                                    rw [hv182_0] at ge182_0
                                    have HL182_0 := Aside0.mk (show Kd.R (Kd.int .u8) 5 _ _ _ _ (rd_L1 x5_3 x6_1) from ge182_0)
                                    clear hv182_0 ge182_0
                                    have HX182_0 := Aside0.mk hx182_0
                                    clear hcc182 hce182
                                    have HR182_0 := Aside0.mk hi182_0
                                    have HC182_0 := Aside0.mk hl182_0
                                    clear hi182_0 hl182_0
                                    replace p182 := eq_true p182
                                    replace q182 := eq_true q182
                                    have p183 : 0 ≤ (x6_1 : Int) := of_decide_eq_true (by first | (with_reducible assumption) | assumption)
                                    have q183 : x6_1 < (x5_3.length : Int) := of_decide_eq_true (by first | (with_reducible assumption) | assumption)
                                    obtain ⟨ad183, A183_0, c183_0, e183, hx183_0, hl183_0, hi183_0⟩ := at_L1 (Kd.S_reads' HO_5.out).2.2 x6_1 p183 q183
                                    obtain rfl : ad182 = ad183 := (by injection e183)
                                    obtain ⟨ce183, hce183, hMe183, hcc183⟩ := Kd.S_get HO_5.out [] x6_1 p183 (by first | exact q183 | exact of_decide_eq_true (by first | (with_reducible assumption) | assumption) | (have e_ := (Kd.S_reads' HO_5.out).1; omega))
                                    obtain ⟨ve183_0, rfl, ge183_0⟩ := hMe183
                                    have hv183_0 := hcc183 0 _ rfl
                                    rw [Nat.add_zero, show ((Kd.slice 5 (Kd.int .u8))).sz = 1 from rfl, Nat.mul_one] at hv183_0
                                    replace hv183_0 := Option.some.inj (hv183_0.symm.trans hx183_0)
                                    rw [hv183_0] at ge183_0
                                    have HL183_0 := Aside0.mk (show Kd.R (Kd.int .u8) 5 _ _ _ _ (rd_L1 x5_3 x6_1) from ge183_0)
                                    clear hv183_0 ge183_0
                                    have HX183_0 := Aside0.mk hx183_0
                                    clear hcc183 hce183
                                    have HR183_0 := Aside0.mk hi183_0
                                    have HC183_0 := Aside0.mk hl183_0
                                    clear hi183_0 hl183_0
                                    replace p183 := eq_true p183
                                    replace q183 := eq_true q183
                                    have ea_ := Option.some.inj (hx182_0.symm.trans hx183_0)
                                    injection ea_ with ea_ en_ ec_
                                    subst ea_
                                    subst ec_
                                    clear en_
                                    have p184 : 0 ≤ (x7_2 : Int) := of_decide_eq_true (by first | (with_reducible assumption) | assumption)
                                    have q184 : x7_2 < ((rd_L1 x5_3 x6_1).length : Int) := of_decide_eq_true (by first | (with_reducible assumption) | assumption)
                                    obtain ⟨ad184, e184, hx184_0⟩ := Kd.at_int (by repeat (first | (with_reducible exact HR183_0.out) | (with_reducible refine Kd.C_alloc ?_ _) | (with_reducible refine Kd.C_drewN ?_ _) | (with_reducible refine Kd.C_drew ?_) | exact HR183_0.out)) x7_2 p184 q184
                                    cases e184
                                    replace p184 := eq_true p184
                                    replace q184 := eq_true q184
                                    have p185 : 0 ≤ (x6_1 : Int) := of_decide_eq_true (by first | (with_reducible assumption) | assumption)
                                    have q185 : x6_1 < (l0.length : Int) := of_decide_eq_true (by first | (with_reducible assumption) | assumption)
                                    obtain ⟨ad185, A185_0, c185_0, e185, hx185_0, hl185_0, hi185_0⟩ := at_L1 HR0.out x6_1 p185 q185
                                    have hw185_0 := hx185_0
                                    cases e185
                                    replace hx185_0 := (HB.out.cell (World.block_lt_of_cell? w _ hx185_0)).trans hx185_0
                                    have HR185_0 := Aside0.mk hi185_0
                                    have HC185_0 := Aside0.mk hl185_0
                                    clear hi185_0 hl185_0
                                    replace p185 := eq_true p185
                                    replace q185 := eq_true q185
                                    have p186 : 0 ≤ (x8_3 : Int) := of_decide_eq_true (by first | (with_reducible assumption) | assumption)
                                    have q186 : x8_3 < ((rd_L1 l0 x6_1).length : Int) := of_decide_eq_true (by first | (with_reducible assumption) | assumption)
                                    obtain ⟨ad186, e186, hx186_0⟩ := Kd.at_int HR185_0.out x8_3 p186 q186
                                    have hw186_0 := hx186_0
                                    cases e186
                                    replace hx186_0 := (HB.out.cell (World.block_lt_of_cell? w _ hx186_0)).trans hx186_0
                                    replace p186 := eq_true p186
                                    replace q186 := eq_true q186
                                    have p187 : 0 ≤ (x8_3 : Int) := of_decide_eq_true (by first | (with_reducible assumption) | assumption)
                                    have q187 : x8_3 < (l1.length : Int) := of_decide_eq_true (by first | (with_reducible assumption) | assumption)
                                    obtain ⟨ad187, A187_0, c187_0, e187, hx187_0, hl187_0, hi187_0⟩ := at_L1 HR1.out x8_3 p187 q187
                                    have hw187_0 := hx187_0
                                    cases e187
                                    replace hx187_0 := (HB.out.cell (World.block_lt_of_cell? w _ hx187_0)).trans hx187_0
                                    have HR187_0 := Aside0.mk hi187_0
                                    have HC187_0 := Aside0.mk hl187_0
                                    clear hi187_0 hl187_0
                                    replace p187 := eq_true p187
                                    replace q187 := eq_true q187
                                    have p188 : 0 ≤ (x7_2 : Int) := of_decide_eq_true (by first | (with_reducible assumption) | assumption)
                                    have q188 : x7_2 < ((rd_L1 l1 x8_3).length : Int) := of_decide_eq_true (by first | (with_reducible assumption) | assumption)
                                    obtain ⟨ad188, e188, hx188_0⟩ := Kd.at_int HR187_0.out x7_2 p188 q188
                                    have hw188_0 := hx188_0
                                    cases e188
                                    replace hx188_0 := (HB.out.cell (World.block_lt_of_cell? w _ hx188_0)).trans hx188_0
                                    replace p188 := eq_true p188
                                    replace q188 := eq_true q188
                                    refine start_ (n := 30) (S := fun w' => w'.cell? (ad182.add (x6_1).toNat) = some (.slice (some ad184) (rd_L1 x5_3 x6_1).length c182_0) ∧ w'.cell? (ad182.add (x6_1).toNat) = some (.slice (some ad184) (rd_L1 x5_3 x6_1).length c182_0) ∧ w'.cell? (ad184.add (x7_2).toNat) = some (.int .u8 (rd (rd_L1 x5_3 x6_1) x7_2)) ∧ w'.cell? (ad185.add (x6_1).toNat) = some (.slice (some ad186) (rd_L1 l0 x6_1).length c185_0) ∧ w'.cell? (ad186.add (x8_3).toNat) = some (.int .u8 (rd (rd_L1 l0 x6_1) x8_3)) ∧ w'.cell? (ad187.add (x8_3).toNat) = some (.slice (some ad188) (rd_L1 l1 x8_3).length c187_0) ∧ w'.cell? (ad188.add (x7_2).toNat) = some (.int .u8 (rd (rd_L1 l1 x8_3) x7_2))) (ds := [29]) #[false, false, false, false, false, false, false, false, false, false, false, false, false, false, false, false, false, false, false, false, false, false, false, false, false, false, false, false, false, false] (by kernel_rfl) rfl rfl ⟨hx182_0, hx183_0, hx184_0, ((HB.out.cell (World.block_lt_of_cell? w _ hw185_0)).trans hw185_0), ((HB.out.cell (World.block_lt_of_cell? w _ hw186_0)).trans hw186_0), ((HB.out.cell (World.block_lt_of_cell? w _ hw187_0)).trans hw187_0), ((HB.out.cell (World.block_lt_of_cell? w _ hw188_0)).trans hw188_0)⟩ (fun hHeld => ?_); refine with_tabW kinkeepref04_Product.tab11 kinkeepref04_Product.bits11 (fun HT_ HW_ => ?_)
                                    generalize wr.drew = w20 at HO_5 HB HL182_0 HL183_0 HR182_0 HR183_0 HR185_0 HR187_0 HX182_0 HX183_0 hx182_0 hx183_0 hx184_0 hx185_0 hx186_0 hx187_0 hx188_0 hHeld ⊢
                                    refine pure_ (i := 0) (N := some 32) (v := ?_) (a' := ?_) #[true, false, false, false, false, false, false, false, false, false, false, false, false, false, false, false, false, false, false, false, false, false, false, false, false, false, false, false, false, false] rfl rfl (any_of HT_.out (by kernel_rfl)) (fun _ _ _ h => h) (Or.inl ⟨by rfl, ?_⟩) ?_ ?_
                                    rotate_left
                                    · intro w'
                                      go_simp
                                      with_reducible rfl
                                    rotate_left
                                    · simp only [Act.put, List.setIfInBounds_toArray, List.set_cons_zero, List.set_cons_succ, i64_w, i32_w]
                                      rfl
                                    refine pure_ (i := 1) (N := some 33) (v := ?_) (a' := ?_) #[true, true, false, false, false, false, false, false, false, false, false, false, false, false, false, false, false, false, false, false, false, false, false, false, false, false, false, false, false, false] rfl rfl (any_of HT_.out (by kernel_rfl)) (fun _ _ _ h => h) (Or.inl ⟨by rfl, ?_⟩) ?_ ?_
                                    rotate_left
                                    · intro w'
                                      go_simp
                                      with_reducible rfl
                                    rotate_left
                                    · simp only [Act.put, List.setIfInBounds_toArray, List.set_cons_zero, List.set_cons_succ, i64_w, i32_w]
                                      rfl
                                    refine pure_ (i := 2) (N := some 34) (v := ?_) (a' := ?_) #[true, true, true, false, false, false, false, false, false, false, false, false, false, false, false, false, false, false, false, false, false, false, false, false, false, false, false, false, false, false] rfl rfl (any_of HT_.out (by kernel_rfl)) (fun _ _ _ h => h) (Or.inl ⟨by rfl, ?_⟩) ?_ ?_
                                    rotate_left
                                    · intro w'
                                      go_simp
                                      with_reducible rfl
                                    rotate_left
                                    · simp only [Act.put, List.setIfInBounds_toArray, List.set_cons_zero, List.set_cons_succ, i64_w, i32_w]
                                      rfl
                                    refine pure_ (i := 4) (N := some 36) (v := ?_) (a' := ?_) #[true, true, true, false, true, false, false, false, false, false, false, false, false, false, false, false, false, false, false, false, false, false, false, false, false, false, false, false, false, false] rfl rfl (any_of HT_.out (by kernel_rfl)) (fun _ _ _ h => h) (Or.inl ⟨by rfl, ?_⟩) ?_ ?_
                                    rotate_left
                                    · intro w'
                                      go_simp
                                      with_reducible rfl
                                    rotate_left
                                    · simp only [Act.put, List.setIfInBounds_toArray, List.set_cons_zero, List.set_cons_succ, i64_w, i32_w]
                                      rfl
                                    refine pure_ (i := 5) (N := some 37) (v := ?_) (a' := ?_) #[true, true, true, false, true, true, false, false, false, false, false, false, false, false, false, false, false, false, false, false, false, false, false, false, false, false, false, false, false, false] rfl rfl (any_of HT_.out (by kernel_rfl)) (fun _ _ _ h => h) (Or.inl ⟨by rfl, ?_⟩) ?_ ?_
                                    rotate_left
                                    · intro w'
                                      go_simp
                                      with_reducible rfl
                                    rotate_left
                                    · simp only [Act.put, List.setIfInBounds_toArray, List.set_cons_zero, List.set_cons_succ, i64_w, i32_w]
                                      rfl
                                    refine pure_ (i := 6) (N := some 38) (v := ?_) (a' := ?_) #[true, true, true, false, true, true, true, false, false, false, false, false, false, false, false, false, false, false, false, false, false, false, false, false, false, false, false, false, false, false] rfl rfl (any_of HT_.out (by kernel_rfl)) (fun _ _ _ h => h) (Or.inl ⟨by rfl, ?_⟩) ?_ ?_
                                    rotate_left
                                    · intro w'
                                      go_simp
                                      with_reducible rfl
                                    rotate_left
                                    · simp only [Act.put, List.setIfInBounds_toArray, List.set_cons_zero, List.set_cons_succ, i64_w, i32_w]
                                      rfl
                                    refine pure_ (i := 7) (N := some 39) (v := ?_) (a' := ?_) #[true, true, true, false, true, true, true, true, false, false, false, false, false, false, false, false, false, false, false, false, false, false, false, false, false, false, false, false, false, false] rfl rfl (any_of HT_.out (by kernel_rfl)) (fun _ _ _ h => h) (Or.inl ⟨by rfl, ?_⟩) ?_ ?_
                                    rotate_left
                                    · intro w'
                                      go_simp
                                      with_reducible rfl
                                    rotate_left
                                    · simp only [Act.put, List.setIfInBounds_toArray, List.set_cons_zero, List.set_cons_succ, i64_w, i32_w]
                                      rfl
                                    refine pure_ (i := 9) (N := some 41) (v := ?_) (a' := ?_) #[true, true, true, false, true, true, true, true, false, true, false, false, false, false, false, false, false, false, false, false, false, false, false, false, false, false, false, false, false, false] rfl rfl (any_of HT_.out (by kernel_rfl)) (fun _ _ _ h => h) (Or.inl ⟨by rfl, ?_⟩) ?_ ?_
                                    rotate_left
                                    · intro w'
                                      go_simp
                                      with_reducible rfl
                                    rotate_left
                                    · simp only [Act.put, List.setIfInBounds_toArray, List.set_cons_zero, List.set_cons_succ, i64_w, i32_w]
                                      rfl
                                    refine pure_ (i := 12) (N := some 44) (v := ?_) (a' := ?_) #[true, true, true, false, true, true, true, true, false, true, false, false, true, false, false, false, false, false, false, false, false, false, false, false, false, false, false, false, false, false] rfl rfl (any_of HT_.out (by kernel_rfl)) (fun _ _ _ h => h) (Or.inl ⟨by rfl, ?_⟩) ?_ ?_
                                    rotate_left
                                    · intro w'
                                      go_simp
                                      with_reducible rfl
                                    rotate_left
                                    · simp only [Act.put, List.setIfInBounds_toArray, List.set_cons_zero, List.set_cons_succ, i64_w, i32_w]
                                      rfl
                                    refine pure_ (i := 13) (N := some 45) (v := ?_) (a' := ?_) #[true, true, true, false, true, true, true, true, false, true, false, false, true, true, false, false, false, false, false, false, false, false, false, false, false, false, false, false, false, false] rfl rfl (any_of HT_.out (by kernel_rfl)) (fun _ _ _ h => h) (Or.inl ⟨by rfl, ?_⟩) ?_ ?_
                                    rotate_left
                                    · intro w'
                                      go_simp
                                      with_reducible rfl
                                    rotate_left
                                    · simp only [Act.put, List.setIfInBounds_toArray, List.set_cons_zero, List.set_cons_succ, i64_w, i32_w]
                                      rfl
                                    refine pure_ (i := 14) (N := some 46) (v := ?_) (a' := ?_) #[true, true, true, false, true, true, true, true, false, true, false, false, true, true, true, false, false, false, false, false, false, false, false, false, false, false, false, false, false, false] rfl rfl (any_of HT_.out (by kernel_rfl)) (fun _ _ _ h => h) (Or.inl ⟨by rfl, ?_⟩) ?_ ?_
                                    rotate_left
                                    · intro w'
                                      go_simp
                                      with_reducible rfl
                                    rotate_left
                                    · simp only [Act.put, List.setIfInBounds_toArray, List.set_cons_zero, List.set_cons_succ, i64_w, i32_w]
                                      rfl
                                    refine pure_ (i := 16) (N := some 48) (v := ?_) (a' := ?_) #[true, true, true, false, true, true, true, true, false, true, false, false, true, true, true, false, true, false, false, false, false, false, false, false, false, false, false, false, false, false] rfl rfl (any_of HT_.out (by kernel_rfl)) (fun _ _ _ h => h) (Or.inl ⟨by rfl, ?_⟩) ?_ ?_
                                    rotate_left
                                    · intro w'
                                      go_simp
                                      with_reducible rfl
                                    rotate_left
                                    · simp only [Act.put, List.setIfInBounds_toArray, List.set_cons_zero, List.set_cons_succ, i64_w, i32_w]
                                      rfl
                                    refine pure_ (i := 19) (N := some 51) (v := ?_) (a' := ?_) #[true, true, true, false, true, true, true, true, false, true, false, false, true, true, true, false, true, false, false, true, false, false, false, false, false, false, false, false, false, false] rfl rfl (any_of HT_.out (by kernel_rfl)) (fun _ _ _ h => h) (Or.inl ⟨by rfl, ?_⟩) ?_ ?_
                                    rotate_left
                                    · intro w'
                                      go_simp
                                      with_reducible rfl
                                    rotate_left
                                    · simp only [Act.put, List.setIfInBounds_toArray, List.set_cons_zero, List.set_cons_succ, i64_w, i32_w]
                                      rfl
                                    refine pure_ (i := 20) (N := some 52) (v := ?_) (a' := ?_) #[true, true, true, false, true, true, true, true, false, true, false, false, true, true, true, false, true, false, false, true, true, false, false, false, false, false, false, false, false, false] rfl rfl (any_of HT_.out (by kernel_rfl)) (fun _ _ _ h => h) (Or.inl ⟨by rfl, ?_⟩) ?_ ?_
                                    rotate_left
                                    · intro w'
                                      go_simp
                                      with_reducible rfl
                                    rotate_left
                                    · simp only [Act.put, List.setIfInBounds_toArray, List.set_cons_zero, List.set_cons_succ, i64_w, i32_w]
                                      rfl
                                    refine pure_ (i := 21) (N := some 53) (v := ?_) (a' := ?_) #[true, true, true, false, true, true, true, true, false, true, false, false, true, true, true, false, true, false, false, true, true, true, false, false, false, false, false, false, false, false] rfl rfl (any_of HT_.out (by kernel_rfl)) (fun _ _ _ h => h) (Or.inl ⟨by rfl, ?_⟩) ?_ ?_
                                    rotate_left
                                    · intro w'
                                      go_simp
                                      with_reducible rfl
                                    rotate_left
                                    · simp only [Act.put, List.setIfInBounds_toArray, List.set_cons_zero, List.set_cons_succ, i64_w, i32_w]
                                      rfl
                                    refine pure_ (i := 23) (N := some 55) (v := ?_) (a' := ?_) #[true, true, true, false, true, true, true, true, false, true, false, false, true, true, true, false, true, false, false, true, true, true, false, true, false, false, false, false, false, false] rfl rfl (any_of HT_.out (by kernel_rfl)) (fun _ _ _ h => h) (Or.inl ⟨by rfl, ?_⟩) ?_ ?_
                                    rotate_left
                                    · intro w'
                                      go_simp
                                      with_reducible rfl
                                    rotate_left
                                    · simp only [Act.put, List.setIfInBounds_toArray, List.set_cons_zero, List.set_cons_succ, i64_w, i32_w]
                                      rfl
                                    refine take_ (i := 3) (N := some 35) (v := ?_) (a' := ?_) #[true, true, true, true, true, true, true, true, false, true, false, false, true, true, true, false, true, false, false, true, true, true, false, true, false, false, false, false, false, false] rfl rfl (take_ofW HT_.out HW_.out (by kernel_rfl)) (fun _ _ _ h => h) (Or.inl ⟨by rfl, ?_⟩) hHeld ?_ ?_
                                    rotate_left
                                    · rintro w' ⟨s0, s1, s2, s3, s4, s5, s6⟩
                                      go_simp
                                      with_reducible rfl
                                    rotate_left
                                    · simp only [Act.put, List.setIfInBounds_toArray, List.set_cons_zero, List.set_cons_succ, i64_w, i32_w]
                                      rfl
                                    refine take_ (i := 8) (N := some 40) (v := ?_) (a' := ?_) #[true, true, true, true, true, true, true, true, true, true, false, false, true, true, true, false, true, false, false, true, true, true, false, true, false, false, false, false, false, false] rfl rfl (take_ofW HT_.out HW_.out (by kernel_rfl)) (fun _ _ _ h => h) (Or.inl ⟨by rfl, ?_⟩) hHeld ?_ ?_
                                    rotate_left
                                    · rintro w' ⟨s0, s1, s2, s3, s4, s5, s6⟩
                                      go_simp
                                      with_reducible rfl
                                    rotate_left
                                    · simp only [Act.put, List.setIfInBounds_toArray, List.set_cons_zero, List.set_cons_succ, i64_w, i32_w]
                                      rfl
                                    refine pure_ (i := 10) (N := some 42) (v := ?_) (a' := ?_) #[true, true, true, true, true, true, true, true, true, true, true, false, true, true, true, false, true, false, false, true, true, true, false, true, false, false, false, false, false, false] rfl rfl (any_of HT_.out (by kernel_rfl)) (fun _ _ _ h => h) (Or.inl ⟨by rfl, ?_⟩) ?_ ?_
                                    rotate_left
                                    · intro w'
                                      go_simp
                                      with_reducible rfl
                                    rotate_left
                                    · simp only [Act.put, List.setIfInBounds_toArray, List.set_cons_zero, List.set_cons_succ, i64_w, i32_w]
                                      rfl
                                    refine take_ (i := 11) (N := some 43) (v := ?_) (a' := ?_) #[true, true, true, true, true, true, true, true, true, true, true, true, true, true, true, false, true, false, false, true, true, true, false, true, false, false, false, false, false, false] rfl rfl (take_ofW HT_.out HW_.out (by kernel_rfl)) (fun _ _ _ h => h) (Or.inl ⟨by rfl, ?_⟩) hHeld ?_ ?_
                                    rotate_left
                                    · rintro w' ⟨s0, s1, s2, s3, s4, s5, s6⟩
                                      go_simp
                                      with_reducible rfl
                                    rotate_left
                                    · simp only [Act.put, List.setIfInBounds_toArray, List.set_cons_zero, List.set_cons_succ, i64_w, i32_w]
                                      rfl
                                    refine take_ (i := 15) (N := some 47) (v := ?_) (a' := ?_) #[true, true, true, true, true, true, true, true, true, true, true, true, true, true, true, true, true, false, false, true, true, true, false, true, false, false, false, false, false, false] rfl rfl (take_ofW HT_.out HW_.out (by kernel_rfl)) (fun _ _ _ h => h) (Or.inl ⟨by rfl, ?_⟩) hHeld ?_ ?_
                                    rotate_left
                                    · rintro w' ⟨s0, s1, s2, s3, s4, s5, s6⟩
                                      go_simp
                                      with_reducible rfl
                                    rotate_left
                                    · simp only [Act.put, List.setIfInBounds_toArray, List.set_cons_zero, List.set_cons_succ, i64_w, i32_w]
                                      rfl
                                    refine pure_ (i := 17) (N := some 49) (v := ?_) (a' := ?_) #[true, true, true, true, true, true, true, true, true, true, true, true, true, true, true, true, true, true, false, true, true, true, false, true, false, false, false, false, false, false] rfl rfl (any_of HT_.out (by kernel_rfl)) (fun _ _ _ h => h) (Or.inl ⟨by rfl, ?_⟩) ?_ ?_
                                    rotate_left
                                    · intro w'
                                      go_simp
                                      with_reducible rfl
                                    rotate_left
                                    · simp only [Act.put, List.setIfInBounds_toArray, List.set_cons_zero, List.set_cons_succ, i64_w, i32_w]
                                      rfl
                                    refine take_ (i := 18) (N := some 50) (v := ?_) (a' := ?_) #[true, true, true, true, true, true, true, true, true, true, true, true, true, true, true, true, true, true, true, true, true, true, false, true, false, false, false, false, false, false] rfl rfl (take_ofW HT_.out HW_.out (by kernel_rfl)) (fun _ _ _ h => h) (Or.inl ⟨by rfl, ?_⟩) hHeld ?_ ?_
                                    rotate_left
                                    · rintro w' ⟨s0, s1, s2, s3, s4, s5, s6⟩
                                      go_simp
                                      with_reducible rfl
                                    rotate_left
                                    · simp only [Act.put, List.setIfInBounds_toArray, List.set_cons_zero, List.set_cons_succ, i64_w, i32_w]
                                      rfl
                                    refine take_ (i := 22) (N := some 54) (v := ?_) (a' := ?_) #[true, true, true, true, true, true, true, true, true, true, true, true, true, true, true, true, true, true, true, true, true, true, true, true, false, false, false, false, false, false] rfl rfl (take_ofW HT_.out HW_.out (by kernel_rfl)) (fun _ _ _ h => h) (Or.inl ⟨by rfl, ?_⟩) hHeld ?_ ?_
                                    rotate_left
                                    · rintro w' ⟨s0, s1, s2, s3, s4, s5, s6⟩
                                      go_simp
                                      with_reducible rfl
                                    rotate_left
                                    · simp only [Act.put, List.setIfInBounds_toArray, List.set_cons_zero, List.set_cons_succ, i64_w, i32_w]
                                      rfl
                                    refine pure_ (i := 24) (N := some 56) (v := ?_) (a' := ?_) #[true, true, true, true, true, true, true, true, true, true, true, true, true, true, true, true, true, true, true, true, true, true, true, true, true, false, false, false, false, false] rfl rfl (any_of HT_.out (by kernel_rfl)) (fun _ _ _ h => h) (Or.inl ⟨by rfl, ?_⟩) ?_ ?_
                                    rotate_left
                                    · intro w'
                                      go_simp
                                      with_reducible rfl
                                    rotate_left
                                    · simp only [Act.put, List.setIfInBounds_toArray, List.set_cons_zero, List.set_cons_succ, i64_w, i32_w]
                                      rfl
                                    refine take_ (i := 25) (N := some 57) (v := ?_) (a' := ?_) #[true, true, true, true, true, true, true, true, true, true, true, true, true, true, true, true, true, true, true, true, true, true, true, true, true, true, false, false, false, false] rfl rfl (take_ofW HT_.out HW_.out (by kernel_rfl)) (fun _ _ _ h => h) (Or.inl ⟨by rfl, ?_⟩) hHeld ?_ ?_
                                    rotate_left
                                    · rintro w' ⟨s0, s1, s2, s3, s4, s5, s6⟩
                                      go_simp
                                      with_reducible rfl
                                    rotate_left
                                    · simp only [Act.put, List.setIfInBounds_toArray, List.set_cons_zero, List.set_cons_succ, i64_w, i32_w]
                                      rfl
                                    refine one_ (i := 26) (N := some 58) #[true, true, true, true, true, true, true, true, true, true, true, true, true, true, true, true, true, true, true, true, true, true, true, true, true, true, true, false, false, false] rfl rfl (one_of HT_.out (by kernel_rfl)) (by decide) (fun K hK => ?_)
                                    refine goes_ Try.func35 (by kernel_rfl) rfl #[.int .u8 (rd (rd_L1 l0 x6_1) x8_3), .int .u8 (rd (rd_L1 l1 x8_3) x7_2)] (by rfl) rfl rfl (by (try simp only [List.map_toArray, List.map_cons, List.map_nil]); first | done | rfl | (simp only [List.length_drop, List.length_take]; rfl)) ?_
                                    with_reducible refine (kinkeepref04_Mul.calls k3 (rd (rd_L1 l0 x6_1) x8_3) (rd (rd_L1 l1 x8_3) x7_2) t189 _ A18.out).mono ?_
                                    rintro e w' ⟨rfl, ⟨nd, rfl⟩⟩
                                    refine ⟨_, rfl, ?_⟩
                                    have p19 : 0 ≤ (x7_2 : Int) := of_decide_eq_true (by first | (with_reducible assumption) | assumption)
                                    have q19 : (x7_2 : Int) < (((rd_L1 x5_3 x6_1).length : Int) : Int) := of_decide_eq_true (by first | (with_reducible assumption) | assumption)
                                    obtain ⟨go19, co19, eo19, gb19, gl19, cl19, HG19⟩ := Kd.R_form HL182_0.out (by omega)
                                    (first | cases eo19 | (injection eo19 with ea_ en_ ec_; (first | subst ea_ | (injection ea_ with ea_; subst ea_)); subst ec_; clear en_))
                                    have GB19 := Aside0.mk gb19
                                    have GG19 := Aside0.mk HG19
                                    clear gb19 gl19 HG19
                                    (first | simp only [add_plain] at hx184_0 | skip)
                                    obtain ⟨hx19_0, hf19_0⟩ := Kd.R_celln 0 HL182_0.out (x7_2 : Int) p19 q19
                                    replace p19 := eq_true p19
                                    replace q19 := eq_true q19
                                    have hq22 : (x6_1 : Int) < (x5_3.length : Int) := (by have h_ : (x6_1 : Int) < ((x5_3.length : Int) : Int) := of_decide_eq_true (by first | (with_reducible assumption) | assumption); first | exact h_ | (have e_ := (Kd.S_reads' HO_5.out).1; omega) | simpa only [List.length_set, List.length_set] using h_)
                                    obtain ⟨oki22, ce22, hcl22, hM22, hcc22, hok22, hbk22⟩ := Kd.S_borrow HO_5.out [] (x6_1 : Int) (of_decide_eq_true (by first | (with_reducible assumption) | assumption)) hq22
                                    obtain ⟨ve22_0, rfl, ge22_0⟩ := hM22
                                    have hv22 := hcc22 0 _ rfl
                                    rw [Nat.add_zero, show ((Kd.slice 5 (Kd.int .u8))).sz = 1 from rfl, Nat.mul_one] at hv22
                                    replace hv22 := Option.some.inj (hv22.symm.trans HX182_0.out)
                                    subst hv22
                                    clear hcc22 hcl22
                                    replace ge22_0 := (show Kd.R (Kd.int .u8) 5 _ _ _ _ (rd_L1 x5_3 x6_1) from ge22_0)
                                    have HP22 := Kd.R_putg ge22_0 (x7_2 : Int) (Go.bits .xor .u8 (rd (rd_L1 x5_3 x6_1) x7_2) t189)
                                    rw [← Ny190.out] at HP22
                                    have HS22 := hbk22 HP22.2 (fun k_ e_ => by injection e_ with e_; subst e_; exact ge22_0.1 _ rfl) (x' := y190) (Kd.M_row HP22.1)
                                    rw [← Ny192.out] at HS22
                                    have HQ22 := Aside0.mk HS22
                                    clear HP22 HS22 hbk22 hok22
                                    refine hK.out _ _ ⟨hHeld.1, hHeld.2.1, hHeld.2.2.1, ((HB.out.cell (World.block_lt_of_cell? w _ hw185_0)).trans hw185_0), ((HB.out.cell (World.block_lt_of_cell? w _ hw186_0)).trans hw186_0), ((HB.out.cell (World.block_lt_of_cell? w _ hw187_0)).trans hw187_0), ((HB.out.cell (World.block_lt_of_cell? w _ hw188_0)).trans hw188_0)⟩ (fun hHeld => ?_)
                                    clear hK K
                                    refine norm_ (a' := ?_) ?_ ?_
                                    rotate_left
                                    · show Act.put _ (some 58) _ = _
                                      simp only [Act.put, List.setIfInBounds_toArray, List.set_cons_zero, List.set_cons_succ, i64_w, i32_w]
                                      rfl
                                    refine pure_ (i := 27) (N := some 59) (v := ?_) (a' := ?_) #[true, true, true, true, true, true, true, true, true, true, true, true, true, true, true, true, true, true, true, true, true, true, true, true, true, true, true, true, false, false] rfl rfl (any_of HT_.out (by kernel_rfl)) (fun _ _ _ h => h) (Or.inl ⟨by rfl, ?_⟩) ?_ ?_
                                    rotate_left
                                    · intro w'
                                      go_simp
                                      with_reducible rfl
                                    rotate_left
                                    · simp only [Act.put, List.setIfInBounds_toArray, List.set_cons_zero, List.set_cons_succ, i64_w, i32_w]
                                      rfl
                                    refine pure_ (i := 28) (N := some 60) (v := ?_) (a' := ?_) #[true, true, true, true, true, true, true, true, true, true, true, true, true, true, true, true, true, true, true, true, true, true, true, true, true, true, true, true, true, false] rfl rfl (any_of HT_.out (by kernel_rfl)) (fun _ _ _ h => h) (Or.inl ⟨by rfl, ?_⟩) ?_ ?_
                                    rotate_left
                                    · intro w'
                                      go_simp
                                      with_reducible rfl
                                    rotate_left
                                    · simp only [Act.put, List.setIfInBounds_toArray, List.set_cons_zero, List.set_cons_succ, i64_w, i32_w]
                                      rfl
                                    refine last_ (i := 29) (N := none) #[true, true, true, true, true, true, true, true, true, true, true, true, true, true, true, true, true, true, true, true, true, true, true, true, true, true, true, true, true, true] rfl rfl (one_of HT_.out (by kernel_rfl)) (by decide) (fun K hK => ?_)
                                    refine skip_ (w1 := ?_) (by rfl) rfl ?_ ?_
                                    rotate_left
                                    · go_simp
                                      rfl
                                    refine hK.out _ _ ?_
                                    clear hK K
                                    refine done_ (done_of HT_.out (by kernel_rfl)) ?_
                                    try go_wp2
                                    go_roundg k3
                                    case measure => have := HK1.out; have := HK2.out; have := HK3.out; omega
                                    case rel => exact ⟨(y192), (wrap64 (x8_3 + 1)), (by first | rfl | (simp; done) | (simp [*]; done)), H', ⟨by have := HK1.out; have := HK2.out; have := HK3.out; omega⟩, ⟨by (with_reducible repeat (first | apply Kd.S_alloc | apply Kd.S_drewN | apply Kd.S_drew)); exact HQ22.out⟩, ⟨by repeat (first | (with_reducible first | exact HB.out | apply below_alloc | apply pw_below_drewN | apply below_drew1 | refine below_set ?_ GB19.out) | exact HB.out)⟩⟩
                                  · rw [if_neg c17] at H
                                    exact absurd H (by simp)
                                · rw [if_neg c16] at H
                                  exact absurd H (by simp)
                              · rw [if_neg c15] at H
                                exact absurd H (by simp)
                            · rw [if_neg c14] at H
                              exact absurd H (by simp)
                          · rw [if_neg c13] at H
                            exact absurd H (by simp)
                        · rw [if_neg c12] at H
                          exact absurd H (by simp)
                      · rw [if_neg c11] at H
                        exact absurd H (by simp)
                    · rw [if_neg c10] at H
                      exact absurd H (by simp)
                  · rw [if_neg c9] at H
                    have c9b0 : decide (x8_3 < (l1.length : Int)) = false := decide_eq_false c9
                    clear c9
                    have H' := Aside0.mk H
                    clear H
                    go_wp2
                    go_roundg k3
                    case measure => have := HK1.out; have := HK2.out; have := HK3.out; omega
                    case rel => exact ⟨(x5_3), (wrap64 (x7_2 + 1)), (by first | rfl | (simp; done) | (simp [*]; done)), H', ⟨by have := HK1.out; have := HK2.out; have := HK3.out; omega⟩, ⟨by (with_reducible repeat (first | apply Kd.S_alloc | apply Kd.S_drewN | apply Kd.S_drew)); exact HO_5.out⟩, ⟨by repeat (first | (with_reducible first | exact HB.out | apply below_alloc | apply pw_below_drewN | apply below_drew1) | exact HB.out)⟩⟩
            · rw [if_neg c8] at H
              have c8b0 : decide (x7_2 < t181) = false := decide_eq_false c8
              clear c8
              have H' := Aside0.mk H
              clear H
              go_wp2_with (first | ((with_reducible refine gate_callee (f := 21) rfl ?_); refine goesL_ (some 22) rfl rfl Try.func21 (by kernel_rfl) rfl #[.slice A1 l1.length c1] rfl (by (try simp only [List.map_toArray, List.map_cons, List.map_nil]); first | done | rfl | (simp only [List.length_drop, List.length_take]; rfl)) ?_; (with_reducible refine (kinkeepref04_Cols.calls _ _ l1 t181 _ ?side1 ?side2 A7.out).mono ?_); (case side1 => repeat (first | exact (Kd.C_below HR1.out HB.out) | (with_reducible refine Kd.C_alloc ?_ _) | (with_reducible refine Kd.C_drewN ?_ _) | (with_reducible refine Kd.C_drew ?_))); (case side2 => exact HC1.out); rintro e w' ⟨rfl, ⟨nd, rfl⟩⟩; refine ⟨_, rfl, ?_⟩))
              go_roundg k2
              case measure => have := HK1.out; have := HK2.out; omega
              case rel => exact ⟨(x5_2), (wrap64 (x6_1 + 1)), (by first | rfl | (simp; done) | (simp [*]; done)), H', ⟨by have := HK1.out; have := HK2.out; omega⟩, ⟨by (with_reducible repeat (first | apply Kd.S_alloc | apply Kd.S_drewN | apply Kd.S_drew)); exact HO_5.out⟩, ⟨by repeat (first | (with_reducible first | exact HB.out | apply below_alloc | apply pw_below_drewN | apply below_drew1) | exact HB.out)⟩⟩
      · rw [if_neg c6] at H
        have c6b0 : decide (x6_1 < (l0.length : Int)) = false := decide_eq_false c6
        clear c6
        obtain rfl := Option.some.inj H
        go_wp2
        go_ret
        exact ⟨_, by first | rfl | (simp [errW_none, errW_some] <;> rfl) | (simp [*, errW_none, errW_some] <;> rfl), by (with_reducible repeat (first | apply Kd.S_alloc | apply Kd.S_drewN | apply Kd.S_drew)); exact HO_5.out, by repeat (first | (with_reducible first | exact HB.out | apply below_alloc | apply pw_below_drewN | apply below_drew1) | exact HB.out)⟩
end Go.Proofs.Ytpkghpljgjlmjaa.K
-- Lines of this claim, written by the session's own program kprint.py (it runs print.py).
namespace Go.Proofs.Ytpkghpljgjlmjaa.K
open Go.RowKit Go.Proofs.YtpkghpljgjlmjaaW.PrintWords Go.Proofs.YtpkghpljgjlmjaaW.PrintLast Go.Proofs.YtpkghpljgjlmjaaW.PrintMore
attribute [local go_sem] max2_int min2_int max_two min_two max_three min_three max_four min_four   -- for this text's walks alone
set_option linter.unusedVariables false
set_option linter.unusedSimpArgs false

/-! ### matrix_square: function 67 -/
def matrix_square.f (l0 : List (List Int)) : Option (Bool) := (matrix_Valid.f l0).bind fun t101 => (if t101 = true then ((matrix_columns.f l0).bind fun t102 => (some (t102 == (l0.length : Int)))) else (some false))
set_option maxHeartbeats 8000000 in
set_option maxRecDepth 100000 in
theorem matrix_square.calls (A0 : Option Addr) (c0 : Nat) (l0 : List (List Int)) (r : Bool) (w : World) (hr0 : Kd.C (Kd.slice 5 (Kd.int .u8)) w A0 l0.length l0) (hc0 : l0.length ≤ c0) (h : matrix_square.f l0 = some r) :
    Calls Try.prog 67 #[.slice A0 l0.length c0] w fun e w' => e = .returned (.bool r) ∧ Below w.heap.size w w' := by
  have HR0 := Aside0.mk hr0
  have HC0 := Aside0.mk hc0
  clear hr0 hc0
  have HB := Aside0.mk (Below.refl w.heap.size w)
  have H : ((matrix_Valid.f l0).bind fun t101 => (if t101 = true then ((matrix_columns.f l0).bind fun t102 => (some (t102 == (l0.length : Int)))) else (some false))) = some r := h
  clear h
  replace H := Option.bind_eq_some_iff.mp H
  obtain ⟨t101, A20, H⟩ := H
  replace H : (if t101 = true then ((matrix_columns.f l0).bind fun t102 => (some (t102 == (l0.length : Int)))) else (some false)) = some r := H
  have A2 := Aside0.mk A20
  clear A20
  by_cases c3 : t101 = true
  · subst c3
    have H1 : ((matrix_columns.f l0).bind fun t102 => (some (t102 == (l0.length : Int)))) = some r := by rw [if_pos rfl] at H; exact H
    clear H
    have H := H1
    clear H1
    replace H := Option.bind_eq_some_iff.mp H
    obtain ⟨t102, A40, H⟩ := H
    replace H : (some (t102 == (l0.length : Int))) = some r := H
    have A4 := Aside0.mk A40
    clear A40
    obtain rfl := Option.some.inj H
    go_enter Try.func67, Try.ntmps67
    go_wp2_with (first | ((with_reducible refine gate_callee (f := 17) rfl ?_); refine goesL_ (some 4) rfl rfl Try.func17 (by kernel_rfl) rfl #[.slice A0 l0.length c0] rfl (by (try simp only [List.map_toArray, List.map_cons, List.map_nil]); first | done | rfl | (simp only [List.length_drop, List.length_take]; rfl)) ?_; (with_reducible refine (matrix_Valid.calls _ _ l0 true _ ?side1 ?side2 A2.out).mono ?_); (case side1 => repeat (first | exact HR0.out | (with_reducible refine Kd.C_alloc ?_ _) | (with_reducible refine Kd.C_drewN ?_ _) | (with_reducible refine Kd.C_drew ?_))); (case side2 => exact HC0.out); rintro e w5 ⟨rfl, hb⟩; refine ⟨_, rfl, ?_⟩; have n0_ := Aside0.mk (below_step (by repeat (first | (with_reducible first | exact HB.out | apply below_alloc | apply pw_below_drewN | apply below_drew1) | exact HB.out)) hb); clear HB; have HB := n0_; clear n0_; (try clear hb); (try clear hb2); (try clear hk); (try clear hi)) | (go_at_call 56; (with_reducible refine (matrix_columns.calls _ _ l0 t102 _ ?side1 ?side2 A4.out).mono ?_); (case side1 => repeat (first | exact (Kd.C_below HR0.out HB.out) | (with_reducible refine Kd.C_alloc ?_ _) | (with_reducible refine Kd.C_drewN ?_ _) | (with_reducible refine Kd.C_drew ?_))); (case side2 => exact HC0.out); rintro e w' ⟨rfl, ⟨nd, rfl⟩⟩))
    go_ret
    exact ⟨by first | rfl | (simp [errW_none, errW_some] <;> rfl) | (simp [*, errW_none, errW_some] <;> rfl), by repeat (first | (with_reducible first | exact HB.out | apply below_alloc | apply pw_below_drewN | apply below_drew1) | exact HB.out)⟩
  · replace c3 := Bool.eq_false_iff.mpr c3
    subst c3
    have H1 : (some false) = some r := by rw [if_neg (show ¬ (false = true) by decide)] at H; exact H
    clear H
    have H := H1
    clear H1
    obtain rfl := Option.some.inj H
    go_enter Try.func67, Try.ntmps67
    go_wp2_with (first | ((with_reducible refine gate_callee (f := 17) rfl ?_); refine goesL_ (some 4) rfl rfl Try.func17 (by kernel_rfl) rfl #[.slice A0 l0.length c0] rfl (by (try simp only [List.map_toArray, List.map_cons, List.map_nil]); first | done | rfl | (simp only [List.length_drop, List.length_take]; rfl)) ?_; (with_reducible refine (matrix_Valid.calls _ _ l0 false _ ?side1 ?side2 A2.out).mono ?_); (case side1 => repeat (first | exact HR0.out | (with_reducible refine Kd.C_alloc ?_ _) | (with_reducible refine Kd.C_drewN ?_ _) | (with_reducible refine Kd.C_drew ?_))); (case side2 => exact HC0.out); rintro e w6 ⟨rfl, hb⟩; refine ⟨_, rfl, ?_⟩; have n0_ := Aside0.mk (below_step (by repeat (first | (with_reducible first | exact HB.out | apply below_alloc | apply pw_below_drewN | apply below_drew1) | exact HB.out)) hb); clear HB; have HB := n0_; clear n0_; (try clear hb); (try clear hb2); (try clear hk); (try clear hi)))
    go_ret
    exact ⟨by first | rfl | (simp [errW_none, errW_some] <;> rfl) | (simp [*, errW_none, errW_some] <;> rfl), by repeat (first | (with_reducible first | exact HB.out | apply below_alloc | apply pw_below_drewN | apply below_drew1) | exact HB.out)⟩
end Go.Proofs.Ytpkghpljgjlmjaa.K
/- slices.Grow of the nil slice: its walk. -/
namespace Go.Proofs.Ytpkghpljgjlmjaa.K
open Go.RowKit Go.Proofs.YtpkghpljgjlmjaaW.PrintWords Go.Proofs.YtpkghpljgjlmjaaW.PrintLast Go.Proofs.YtpkghpljgjlmjaaW.PrintMore
set_option linter.unusedVariables false
set_option linter.unusedSimpArgs false
def slices_Grow_byte_byte.f (l0 : List Int) (a1 : Int) : Option (List Int) := if l0 = [] ∧ 0 ≤ a1 ∧ a1 ≤ 1000000 then some [] else none
set_option maxRecDepth 100000 in
set_option maxHeartbeats 2000000 in
theorem grow_calls (n : Nat) (w : World) (hn : n ≤ 1000000) : Calls Try.prog 95 #[.slice none 0 0, .int .i64 (n : Int)] w fun e w' => ∃ v0_ : Value, e = .returned v0_ ∧ Kd.R (Kd.int .u8) 5 w' w.heap.size (fun _ => True) v0_ [] ∧ Below w.heap.size w w' := by
  by_cases h0 : n = 0
  · subst h0
    go_enter Try.func95, Try.ntmps95
    go_wp2
    go_ret
    exact ⟨_, rfl, Kd.R_nil _ _ _ _ _, Below.refl _ _⟩
  · obtain ⟨i0, hi0, hzz⟩ := Option.map_eq_some_iff.1 info5
    simp only [Prod.mk.injEq] at hzz
    obtain ⟨hz0, hz1, hz2⟩ := hzz
    have h1 : ¬ ((n : Int) < 0) := by omega
    have h3 : wrap64 (n : Int) = (n : Int) := by unfold wrap64; omega
    have h4 : (n : Int) > 0 := by omega
    have hold : (Builtin.firstCells i0.size 0 (.slice none 0 0)).run Try.prog w.drew = .ok #[] w.drew := run_firstCells_none w.drew i0.size 0 0 0
    obtain ⟨G, hG⟩ : ∃ G, G = grownCap w (0 + n) 0 5 := ⟨_, rfl⟩
    have hrz : ∀ ty, (Builtin.append_ #[34, 3] ty #[.slice none 0 0, .int .i64 (n : Int)]).run Try.prog w =
        .ok (.slice (some ⟨w.heap.size, 0, none⟩) n G) (w.drew.alloc (.cells (#[] ++ Builtin.zeroCells (Value.int .u8 0).cells n ++ Builtin.zeroCells (Value.int .u8 0).cells (G - n)) 5)) := fun ty => by
      have h := Lib.run_append_grow_zeros w 34 3 ty 5 i0 (.int .u8 0) .i64 .i64 Try.underlying34 Try.underlying3 hi0 hz0 none 0 0 [] hold n (by omega) (by omega) (by omega) (by omega) (by rw [hz2]; omega) (growslice_fits (by omega) (by rw [hz2]; omega))
      rw [← hG, Nat.zero_add] at h
      exact h
    have hGn : n ≤ G := by rw [hG]; have := grownCap_ge w (0 + n) 0 5; omega
    have hG63 : G ≤ 9223372036854775807 := by
      have := grownCap_le_maxLen w (0 + n) 0 5 (by unfold maxLen; omega)
      rw [← hG] at this
      exact this
    have HG := Aside0.mk hG
    have HGN := Aside0.mk hGn
    have HG63 := Aside0.mk hG63
    clear hG hGn hG63 hold hi0 hz0 hz1 hz2
    go_enter Try.func95, Try.ntmps95
    go_wp2_with (at_builtin; refine Lib.wpList_append_run _ rfl _ _ _ _ rfl _ _ rfl rfl _ _ (hrz _) ?_)
    all_goals go_ret
    refine ⟨_, rfl, ⟨fun k hk => trivial, [], ⟨by simp, .inr ⟨w.heap.size, G, Builtin.zeroCells #[Value.int IntKind.u8 0] n ++ Builtin.zeroCells #[Value.int IntKind.u8 0] (G - n), rfl, Nat.le_refl _, ?_, Nat.zero_le _, HG63.out, ?_, by simp⟩⟩, Reps.none _ _⟩, below_drew (Below.alloc (Below.refl _ _) (Nat.le_refl _) _)⟩
    · show (w.heap.push _)[w.heap.size]? = _
      exact Array.getElem?_push_size
    · have := HGN.out
      rw [Array.size_append, size_zeroCells, size_zeroCells]
      show n * 1 + (G - n) * 1 = G * 1
      omega
theorem slices_Grow_byte_byte.calls (A0 : Option Addr) (c0 : Nat) (l0 : List Int) (a1 : Int) (r : List Int) (w : World) (hr0 : Kd.C (Kd.int .u8) w A0 l0.length l0) (hc0 : l0.length ≤ c0) (hz : A0 = none ∧ c0 = 0) (h : slices_Grow_byte_byte.f l0 a1 = some r) :
    Calls Try.prog 95 #[.slice A0 l0.length c0, .int .i64 a1] w fun e w' => ∃ v0_ : Value, e = .returned v0_ ∧ Kd.R (Kd.int .u8) 5 w' w.heap.size (fun _ => True) v0_ r ∧ Below w.heap.size w w' := by
  unfold slices_Grow_byte_byte.f at h
  split at h
  · rename_i hc
    obtain ⟨rfl, h1, h2⟩ := hc
    obtain ⟨n, rfl⟩ := Int.eq_ofNat_of_zero_le h1
    obtain rfl := Option.some.inj h
    obtain ⟨rfl, rfl⟩ := hz
    exact grow_calls n w (by omega)
  · cases h
end Go.Proofs.Ytpkghpljgjlmjaa.K
/- slices.Concat of byte slices: its walk (the print of all but its panic, which is not reached). -/
namespace Go.Proofs.Ytpkghpljgjlmjaa.K
open Go.RowKit Go.Proofs.YtpkghpljgjlmjaaW.PrintWords Go.Proofs.YtpkghpljgjlmjaaW.PrintLast Go.Proofs.YtpkghpljgjlmjaaW.PrintMore
attribute [local go_sem] max2_int min2_int max_two min_two max_three min_three max_four min_four   -- for this text's walks alone
set_option linter.unusedVariables false
set_option linter.unusedSimpArgs false

/-! ### slices_Concat_byte_byte: function 74 -/
mutual
def slices_Concat_byte_byte.l0 : Nat → List (List Int) → Int → List (List Int) → Int → Int → Option (List Int)
  | 0, _, _, _, _, _ => none
  | k + 1, x0, x3, x9, x10, x11 => if x11 < x10 then (if 0 ≤ x11 then (if x11 < (x9.length : Int) then (if (wrap64 (x3 + ((rd_L1 x9 x11).length : Int))) < 0 then none else (slices_Concat_byte_byte.l0 k x0 (wrap64 (x3 + ((rd_L1 x9 x11).length : Int))) x9 x10 (wrap64 (x11 + 1)))) else (none)) else (none)) else ((slices_Grow_byte_byte.f ([] : List Int) x3).bind fun t102 => (slices_Concat_byte_byte.l1 k t102 x0 (x0.length : Int) 0))
def slices_Concat_byte_byte.l1 : Nat → List Int → List (List Int) → Int → Int → Option (List Int)
  | 0, _, _, _, _ => none
  | k + 1, x6, x25, x26, x27 => if x27 < x26 then (if 0 ≤ x27 then (if x27 < (x25.length : Int) then (if x6.length + (rd_L1 x25 x27).length < 140737488355328 then (slices_Concat_byte_byte.l1 k (x6 ++ (rd_L1 x25 x27)) x25 x26 (wrap64 (x27 + 1))) else (none)) else (none)) else (none)) else (some x6)
end
def slices_Concat_byte_byte.f (k : Nat) (l0 : List (List Int)) : Option (List Int) := slices_Concat_byte_byte.l0 k l0 0 l0 (l0.length : Int) 0
set_option maxHeartbeats 8000000 in
set_option maxRecDepth 100000 in
theorem slices_Concat_byte_byte.calls (k : Nat) (A0 : Option Addr) (c0 : Nat) (l0 : List (List Int)) (r : List Int) (w : World) (hr0 : Kd.C (Kd.slice 5 (Kd.int .u8)) w A0 l0.length l0) (hc0 : l0.length ≤ c0) (h : slices_Concat_byte_byte.f k l0 = some r) :
    Calls Try.prog 74 #[.slice A0 l0.length c0] w fun e w' => ∃ v0_ : Value, e = .returned (v0_) ∧ Kd.R (Kd.int .u8) 5 w' w.heap.size (fun _ => True) v0_ r ∧ Below w.heap.size w w' := by
  have HR0 := Aside0.mk hr0
  have HC0 := Aside0.mk hc0
  clear hr0 hc0
  have HB := Aside0.mk (Below.refl w.heap.size w)
  have H : (slices_Concat_byte_byte.l0 k l0 0 l0 (l0.length : Int) 0) = some r := h
  clear h
  have H' := Aside0.mk H
  clear H
  go_enter Try.func74, Try.ntmps74
  go_wp2
  go_loopg [3, 11] k (fun kq v3 v11 w' => ∃ (x3_1 : Int) (x11_1 : Int), v3 = .int .i64 x3_1 ∧ v11 = .int .i64 x11_1 ∧ Aside0 (slices_Concat_byte_byte.l0 kq l0 x3_1 l0 (l0.length : Int) x11_1 = some r) ∧ Aside0 (kq ≤ k) ∧ Aside0 (Below w.heap.size w w'))
  case atStart => exact ⟨(0), (0), (by first | rfl | (simp; done) | (simp [*]; done)), (by first | rfl | (simp; done) | (simp [*]; done)), H', ⟨Nat.le_refl _⟩, ⟨by repeat (first | (with_reducible first | exact HB.out | apply below_alloc | apply pw_below_drewN | apply below_drew1) | exact HB.out)⟩⟩
  case round =>
    clear H'
    obtain ⟨x3_1, x11_1, rfl, rfl, HA, HK1, HB⟩ := hrel
    cases gk with
    | zero => exact absurd HA.out (by simp [slices_Concat_byte_byte.l0])
    | succ k1 =>
      have H := HA.out
      clear HA
      simp only [slices_Concat_byte_byte.l0] at H
      by_cases c2 : x11_1 < (l0.length : Int)
      · rw [if_pos c2] at H
        have c2b0 : decide (x11_1 < (l0.length : Int)) = true := decide_eq_true c2
        clear c2
        by_cases c3 : 0 ≤ x11_1
        · rw [if_pos c3] at H
          have c3b0 : decide (0 ≤ x11_1) = true := decide_eq_true c3
          clear c3
          by_cases c4 : x11_1 < (l0.length : Int)
          · rw [if_pos c4] at H
            have c4b0 : decide (x11_1 < (l0.length : Int)) = true := decide_eq_true c4
            clear c4
            by_cases c5 : (wrap64 (x3_1 + ((rd_L1 l0 x11_1).length : Int))) < 0
            · rw [if_pos c5] at H
              exact absurd H (by simp)
            · rw [if_neg c5] at H
              have c5b0 : decide ((wrap64 (x3_1 + ((rd_L1 l0 x11_1).length : Int))) < 0) = false := decide_eq_false c5
              clear c5
              have H' := Aside0.mk H
              clear H
              have p101 : 0 ≤ (x11_1 : Int) := of_decide_eq_true (by first | (with_reducible assumption) | assumption)
              have q101 : x11_1 < (l0.length : Int) := of_decide_eq_true (by first | (with_reducible assumption) | assumption)
              obtain ⟨ad101, A101_0, c101_0, e101, hx101_0, hl101_0, hi101_0⟩ := at_L1 HR0.out x11_1 p101 q101
              cases e101
              replace hx101_0 := (HB.out.cell (World.block_lt_of_cell? w _ hx101_0)).trans hx101_0
              have HR101_0 := Aside0.mk hi101_0
              have HC101_0 := Aside0.mk hl101_0
              clear hi101_0 hl101_0
              replace p101 := eq_true p101
              replace q101 := eq_true q101
              go_wp2
              go_roundg k1
              case measure => have := HK1.out; omega
              case rel => exact ⟨(wrap64 (x3_1 + ((rd_L1 l0 x11_1).length : Int))), (wrap64 (x11_1 + 1)), (by first | rfl | (simp; done) | (simp [*]; done)), (by first | rfl | (simp; done) | (simp [*]; done)), H', ⟨by have := HK1.out; omega⟩, ⟨by repeat (first | (with_reducible first | exact HB.out | apply below_alloc | apply pw_below_drewN | apply below_drew1) | exact HB.out)⟩⟩
          · rw [if_neg c4] at H
            exact absurd H (by simp)
        · rw [if_neg c3] at H
          exact absurd H (by simp)
      · rw [if_neg c2] at H
        have c2b0 : decide (x11_1 < (l0.length : Int)) = false := decide_eq_false c2
        clear c2
        replace H := Option.bind_eq_some_iff.mp H
        obtain ⟨t102, A60, H⟩ := H
        replace H : (slices_Concat_byte_byte.l1 k1 t102 l0 (l0.length : Int) 0) = some r := H
        have A6 := Aside0.mk A60
        clear A60
        have H' := Aside0.mk H
        clear H
        go_wp2_with (first | ((with_reducible refine gate_callee (f := 95) rfl ?_); refine goesL_ (some 24) rfl rfl Try.func95 (by kernel_rfl) rfl #[.slice none 0 0, .int .i64 x3_1] rfl (by (try simp only [List.map_toArray, List.map_cons, List.map_nil]); first | done | rfl | (simp only [List.length_drop, List.length_take]; rfl)) ?_; (refine (slices_Grow_byte_byte.calls _ _ ([] : List Int) x3_1 t102 _ ?side1 ?side2 ⟨rfl, rfl⟩ A6.out).mono ?_); (case side1 => exact Kd.C_nil _ _); (case side2 => exact Nat.le_refl _); rintro e w7 ⟨v103, rfl, ho0, hb⟩; refine ⟨_, rfl, ?_⟩; have n0_ := Aside0.mk (Kd.R_lower ho0 (below_size (by repeat (first | (with_reducible first | exact HB.out | apply below_alloc | apply pw_below_drewN | apply below_drew1) | exact HB.out)))); have n1_ := Aside0.mk (below_step (by repeat (first | (with_reducible first | exact HB.out | apply below_alloc | apply pw_below_drewN | apply below_drew1) | exact HB.out)) hb); clear HB; have HO104 := n0_; have HB := n1_; clear n0_ n1_; (try clear hb); (try clear hb2); (try clear hk); (try clear hi); (try clear ho0)))
        go_loopg [6, 27] k1 (fun kq v6 v27 w' => ∃ (x6_2 : List Int) (x27_2 : Int), v27 = .int .i64 x27_2 ∧ Aside0 (slices_Concat_byte_byte.l1 kq x6_2 l0 (l0.length : Int) x27_2 = some r) ∧ Aside0 (kq ≤ k1) ∧ Aside0 (Kd.R (Kd.int .u8) 5 w' w.heap.size (fun _ => True) v6 x6_2) ∧ Aside0 (Below w.heap.size w w'))
        case atStart => exact ⟨(t102), (0), (by first | rfl | (simp; done) | (simp [*]; done)), H', ⟨Nat.le_refl _⟩, ⟨by (with_reducible repeat (first | apply Kd.R_alloc | apply Kd.R_drewN | apply Kd.R_drew)); exact HO104.out⟩, ⟨by repeat (first | (with_reducible first | exact HB.out | apply below_alloc | apply pw_below_drewN | apply below_drew1) | exact HB.out)⟩⟩
        case round =>
          clear H'; (try clear c1); (try clear p1); (try clear q1); (try clear hx1); (try clear c2); (try clear c2b0); (try clear p2); (try clear c3); (try clear c3b0); (try clear c4); (try clear c4b0); (try clear c5); (try clear c5b0); (try clear p6); (try clear c7); (try clear hx101_0); (try clear p101); (try clear q101)
          obtain ⟨x6_2, x27_2, rfl, HA, HK2, HO_6, HB⟩ := hrel
          cases gk with
          | zero => exact absurd HA.out (by simp [slices_Concat_byte_byte.l1])
          | succ k2 =>
            have H := HA.out
            clear HA
            simp only [slices_Concat_byte_byte.l1] at H
            by_cases c8 : x27_2 < (l0.length : Int)
            · rw [if_pos c8] at H
              have c8b0 : decide (x27_2 < (l0.length : Int)) = true := decide_eq_true c8
              clear c8
              by_cases c9 : 0 ≤ x27_2
              · rw [if_pos c9] at H
                have c9b0 : decide (0 ≤ x27_2) = true := decide_eq_true c9
                clear c9
                by_cases c10 : x27_2 < (l0.length : Int)
                · rw [if_pos c10] at H
                  have c10b0 : decide (x27_2 < (l0.length : Int)) = true := decide_eq_true c10
                  clear c10
                  by_cases c11 : x6_2.length + (rd_L1 l0 x27_2).length < 140737488355328
                  · rw [if_pos c11] at H
                    have LMc11 := Aside0.mk c11
                    clear c11
                    obtain ⟨y106, hy106⟩ : ∃ y_ : List Int, y_ = (x6_2 ++ (rd_L1 l0 x27_2)) := ⟨_, rfl⟩
                    replace H : (slices_Concat_byte_byte.l1 k2 y106 l0 (l0.length : Int) (wrap64 (x27_2 + 1))) = some r := by first | (rw [hy106]; with_reducible exact H) | (have H2_ := (Option.bind_some _ _).symm.trans H; rw [hy106]; with_reducible exact H2_) | (have H2_ := (Option.bind_some _ _).symm.trans H; with_reducible exact H2_) | with_reducible exact H | (rw [hy106]; exact H) | exact H
                    have Ny106 := Aside0.mk hy106
                    clear hy106
                    have H' := Aside0.mk H
                    clear H
                    have p105 : 0 ≤ (x27_2 : Int) := of_decide_eq_true (by first | (with_reducible assumption) | assumption)
                    have q105 : x27_2 < (l0.length : Int) := of_decide_eq_true (by first | (with_reducible assumption) | assumption)
                    obtain ⟨ad105, A105_0, c105_0, e105, hx105_0, hl105_0, hi105_0⟩ := at_L1 HR0.out x27_2 p105 q105
                    cases e105
                    replace hx105_0 := (HB.out.cell (World.block_lt_of_cell? w _ hx105_0)).trans hx105_0
                    have HR105_0 := Aside0.mk hi105_0
                    have HC105_0 := Aside0.mk hl105_0
                    clear hi105_0 hl105_0
                    replace p105 := eq_true p105
                    replace q105 := eq_true q105
                    go_wp2_with (first | ((with_reducible refine gate_builtin (b := .append) (xs := #[.tmp 31, .tmp 32]) rfl ?_); at_builtin; refine Kd.R_append_rows (Kd.int .u8) (w0 := w) w.heap.size rfl (.tmp 31) (.tmp 32) 34 5 (.int .u8 0) 1 rfl Try.underlying34 info5 rfl (by decide) (by omega) u6 x6_2 (rd_L1 l0 x27_2) _ _ _ (fun _ => True) (fun _ => False) rfl rfl ?aO ?aR (fun _ _ h => h) (fun _ h => h.elim) ?aF ?aB ?aS ?aL ?_; (case aR => repeat (first | exact (Kd.C_below HR105_0.out HB.out) | (with_reducible refine Kd.C_alloc ?_ _) | (with_reducible refine Kd.C_drewN ?_ _) | (with_reducible refine Kd.C_drew ?_))); (case aB => exact (by repeat (first | (with_reducible first | exact HB.out | apply below_alloc | apply pw_below_drewN | apply below_drew1) | exact HB.out))); (case aF => exact (fun _ _ => trivial)); (case aO => exact (by (with_reducible repeat (first | apply Kd.R_alloc | apply Kd.R_drewN | apply Kd.R_drew)); exact HO_6.out)); (case aS => exact (below_size (by repeat (first | (with_reducible first | exact HB.out | apply below_alloc | apply pw_below_drewN | apply below_drew1) | exact HB.out)))); (case aL => have := LMc11.out; omega); intro v107 w12 ho hb hg hat; rw [← Ny106.out] at ho; have n0_ := Aside0.mk (hb); have n1_ := Aside0.mk (ho); clear HB; clear HO_6; have HB := n0_; have HO108 := n1_; clear n0_ n1_; clear ho hb hg hat))
                    go_roundg k2
                    case measure => have := HK1.out; have := HK2.out; omega
                    case rel => exact ⟨(y106), (wrap64 (x27_2 + 1)), (by first | rfl | (simp; done) | (simp [*]; done)), H', ⟨by have := HK1.out; have := HK2.out; omega⟩, ⟨by (with_reducible repeat (first | apply Kd.R_alloc | apply Kd.R_drewN | apply Kd.R_drew)); exact HO108.out⟩, ⟨by repeat (first | (with_reducible first | exact HB.out | apply below_alloc | apply pw_below_drewN | apply below_drew1) | exact HB.out)⟩⟩
                  · rw [if_neg c11] at H
                    exact absurd H (by simp)
                · rw [if_neg c10] at H
                  exact absurd H (by simp)
              · rw [if_neg c9] at H
                exact absurd H (by simp)
            · rw [if_neg c8] at H
              have c8b0 : decide (x27_2 < (l0.length : Int)) = false := decide_eq_false c8
              clear c8
              obtain rfl := Option.some.inj H
              go_wp2
              go_ret
              exact ⟨_, by first | rfl | (simp [errW_none, errW_some] <;> rfl) | (simp [*, errW_none, errW_some] <;> rfl), by (with_reducible repeat (first | apply Kd.R_alloc | apply Kd.R_drewN | apply Kd.R_drew)); exact HO_6.out, by repeat (first | (with_reducible first | exact HB.out | apply below_alloc | apply pw_below_drewN | apply below_drew1) | exact HB.out)⟩
end Go.Proofs.Ytpkghpljgjlmjaa.K
/- Inverse of package matrix: its walk. -/
namespace Go.Proofs.Ytpkghpljgjlmjaa.K
open Kin Go.RowKit Go.Proofs.YtpkghpljgjlmjaaW.PrintWords Go.Proofs.YtpkghpljgjlmjaaW.PrintLast Go.Proofs.YtpkghpljgjlmjaaW.PrintMore
attribute [local go_sem] max2_int min2_int max_two min_two max_three min_three max_four min_four   -- for this text's walks alone
set_option linter.unusedVariables false
set_option linter.unusedSimpArgs false

-- NOT PRINTED: function 103 (matrix_elimination_scale)

-- NOT PRINTED: function 104 (matrix_elimination_clear)

-- NOT PRINTED: function 87 (matrix_elimination_run)

-- NOT PRINTED: function 62 (matrix_eliminate)

/-! ### winv: function 42 -/
/-- The rows of an elimination, of the first i the right parts alone. -/
def invU (R : List (List B)) (n i : Nat) : List (List B) := (List.range R.length).map fun a => if a < i then (R.getD a []).drop n else R.getD a []
theorem invU_length (R : List (List B)) (n i : Nat) : (invU R n i).length = R.length := by simp [invU]
theorem invU_get (R : List (List B)) (n i : Nat) {a : Nat} (ha : a < R.length) : (invU R n i).getD a [] = if a < i then (R.getD a []).drop n else R.getD a [] := by
  unfold invU
  rw [List.getD_eq_getElem?_getD, List.getElem?_map, List.getElem?_range ha]
  rfl
theorem invU_zero (R : List (List B)) (n : Nat) : invU R n 0 = R := by
  refine List.ext_getElem (invU_length R n 0) (fun a h1 h2 => ?_)
  simp only [invU, List.getElem_map, List.getElem_range]
  rw [if_neg (by omega), List.getD_eq_getElem?_getD, List.getElem?_eq_getElem h2]
  rfl
theorem invU_step (R : List (List B)) (n i : Nat) (hi : i < R.length) : (invU R n i).set i ((R.getD i []).drop n) = invU R n (i + 1) := by
  refine List.ext_getElem (by rw [List.length_set, invU_length, invU_length]) (fun a h1 h2 => ?_)
  rw [List.getElem_set]
  simp only [invU, List.getElem_map, List.getElem_range]
  by_cases ha : i = a
  · subst ha
    rw [if_pos rfl, if_pos (by omega)]
  · rw [if_neg ha]
    by_cases h : a < i
    · rw [if_pos h, if_pos (by omega)]
    · rw [if_neg h, if_neg (by omega)]
def invE (r1 : List (List Int)) (n : Nat) : ES := elimRun (toB2 r1) n
def invCode (r1 : List (List Int)) (r2 : Int) (n : Nat) : Int := if r2 = 0 then (if (invE r1 n).2.1.length < n then 4 else 0) else r2
def invVal (r1 : List (List Int)) (r2 : Int) (n : Nat) : List (List Int) := if r2 = 0 then (if (invE r1 n).2.1.length < n then [] else up2 (invU (invE r1 n).1 n n)) else []
def winv.l0 : Nat → List (List Int) → List (List Int) → List (List Int) → Int → Int → Option ((List (List Int)) × Int)
  | 0, _, _, _, _, _ => none
  | k + 1, x0, x5, x18, x19, x20 => if x20 < x19 then (if 0 ≤ x20 then (if x20 < (x18.length : Int) then (if x20 < (x0.length : Int) then ((slices_Concat_byte_byte.f k (([rd_L1 x0 x20, rd_L1 x18 x20] : List (List Int)))).bind fun t136 => (if x20 < (x5.length : Int) then (winv.l0 k x0 (x5.set (x20 : Int).toNat t136) x18 x19 (wrap64 (x20 + 1))) else (none))) else (none)) else (none)) else (none)) else (some (x5, 0))
def winv.f (k : Nat) (l0 : List (List Int)) : Option ((List (List Int)) × Int) := (matrix_square.f l0).bind fun t124 => (if t124 = true then (if 0 ≤ (l0.length : Int) then (if ((l0.length : Int) : Int).toNat ≤ 11728124029610 then ((matrix_Identity.f k (l0.length : Int)).bind fun t128 => (winv.l0 k l0 (List.replicate ((l0.length : Int) : Int).toNat []) t128 (t128.length : Int) 0)) else (none)) else (none)) else (some (([] : List (List Int)), 1)))
def f42.T16 : Bool × List (List Nat × List Nat) := (true, [([], []), ([0], [0]), ([1], [1]), ([2], [2]), ([], []), ([], []), ([5], [5]), ([6], [6]), ([7], [7]), ([], []), ([8, 9], [8, 9]), ([10], [10]), ([], []), ([11, 12], [11, 12]), ([13], [13]), ([3, 4, 0, 1, 2, 3, 4, 5, 6, 7, 8, 9, 10, 11, 12, 13, 14], [3, 4]), ([15, 14, 14, 0, 1, 2, 3, 4, 5, 6, 7, 8, 9, 10, 11, 12, 13, 14], [14, 15])])
def f42.B16 : List Nat := [0, 1, 3, 7, 0, 0, 32, 96, 224, 0, 992, 2016, 0, 8160, 16352, 32767, 65535]
theorem f42.tab16 : rtab .any (opsOf Try.f42 16) = f42.T16 := by kernel_rfl
theorem f42.bits16 : waitsOk f42.T16.2 f42.B16 = true := by kernel_rfl
set_option maxHeartbeats 8000000 in
set_option maxRecDepth 100000 in
theorem inverse_calls (k : Nat) (P0_ : Nat → Prop) (A0 : Option Addr) (c0 : Nat) (l0 : List (List Int)) (r1 : List (List Int)) (r2 : Int) (w : World) (hs0 : Kd.V (Kd.slice 5 (Kd.int .u8)) 34 w w.heap.size (fun k_ => P0_ k_) (.slice A0 l0.length c0) l0)
    (hW : r2 = 0 → ∃ W : List (List B), r1 = up2 W ∧ W.length = l0.length ∧ l0.length ≤ 32 ∧ ∀ r ∈ W, r.length = l0.length + l0.length) (h : winv.f k l0 = some (r1, r2)) :
    Calls Try.prog 42 #[.slice A0 l0.length c0] w fun e w' => ∃ v0_ : Value, e = .returned (.tuple #[v0_, .int .i64 (invCode r1 r2 l0.length)]) ∧ Kd.S (Kd.slice 5 (Kd.int .u8)) 34 w' w.heap.size (fun _ => True) v0_ (invVal r1 r2 l0.length) ∧ Below w.heap.size w w' := by
  have HW := Aside0.mk hW
  clear hW
  have HO0 := Aside0.mk (show Kd.V (Kd.slice 5 (Kd.int .u8)) 34 w w.heap.size (fun k_ => (P0_ k_ ∨ w.heap.size ≤ k_)) (.slice A0 l0.length c0) l0 from Kd.V_mono hs0 (fun k_ hk => .inl hk))
  have HB := Aside0.mk (Below.refl w.heap.size w)
  have H : ((matrix_square.f l0).bind fun t124 => (if t124 = true then (if 0 ≤ (l0.length : Int) then (if ((l0.length : Int) : Int).toNat ≤ 11728124029610 then ((matrix_Identity.f k (l0.length : Int)).bind fun t128 => (winv.l0 k l0 (List.replicate ((l0.length : Int) : Int).toNat []) t128 (t128.length : Int) 0)) else (none)) else (none)) else (some (([] : List (List Int)), 1)))) = some (r1, r2) := h
  clear h
  replace H := Option.bind_eq_some_iff.mp H
  obtain ⟨t124, A20, H⟩ := H
  replace H : (if t124 = true then (if 0 ≤ (l0.length : Int) then (if ((l0.length : Int) : Int).toNat ≤ 11728124029610 then ((matrix_Identity.f k (l0.length : Int)).bind fun t128 => (winv.l0 k l0 (List.replicate ((l0.length : Int) : Int).toNat []) t128 (t128.length : Int) 0)) else (none)) else (none)) else (some (([] : List (List Int)), 1))) = some (r1, r2) := H
  have A2 := Aside0.mk A20
  clear A20
  by_cases c3 : t124 = true
  · subst c3
    have H1 : (if 0 ≤ (l0.length : Int) then (if ((l0.length : Int) : Int).toNat ≤ 11728124029610 then ((matrix_Identity.f k (l0.length : Int)).bind fun t128 => (winv.l0 k l0 (List.replicate ((l0.length : Int) : Int).toNat []) t128 (t128.length : Int) 0)) else (none)) else (none)) = some (r1, r2) := by rw [if_pos rfl] at H; exact H
    clear H
    have H := H1
    clear H1
    by_cases c4 : 0 ≤ (l0.length : Int)
    · rw [if_pos c4] at H
      have c4b0 := eq_true c4
      have c4b1 : decide (0 ≤ (l0.length : Int)) = true := decide_eq_true c4
      clear c4
      by_cases c5 : ((l0.length : Int) : Int).toNat ≤ 11728124029610
      · rw [if_pos c5] at H
        have c5b0 := eq_true c5
        have c5b1 : decide (((l0.length : Int) : Int).toNat ≤ 11728124029610) = true := decide_eq_true c5
        clear c5
        obtain ⟨y125, hy125⟩ : ∃ y_ : List (List Int), y_ = (List.replicate ((l0.length : Int) : Int).toNat []) := ⟨_, rfl⟩
        replace H : ((matrix_Identity.f k (l0.length : Int)).bind fun t128 => (winv.l0 k l0 y125 t128 (t128.length : Int) 0)) = some (r1, r2) := by first | (rw [hy125]; with_reducible exact H) | (have H2_ := (Option.bind_some _ _).symm.trans H; rw [hy125]; with_reducible exact H2_) | (have H2_ := (Option.bind_some _ _).symm.trans H; with_reducible exact H2_) | with_reducible exact H | (rw [hy125]; exact H) | exact H
        have Ny125 := Aside0.mk hy125
        clear hy125
        replace H := Option.bind_eq_some_iff.mp H
        obtain ⟨t128, A60, H⟩ := H
        replace H : (winv.l0 k l0 y125 t128 (t128.length : Int) 0) = some (r1, r2) := H
        have A6 := Aside0.mk A60
        clear A60
        have H' := Aside0.mk H
        clear H
        go_enter Try.func42, Try.ntmps42
        go_wp2_with (first | ((with_reducible refine gate_callee (f := 67) rfl ?_); refine goesL_ (some 11) rfl rfl Try.func67 (by kernel_rfl) rfl #[.slice A0 l0.length c0] rfl (by (try simp only [List.map_toArray, List.map_cons, List.map_nil]); first | done | rfl | (simp only [List.length_drop, List.length_take]; rfl)) ?_; (with_reducible refine (matrix_square.calls _ _ l0 true _ ?side1 ?side2 A2.out).mono ?_); (case side1 => repeat (first | exact (Kd.V_reads' HO0.out).2.2 | (with_reducible refine Kd.C_alloc ?_ _) | (with_reducible refine Kd.C_drewN ?_ _) | (with_reducible refine Kd.C_drew ?_))); (case side2 => exact (Kd.V_reads' HO0.out).2.1); rintro e w7 ⟨rfl, hb⟩; refine ⟨_, rfl, ?_⟩; have n0_ := Aside0.mk (Kd.V_below (by (with_reducible repeat (first | apply Kd.V_alloc | apply Kd.V_drewN | apply Kd.V_drew)); exact HO0.out) hb); have n1_ := Aside0.mk (below_step (by repeat (first | (with_reducible first | exact HB.out | apply below_alloc | apply pw_below_drewN | apply below_drew1) | exact HB.out)) hb); clear HO0; clear HB; have HO0 := n0_; have HB := n1_; clear n0_ n1_; (try clear hb); (try clear hb2); (try clear hk); (try clear hi)) | ((with_reducible refine gate_dst (N := 16) rfl ?_); refine Kd.N_make (Kd.slice 5 (Kd.int .u8)) _ 34 rfl (N' := 16) rfl 22 _ _ rfl (l0.length : Int) rfl rfl Try.underlying22 (.slice none 0 0) 24 info34 rfl (by decide) (by omega) [] (ok := fun k_ => w7.heap.size ≤ k_) (okp := fun _ => False) (Kd.FK_slice_mk (Nat.le_refl _) (Kd.F_nil _ _ _)) (fun _ hk => hk.elim) (Nat.le_refl _) (of_decide_eq_true (by first | (with_reducible assumption) | assumption)) (Nat.le_trans (Nat.mul_le_mul_right _ (of_decide_eq_true (by first | (with_reducible assumption) | assumption) : (l0.length : Int).toNat ≤ 11728124029610)) (by omega)) (Below.refl _ _) (Nat.le_refl _) ?_; intro v126 w8 ho9 hb hg_ hnew_; clear hg_ hnew_; (first | rw [← Ny125.out] at ho9 | (simp only [Int.reduceToNat] at ho9; rw [← Ny125.out] at ho9)); have n0_ := Aside0.mk (Kd.V_elder' (by (with_reducible repeat (first | apply Kd.V_alloc | apply Kd.V_drewN | apply Kd.V_drew)); exact HO0.out) (by first | exact Kd.N_base ho9 | exact Kd.S_base ho9) hb); have n1_ := Aside0.mk (Kd.N_lower (Kd.N_mono (ok' := fun k_ => (P0_ k_ ∨ w.heap.size ≤ k_)) ho9 (fun k_ hk_ => (.inr (Nat.le_trans (below_size (by repeat (first | (with_reducible first | exact HB.out | apply below_alloc | apply pw_below_drewN | apply below_drew1) | exact HB.out))) hk_)))) (below_size (by repeat (first | (with_reducible first | exact HB.out | apply below_alloc | apply pw_below_drewN | apply below_drew1) | exact HB.out)))); have n2_ := Aside0.mk (below_step (by repeat (first | (with_reducible first | exact HB.out | apply below_alloc | apply pw_below_drewN | apply below_drew1) | exact HB.out)) hb); clear HO0; clear HB; have HO0 := n0_; have HO127 := n1_; have HB := n2_; clear n0_ n1_ n2_; clear hb ho9) | ((with_reducible refine gate_callee (f := 48) rfl ?_); refine goesL_ (some 18) rfl rfl Try.func48 (by kernel_rfl) rfl #[.int .i64 (l0.length : Int)] rfl (by (try simp only [List.map_toArray, List.map_cons, List.map_nil]); first | done | rfl | (simp only [List.length_drop, List.length_take]; rfl)) ?_; (with_reducible refine (matrix_Identity.calls k (l0.length : Int) t128 _ A6.out).mono ?_); rintro e w10 ⟨v129, rfl, ho0, hb⟩; refine ⟨_, rfl, ?_⟩; have n0_ := Aside0.mk (Kd.V_elder' (by (with_reducible repeat (first | apply Kd.V_alloc | apply Kd.V_drewN | apply Kd.V_drew)); exact HO0.out) (by first | exact Kd.N_base ho0 | exact Kd.S_base ho0) hb); have n1_ := Aside0.mk (Kd.N_elder' (by (with_reducible repeat (first | apply Kd.N_alloc | apply Kd.N_drewN | apply Kd.N_drew)); exact HO127.out) (by first | exact Kd.N_base ho0 | exact Kd.S_base ho0) hb); have n2_ := Aside0.mk (Kd.N_lower (Kd.N_mono (ok' := fun k_ => (P0_ k_ ∨ w.heap.size ≤ k_) ∧ some k_ ≠ (v126 : Value).ownBlock) (Kd.S_N (Kd.S_bound ho0)) (fun k_ hk_ => ⟨(.inr (Nat.le_trans (below_size (by repeat (first | (with_reducible first | exact HB.out | apply below_alloc | apply pw_below_drewN | apply below_drew1) | exact HB.out))) hk_.2.1)), (Kd.fresh' (Kd.N_lt (by (with_reducible repeat (first | apply Kd.N_alloc | apply Kd.N_drewN | apply Kd.N_drew)); exact HO127.out)) k_ hk_.2.1)⟩)) (below_size (by repeat (first | (with_reducible first | exact HB.out | apply below_alloc | apply pw_below_drewN | apply below_drew1) | exact HB.out)))); have n3_ := Aside0.mk (below_step (by repeat (first | (with_reducible first | exact HB.out | apply below_alloc | apply pw_below_drewN | apply below_drew1) | exact HB.out)) hb); clear HO0; clear HO127; clear HB; have HO0 := n0_; have HO127 := n1_; have HO130 := n2_; have HB := n3_; clear n0_ n1_ n2_ n3_; (try clear hb); (try clear hb2); (try clear hk); (try clear hi); (try clear ho0); obtain ⟨Ao11, co11, eo11⟩ := Kd.N_slice HO130.out; subst eo11))
        go_loopg [20] k (fun kq v20 w' => ∃ (x5_1 : List (List Int)) (x20_1 : Int), v20 = .int .i64 x20_1 ∧ Aside0 (winv.l0 kq l0 x5_1 t128 (t128.length : Int) x20_1 = some (r1, r2)) ∧ Aside0 (kq ≤ k) ∧ Aside0 (Kd.V (Kd.slice 5 (Kd.int .u8)) 34 w' w.heap.size (fun k_ => (P0_ k_ ∨ w.heap.size ≤ k_) ∧ some k_ ≠ (v126 : Value).ownBlock ∧ some k_ ≠ ((.slice Ao11 t128.length co11) : Value).ownBlock) (.slice A0 l0.length c0) l0) ∧ Aside0 (Kd.N (Kd.slice 5 (Kd.int .u8)) 34 w' w.heap.size (fun k_ => (P0_ k_ ∨ w.heap.size ≤ k_) ∧ some k_ ≠ ((.slice Ao11 t128.length co11) : Value).ownBlock) v126 x5_1) ∧ Aside0 (Kd.N (Kd.slice 5 (Kd.int .u8)) 34 w' w.heap.size (fun k_ => (P0_ k_ ∨ w.heap.size ≤ k_) ∧ some k_ ≠ (v126 : Value).ownBlock) (.slice Ao11 t128.length co11) t128) ∧ Aside0 (Below w.heap.size w w'))
        case atStart => exact ⟨(y125), (0), (by first | rfl | (simp; done) | (simp [*]; done)), H', ⟨Nat.le_refl _⟩, ⟨by (with_reducible repeat (first | apply Kd.V_alloc | apply Kd.V_drewN | apply Kd.V_drew)); exact Kd.V_mono HO0.out (fun _ hk => ⟨hk.1.1, ⟨hk.1.2, hk.2⟩⟩)⟩, ⟨by (with_reducible repeat (first | apply Kd.N_alloc | apply Kd.N_drewN | apply Kd.N_drew)); exact HO127.out⟩, ⟨by (with_reducible repeat (first | apply Kd.N_alloc | apply Kd.N_drewN | apply Kd.N_drew)); exact HO130.out⟩, ⟨by repeat (first | (with_reducible first | exact HB.out | apply below_alloc | apply pw_below_drewN | apply below_drew1) | exact HB.out)⟩⟩
        case round =>
          clear H'; (try clear p2); (try clear c3); (try clear c4); (try clear c4b0); (try clear c4b1); (try clear c5); (try clear c5b0); (try clear c5b1); (try clear c6)
          obtain ⟨x5_1, x20_1, rfl, HA, HK1, HO_0, HO_5, HO_18, HB⟩ := hrel
          cases gk with
          | zero => exact absurd HA.out (by simp [winv.l0])
          | succ k1 =>
            have H := HA.out
            clear HA
            simp only [winv.l0] at H
            by_cases c12 : x20_1 < (t128.length : Int)
            · rw [if_pos c12] at H
              have c12b0 : decide (x20_1 < (t128.length : Int)) = true := decide_eq_true c12
              clear c12
              by_cases c13 : 0 ≤ x20_1
              · rw [if_pos c13] at H
                have c13b0 : decide (0 ≤ x20_1) = true := decide_eq_true c13
                clear c13
                by_cases c14 : x20_1 < (t128.length : Int)
                · rw [if_pos c14] at H
                  have c14b0 : decide (x20_1 < (t128.length : Int)) = true := decide_eq_true c14
                  clear c14
                  by_cases c15 : x20_1 < (l0.length : Int)
                  · rw [if_pos c15] at H
                    have c15b0 : decide (x20_1 < (l0.length : Int)) = true := decide_eq_true c15
                    clear c15
                    obtain ⟨y133, hy133⟩ : ∃ y_ : List (List Int), y_ = (([rd_L1 l0 x20_1, rd_L1 t128 x20_1] : List (List Int))) := ⟨_, rfl⟩
                    replace H : ((slices_Concat_byte_byte.f k1 y133).bind fun t136 => (if x20_1 < (x5_1.length : Int) then (winv.l0 k1 l0 (x5_1.set (x20_1 : Int).toNat t136) t128 (t128.length : Int) (wrap64 (x20_1 + 1))) else (none))) = some (r1, r2) := by first | (rw [hy133]; with_reducible exact H) | (have H2_ := (Option.bind_some _ _).symm.trans H; rw [hy133]; with_reducible exact H2_) | (have H2_ := (Option.bind_some _ _).symm.trans H; with_reducible exact H2_) | with_reducible exact H | (rw [hy133]; exact H) | exact H
                    have Ny133 := Aside0.mk hy133
                    clear hy133
                    replace H := Option.bind_eq_some_iff.mp H
                    obtain ⟨t136, A160, H⟩ := H
                    replace H : (if x20_1 < (x5_1.length : Int) then (winv.l0 k1 l0 (x5_1.set (x20_1 : Int).toNat t136) t128 (t128.length : Int) (wrap64 (x20_1 + 1))) else (none)) = some (r1, r2) := H
                    have A16 := Aside0.mk A160
                    clear A160
                    by_cases c17 : x20_1 < (x5_1.length : Int)
                    · rw [if_pos c17] at H
                      have c17b0 : decide (x20_1 < (x5_1.length : Int)) = true := decide_eq_true c17
                      clear c17
                      obtain ⟨y139, hy139⟩ : ∃ y_ : List (List Int), y_ = (x5_1.set (x20_1 : Int).toNat t136) := ⟨_, rfl⟩
                      replace H : (winv.l0 k1 l0 y139 t128 (t128.length : Int) (wrap64 (x20_1 + 1))) = some (r1, r2) := by first | (rw [hy139]; with_reducible exact H) | (have H2_ := (Option.bind_some _ _).symm.trans H; rw [hy139]; with_reducible exact H2_) | (have H2_ := (Option.bind_some _ _).symm.trans H; with_reducible exact H2_) | with_reducible exact H | (rw [hy139]; exact H) | exact H
                      have Ny139 := Aside0.mk hy139
                      clear hy139
                      have H' := Aside0.mk H
                      clear H
                      have p131 : 0 ≤ (x20_1 : Int) := of_decide_eq_true (by first | (with_reducible assumption) | assumption)
                      have q131 : x20_1 < (t128.length : Int) := of_decide_eq_true (by first | (with_reducible assumption) | assumption)
                      obtain ⟨ad131, A131_0, c131_0, e131, hx131_0, hl131_0, hi131_0⟩ := at_L1 (Kd.N_reads' HO_18.out).2.2 x20_1 p131 q131
                      cases e131
                      obtain ⟨ce131, hce131, hMe131, hcc131⟩ := Kd.N_get HO_18.out [] x20_1 p131 (by first | exact q131 | exact of_decide_eq_true (by first | (with_reducible assumption) | assumption) | (have e_ := (Kd.N_reads' HO_18.out).1; omega))
                      obtain ⟨ua131_0, uc131_0, rfl, ul131_0, ge131_0⟩ := Kd.FK_slice_open hMe131
                      have hv131_0 := hcc131 0 _ rfl
                      rw [Nat.add_zero, show ((Kd.slice 5 (Kd.int .u8))).sz = 1 from rfl, Nat.mul_one] at hv131_0
                      replace hv131_0 := Option.some.inj (hv131_0.symm.trans hx131_0)
                      injection hv131_0 with hva_ hvn_ hvc_
                      rw [hva_] at ge131_0
                      rw [hvc_] at ul131_0
                      have HL131_0 := Aside0.mk (show Kd.V (Kd.int .u8) 5 _ w.heap.size _ _ (rd_L1 t128 x20_1) from Kd.V_mk ul131_0 ge131_0)
                      clear hva_ hvn_ hvc_ ge131_0 ul131_0; clear hcc131 hce131
                      have HR131_0 := Aside0.mk hi131_0
                      have HC131_0 := Aside0.mk hl131_0
                      clear hi131_0 hl131_0
                      replace p131 := eq_true p131
                      replace q131 := eq_true q131
                      have p132 : 0 ≤ (x20_1 : Int) := of_decide_eq_true (by first | (with_reducible assumption) | assumption)
                      have q132 : x20_1 < (l0.length : Int) := of_decide_eq_true (by first | (with_reducible assumption) | assumption)
                      obtain ⟨ad132, A132_0, c132_0, e132, hx132_0, hl132_0, hi132_0⟩ := at_L1 (Kd.V_reads' HO_0.out).2.2 x20_1 p132 q132
                      cases e132
                      obtain ⟨ce132, hce132, hMe132, hcc132⟩ := Kd.V_get HO_0.out [] x20_1 p132 (by first | exact q132 | exact of_decide_eq_true (by first | (with_reducible assumption) | assumption) | (have e_ := (Kd.V_reads' HO_0.out).1; omega))
                      obtain ⟨ua132_0, uc132_0, rfl, ul132_0, ge132_0⟩ := Kd.FK_slice_open hMe132
                      have hv132_0 := hcc132 0 _ rfl
                      rw [Nat.add_zero, show ((Kd.slice 5 (Kd.int .u8))).sz = 1 from rfl, Nat.mul_one] at hv132_0
                      replace hv132_0 := Option.some.inj (hv132_0.symm.trans hx132_0)
                      injection hv132_0 with hva_ hvn_ hvc_
                      rw [hva_] at ge132_0
                      rw [hvc_] at ul132_0
                      have HL132_0 := Aside0.mk (show Kd.V (Kd.int .u8) 5 _ w.heap.size _ _ (rd_L1 l0 x20_1) from Kd.V_mk ul132_0 ge132_0)
                      clear hva_ hvn_ hvc_ ge132_0 ul132_0; clear hcc132 hce132
                      have HR132_0 := Aside0.mk hi132_0
                      have HC132_0 := Aside0.mk hl132_0
                      clear hi132_0 hl132_0
                      replace p132 := eq_true p132
                      replace q132 := eq_true q132
                      go_wp2_with (first | ((with_reducible refine gate_dst (N := 32) rfl ?_); refine Kd.N_lit (Kd.slice 5 (Kd.int .u8)) _ 34 ?hg (N' := 32) ?hd (xs := ([rd_L1 l0 x20_1, rd_L1 t128 x20_1] : List (List Int))) (inner := [.slice A132_0 (rd_L1 l0 x20_1).length c132_0, .slice A131_0 (rd_L1 t128 x20_1).length c131_0]) (ok := (fun k_ => (P0_ k_ ∨ w.heap.size ≤ k_) ∧ some k_ ≠ (v126 : Value).ownBlock ∧ some k_ ≠ (.slice (some ad131) t128.length co11 : Value).ownBlock)) (okp := (fun k_ => (P0_ k_ ∨ w.heap.size ≤ k_) ∧ some k_ ≠ (v126 : Value).ownBlock ∧ some k_ ≠ (.slice (some ad131) t128.length co11 : Value).ownBlock)) ?hr ?hp (fun _ hk => hk) ((show ∀ k_, wr.heap.size ≤ k_ → (fun k_ => (P0_ k_ ∨ w.heap.size ≤ k_) ∧ some k_ ≠ (v126 : Value).ownBlock ∧ some k_ ≠ (.slice (some ad131) t128.length co11 : Value).ownBlock) k_ from fun k_ hk => ⟨(.inr (Nat.le_trans (below_size (by repeat (first | (with_reducible first | exact HB.out | apply below_alloc | apply pw_below_drewN | apply below_drew1) | exact HB.out))) hk)), Kd.fresh' (Kd.N_lt (by (with_reducible repeat (first | apply Kd.N_alloc | apply Kd.N_drewN | apply Kd.N_drew)); exact HO_5.out)) k_ hk, Kd.fresh' (Kd.N_lt (by (with_reducible repeat (first | apply Kd.N_alloc | apply Kd.N_drewN | apply Kd.N_drew)); exact HO_18.out)) k_ hk⟩) _ (Nat.le_refl _)) (Below.refl _ _) (Nat.le_refl _) (by simp) ?_; (case hd => rfl); (case hg => rfl); (case hr => first | (go_simp; done) | (go_simp; rfl)); (case hp => exact (Reps.one (show Kd.FK (Kd.slice 5 (Kd.int .u8)) _ _ (rd_L1 l0 x20_1) [.slice A132_0 (rd_L1 l0 x20_1).length c132_0] from (Kd.FK_slice_mk (Kd.V_reads' (Kd.V_mono (ok' := (fun k_ => (P0_ k_ ∨ w.heap.size ≤ k_) ∧ some k_ ≠ (v126 : Value).ownBlock ∧ some k_ ≠ (.slice (some ad131) t128.length co11 : Value).ownBlock)) (HL132_0.out) (fun k_ hk => ⟨hk.1, ⟨hk.2.1, hk.2.2⟩⟩))).2.1 (Kd.V_F (Kd.V_mono (ok' := (fun k_ => (P0_ k_ ∨ w.heap.size ≤ k_) ∧ some k_ ≠ (v126 : Value).ownBlock ∧ some k_ ≠ (.slice (some ad131) t128.length co11 : Value).ownBlock)) (HL132_0.out) (fun k_ hk => ⟨hk.1, ⟨hk.2.1, hk.2.2⟩⟩))))) (Reps.one (show Kd.FK (Kd.slice 5 (Kd.int .u8)) _ _ (rd_L1 t128 x20_1) [.slice A131_0 (rd_L1 t128 x20_1).length c131_0] from (Kd.FK_slice_mk (Kd.V_reads' (Kd.V_mono (ok' := (fun k_ => (P0_ k_ ∨ w.heap.size ≤ k_) ∧ some k_ ≠ (v126 : Value).ownBlock ∧ some k_ ≠ (.slice (some ad131) t128.length co11 : Value).ownBlock)) (HL131_0.out) (fun k_ hk => ⟨hk.1.1, ⟨hk.1.2, hk.2⟩⟩))).2.1 (Kd.V_F (Kd.V_mono (ok' := (fun k_ => (P0_ k_ ∨ w.heap.size ≤ k_) ∧ some k_ ≠ (v126 : Value).ownBlock ∧ some k_ ≠ (.slice (some ad131) t128.length co11 : Value).ownBlock)) (HL131_0.out) (fun k_ hk => ⟨hk.1.1, ⟨hk.1.2, hk.2⟩⟩))))) (Reps.none _ _)))); intro v134 w19 ho20 hb hg_ hnew_; clear hg_ hnew_; (first | rw [← Ny133.out] at ho20 | (simp only [Int.reduceToNat] at ho20; rw [← Ny133.out] at ho20)); have n0_ := Aside0.mk (Kd.V_elder' (by (with_reducible repeat (first | apply Kd.V_alloc | apply Kd.V_drewN | apply Kd.V_drew)); exact HO_0.out) (by first | exact Kd.N_base ho20 | exact Kd.S_base ho20) hb); have n1_ := Aside0.mk (Kd.N_elder' (by (with_reducible repeat (first | apply Kd.N_alloc | apply Kd.N_drewN | apply Kd.N_drew)); exact HO_5.out) (by first | exact Kd.N_base ho20 | exact Kd.S_base ho20) hb); have n2_ := Aside0.mk (Kd.N_elder' (by (with_reducible repeat (first | apply Kd.N_alloc | apply Kd.N_drewN | apply Kd.N_drew)); exact HO_18.out) (by first | exact Kd.N_base ho20 | exact Kd.S_base ho20) hb); have n3_ := Aside0.mk (Kd.V_elder' (by (with_reducible repeat (first | apply Kd.V_alloc | apply Kd.V_drewN | apply Kd.V_drew)); exact HL131_0.out) (by first | exact Kd.N_base ho20 | exact Kd.S_base ho20) hb); have n4_ := Aside0.mk (Kd.V_elder' (by (with_reducible repeat (first | apply Kd.V_alloc | apply Kd.V_drewN | apply Kd.V_drew)); exact HL132_0.out) (by first | exact Kd.N_base ho20 | exact Kd.S_base ho20) hb); have n5_ := Aside0.mk (Kd.N_lower ho20 (below_size (by repeat (first | (with_reducible first | exact HB.out | apply below_alloc | apply pw_below_drewN | apply below_drew1) | exact HB.out)))); have n6_ := Aside0.mk (Kd.C_below (by repeat (first | (with_reducible exact HR131_0.out) | (with_reducible refine Kd.C_alloc ?_ _) | (with_reducible refine Kd.C_drewN ?_ _) | (with_reducible refine Kd.C_drew ?_) | exact HR131_0.out)) hb); have n7_ := Aside0.mk (Kd.C_below (by repeat (first | (with_reducible exact HR132_0.out) | (with_reducible refine Kd.C_alloc ?_ _) | (with_reducible refine Kd.C_drewN ?_ _) | (with_reducible refine Kd.C_drew ?_) | exact HR132_0.out)) hb); have n8_ := Aside0.mk (below_step (by repeat (first | (with_reducible first | exact HB.out | apply below_alloc | apply pw_below_drewN | apply below_drew1) | exact HB.out)) hb); clear HO_0; clear HO_5; clear HO_18; clear HL131_0; clear HL132_0; clear HR131_0; clear HR132_0; clear HB; have HO_0 := n0_; have HO_5 := n1_; have HO_18 := n2_; have HL131_0 := n3_; have HL132_0 := n4_; have HO135 := n5_; have HR131_0 := n6_; have HR132_0 := n7_; have HB := n8_; clear n0_ n1_ n2_ n3_ n4_ n5_ n6_ n7_ n8_; clear hb ho20; obtain ⟨Ao21, co21, eo21⟩ := Kd.N_slice HO135.out; subst eo21) | ((with_reducible refine gate_callee (f := 74) rfl ?_); refine goesL_ (some 33) rfl rfl Try.func74 (by kernel_rfl) rfl #[.slice Ao21 y133.length co21] rfl (by (try simp only [List.map_toArray, List.map_cons, List.map_nil]); first | done | rfl | (simp only [List.length_drop, List.length_take]; rfl)) ?_; (with_reducible refine (slices_Concat_byte_byte.calls k1 _ _ y133 t136 _ ?side1 ?side2 A16.out).mono ?_); (case side1 => repeat (first | exact (Kd.N_reads' HO135.out).2.2 | (with_reducible refine Kd.C_alloc ?_ _) | (with_reducible refine Kd.C_drewN ?_ _) | (with_reducible refine Kd.C_drew ?_))); (case side2 => exact (Kd.N_reads' HO135.out).2.1); rintro e w22 ⟨v137, rfl, ho0, hb⟩; obtain ⟨A137, c137, rfl⟩ := Kd.R_slice ho0; refine ⟨_, rfl, ?_⟩; have n0_ := Aside0.mk (Kd.V_elder' (by (with_reducible repeat (first | apply Kd.V_alloc | apply Kd.V_drewN | apply Kd.V_drew)); exact HO_0.out) (Kd.R_base ho0) hb); have n1_ := Aside0.mk (Kd.N_elder' (by (with_reducible repeat (first | apply Kd.N_alloc | apply Kd.N_drewN | apply Kd.N_drew)); exact HO_5.out) (Kd.R_base ho0) hb); have n2_ := Aside0.mk (Kd.N_elder' (by (with_reducible repeat (first | apply Kd.N_alloc | apply Kd.N_drewN | apply Kd.N_drew)); exact HO_18.out) (Kd.R_base ho0) hb); have n3_ := Aside0.mk (Kd.V_elder' (by (with_reducible repeat (first | apply Kd.V_alloc | apply Kd.V_drewN | apply Kd.V_drew)); exact HL131_0.out) (Kd.R_base ho0) hb); have n4_ := Aside0.mk (Kd.V_elder' (by (with_reducible repeat (first | apply Kd.V_alloc | apply Kd.V_drewN | apply Kd.V_drew)); exact HL132_0.out) (Kd.R_base ho0) hb); have n5_ := Aside0.mk (Kd.N_elder' (by (with_reducible repeat (first | apply Kd.N_alloc | apply Kd.N_drewN | apply Kd.N_drew)); exact HO135.out) (Kd.R_base ho0) hb); have n6_ := Aside0.mk (Kd.R_lower (Kd.R_newM (M := fun k_ => (w.heap.size ≤ k_)) ho0 (below_size (by repeat (first | (with_reducible first | exact HB.out | apply below_alloc | apply pw_below_drewN | apply below_drew1) | exact HB.out))) (fun k_ h_ => h_)) (below_size (by repeat (first | (with_reducible first | exact HB.out | apply below_alloc | apply pw_below_drewN | apply below_drew1) | exact HB.out)))); have n7_ := Aside0.mk (Kd.C_below (by repeat (first | (with_reducible exact HR131_0.out) | (with_reducible refine Kd.C_alloc ?_ _) | (with_reducible refine Kd.C_drewN ?_ _) | (with_reducible refine Kd.C_drew ?_) | exact HR131_0.out)) hb); have n8_ := Aside0.mk (Kd.C_below (by repeat (first | (with_reducible exact HR132_0.out) | (with_reducible refine Kd.C_alloc ?_ _) | (with_reducible refine Kd.C_drewN ?_ _) | (with_reducible refine Kd.C_drew ?_) | exact HR132_0.out)) hb); have n9_ := Aside0.mk (below_step (by repeat (first | (with_reducible first | exact HB.out | apply below_alloc | apply pw_below_drewN | apply below_drew1) | exact HB.out)) hb); clear HO_0; clear HO_5; clear HO_18; clear HL131_0; clear HL132_0; clear HO135; clear HR131_0; clear HR132_0; clear HB; have HO_0 := n0_; have HO_5 := n1_; have HO_18 := n2_; have HL131_0 := n3_; have HL132_0 := n4_; have HO135 := n5_; have HO138 := n6_; have HR131_0 := n7_; have HR132_0 := n8_; have HB := n9_; clear n0_ n1_ n2_ n3_ n4_ n5_ n6_ n7_ n8_ n9_; (try clear hb); (try clear hb2); (try clear hk); (try clear hi); (try clear ho0); have p18 : 0 ≤ (x20_1 : Int) := of_decide_eq_true (by first | (with_reducible assumption) | assumption); have q18 : (x20_1 : Int) < ((x5_1.length : Int) : Int) := of_decide_eq_true (by first | (with_reducible assumption) | assumption); obtain ⟨go18, co18, eo18, gb18, gl18, cl18, HG18⟩ := Kd.N_form HO_5.out (by omega); (first | cases eo18 | (injection eo18 with ea_ en_ ec_; (first | subst ea_ | (injection ea_ with ea_; subst ea_)); subst ec_; clear en_)); have GB18 := Aside0.mk gb18; have GG18 := Aside0.mk HG18; clear gb18 gl18 HG18; obtain ⟨ce18, hcl18, hM18, hcc18, hfr18⟩ := Kd.N_elem HO_5.out [] (x20_1 : Int) p18 q18; obtain ⟨ua18_0, uc18_0, rfl, ul18_0, ge18_0⟩ := Kd.FK_slice_open hM18; have hx18_0 := hcc18 0 _ rfl; have hf18_0 := hfr18 0; (try simp only [show ((Kd.slice 5 (Kd.int .u8))).sz = 1 from rfl, Nat.mul_one, Nat.add_zero] at hx18_0); (try simp only [show ((Kd.slice 5 (Kd.int .u8))).sz = 1 from rfl, Nat.mul_one, Nat.add_zero] at hf18_0); clear hcl18 hcc18 hfr18; (try clear hM18); replace p18 := eq_true p18; replace q18 := eq_true q18; have n_ := Aside0.mk (Kd.N_mono (ok' := (fun k_ => (P0_ k_ ∨ w.heap.size ≤ k_) ∧ some k_ ≠ (.slice (some ad131) t128.length co11 : Value).ownBlock ∧ some k_ ≠ (.slice Ao21 y133.length co21 : Value).ownBlock ∧ some k_ ≠ ((Value.slice A137 t136.length c137) : Value).ownBlock)) HO_5.out (fun k_ hk => ⟨hk.1.1.1, ⟨hk.1.1.2, ⟨hk.1.2, hk.2⟩⟩⟩)); clear HO_5; have HO_5 := n_; clear n_; have HX23 := Aside0.mk (show Kd.N (Kd.slice 5 (Kd.int .u8)) 34 w22 w.heap.size (fun k_ => (P0_ k_ ∨ w.heap.size ≤ k_) ∧ some k_ ≠ (.slice (some ad131) t128.length co11 : Value).ownBlock ∧ some k_ ≠ (.slice Ao21 y133.length co21 : Value).ownBlock) (.slice (some ⟨go18, 0, none⟩) x5_1.length co18) x5_1 from (by (with_reducible repeat (first | apply Kd.N_alloc | apply Kd.N_drewN | apply Kd.N_drew)); exact Kd.N_mono HO_5.out (fun _ hk => ⟨hk.1, ⟨hk.2.1, hk.2.2.1⟩⟩))); obtain ⟨ce23, hcl23, hM23, hcc23, hfr23⟩ := Kd.N_elem HX23.out [] (x20_1 : Int) (of_decide_eq_true (by first | (with_reducible assumption) | assumption)) (by have h_ : (x20_1 : Int) < ((x5_1.length : Int) : Int) := of_decide_eq_true (by first | (with_reducible assumption) | assumption); first | exact h_ | (have e_ := (Kd.N_reads' HO_5.out).1; omega) | simpa using h_); obtain ⟨ua23_0, uc23_0, rfl, ul23_0, ge23_0⟩ := Kd.FK_slice_open hM23; have HO138a := (Kd.R_apart' (d := Kd.int .u8) (e := 5) (Kd.R_apart' (d := Kd.int .u8) (e := 5) (Kd.R_apart' (d := Kd.int .u8) (e := 5) (HO138.out) (Kd.N_typed HO_18.out) (by decide)) (Kd.N_typed HO135.out) (by decide)) (Kd.N_typed HO_5.out) (by decide)); have HP23 := Kd.N_seg HX23.out (x20_1 : Int) (of_decide_eq_true (by first | (with_reducible assumption) | assumption)) (by have h_ : (x20_1 : Int) < ((x5_1.length : Int) : Int) := of_decide_eq_true (by first | (with_reducible assumption) | assumption); first | exact h_ | (have e_ := (Kd.N_reads' HO_5.out).1; omega) | simpa using h_) (seg := [(Value.slice A137 t136.length c137)]) (j := 0) hcl23 hcc23 (show 1 ≤ 1 from by decide) (x' := t136) (Kd.FK_slice_mk (Kd.R_reads' (Kd.R_mono (ok' := (fun k_ => ((fun k_ => (P0_ k_ ∨ w.heap.size ≤ k_) ∧ some k_ ≠ (.slice (some ad131) t128.length co11 : Value).ownBlock ∧ some k_ ≠ (.slice Ao21 y133.length co21 : Value).ownBlock)) k_ ∧ k_ ≠ go18)) (HO138a) (fun k_ hk => ⟨⟨(.inr (hk.1.1.1.1)), ⟨hk.1.1.2, hk.1.2⟩⟩, fun e_ => (hk.2) (by rw [e_]; rfl)⟩))).2.1 (Kd.R_F (Kd.R_mono (ok' := (fun k_ => ((fun k_ => (P0_ k_ ∨ w.heap.size ≤ k_) ∧ some k_ ≠ (.slice (some ad131) t128.length co11 : Value).ownBlock ∧ some k_ ≠ (.slice Ao21 y133.length co21 : Value).ownBlock)) k_ ∧ k_ ≠ go18)) (HO138a) (fun k_ hk => ⟨⟨(.inr (hk.1.1.1.1)), ⟨hk.1.1.2, hk.1.2⟩⟩, fun e_ => (hk.2) (by rw [e_]; rfl)⟩)))) (fun _ hk => hk); have hx23_0 := hcc23 0 _ rfl; (try simp only [show ((Kd.slice 5 (Kd.int .u8))).sz = 1 from rfl, Nat.mul_one, Nat.add_zero] at hx23_0); have hf23_0 := hfr23 0; (try simp only [show ((Kd.slice 5 (Kd.int .u8))).sz = 1 from rfl, Nat.mul_one, Nat.add_zero] at hf23_0); clear hcl23 hcc23 hfr23; (try clear hM23); (try simp only [show ((Kd.slice 5 (Kd.int .u8))).sz = 1 from rfl, Nat.mul_one, Nat.add_zero] at HP23); (try simp only [show ((Kd.slice 5 (Kd.int .u8))).sz = 1 from rfl, Nat.mul_one, Nat.add_zero] at HP23)) | ((with_reducible refine gate_store (t := 34) (p := 34) rfl ?_); refine store_event (t := 34) (p := 34) (v := ?vo_w24) (w1 := (w22.setCell ⟨go18, (x20_1 : Int).toNat, none⟩ ((Value.slice A137 t136.length c137)))) ?hg ?ho ?hn ?hr ?_; (case ho => rfl); (case hg => rfl); (case hn => rfl); (case hr => first | (go_simp; done) | (go_simp; rfl) | (obtain ⟨A_, c_, e_⟩ : ∃ A_ c_, (Value.slice A137 t136.length c137) = .slice A_ _ c_ := Kd.R_slice (Aside0.out (by assumption)); rw [e_]; go_simp; done) | (obtain ⟨A_, c_, e_⟩ : ∃ A_ c_, (Value.slice A137 t136.length c137) = .slice A_ _ c_ := Kd.R_slice (Aside0.out (by assumption)); rw [e_]; go_simp; rfl)); intro w24 hw; have hg : w22.grownBy w24 (some go18) := (by rw [hw]; exact HP23.2); have hp_ : Kd.N (Kd.slice 5 (Kd.int .u8)) 34 w24 w.heap.size (fun k_ => (P0_ k_ ∨ w.heap.size ≤ k_) ∧ some k_ ≠ (.slice (some ad131) t128.length co11 : Value).ownBlock ∧ some k_ ≠ (.slice Ao21 y133.length co21 : Value).ownBlock) (.slice (some ⟨go18, 0, none⟩) x5_1.length co18) y139 := (by rw [hw, Ny139.out]; exact HP23.1); clear HP23; have n0_ := Aside0.mk (Kd.V_afterv (v := (.slice (some ⟨go18, 0, none⟩) x5_1.length co18)) (v1 := (.slice (some ⟨go18, 0, none⟩) x5_1.length co18)) (ok := (fun k_ => (P0_ k_ ∨ w.heap.size ≤ k_) ∧ some k_ ≠ (.slice (some ad131) t128.length co11 : Value).ownBlock ∧ some k_ ≠ (.slice Ao21 y133.length co21 : Value).ownBlock ∧ some k_ ≠ ((Value.slice A137 t136.length c137) : Value).ownBlock)) (by (with_reducible repeat (first | apply Kd.V_alloc | apply Kd.V_drewN | apply Kd.V_drew)); exact Kd.V_mono HO_0.out (fun _ hk => ⟨⟨hk.1.1.1, ⟨hk.1.1.2.2, ⟨hk.1.2, hk.2⟩⟩⟩, hk.1.1.2.1⟩)) hg (.inl rfl)); have n1_ := Aside0.mk (hp_); have n2_ := Aside0.mk (Kd.N_afterv (v := (.slice (some ⟨go18, 0, none⟩) x5_1.length co18)) (v1 := (.slice (some ⟨go18, 0, none⟩) x5_1.length co18)) (ok := (fun k_ => (P0_ k_ ∨ w.heap.size ≤ k_) ∧ some k_ ≠ (.slice Ao21 y133.length co21 : Value).ownBlock ∧ some k_ ≠ ((Value.slice A137 t136.length c137) : Value).ownBlock)) (by (with_reducible repeat (first | apply Kd.N_alloc | apply Kd.N_drewN | apply Kd.N_drew)); exact Kd.N_mono HO_18.out (fun _ hk => ⟨⟨hk.1.1.1, ⟨hk.1.2, hk.2⟩⟩, hk.1.1.2⟩)) hg (.inl rfl)); have n3_ := Aside0.mk (Kd.V_afterv (v := (.slice (some ⟨go18, 0, none⟩) x5_1.length co18)) (v1 := (.slice (some ⟨go18, 0, none⟩) x5_1.length co18)) (ok := (fun k_ => (P0_ k_ ∨ w.heap.size ≤ k_) ∧ some k_ ≠ (.slice (some ad131) t128.length co11 : Value).ownBlock ∧ some k_ ≠ (.slice Ao21 y133.length co21 : Value).ownBlock ∧ some k_ ≠ ((Value.slice A137 t136.length c137) : Value).ownBlock)) (by (with_reducible repeat (first | apply Kd.V_alloc | apply Kd.V_drewN | apply Kd.V_drew)); exact Kd.V_mono HL131_0.out (fun _ hk => ⟨⟨hk.1.1.1.1, ⟨hk.1.1.2, ⟨hk.1.2, hk.2⟩⟩⟩, hk.1.1.1.2⟩)) hg (.inl rfl)); have n4_ := Aside0.mk (Kd.V_afterv (v := (.slice (some ⟨go18, 0, none⟩) x5_1.length co18)) (v1 := (.slice (some ⟨go18, 0, none⟩) x5_1.length co18)) (ok := (fun k_ => (P0_ k_ ∨ w.heap.size ≤ k_) ∧ some k_ ≠ (.slice (some ad131) t128.length co11 : Value).ownBlock ∧ some k_ ≠ (.slice Ao21 y133.length co21 : Value).ownBlock ∧ some k_ ≠ ((Value.slice A137 t136.length c137) : Value).ownBlock)) (by (with_reducible repeat (first | apply Kd.V_alloc | apply Kd.V_drewN | apply Kd.V_drew)); exact Kd.V_mono HL132_0.out (fun _ hk => ⟨⟨hk.1.1.1, ⟨hk.1.1.2.2, ⟨hk.1.2, hk.2⟩⟩⟩, hk.1.1.2.1⟩)) hg (.inl rfl)); have n5_ := Aside0.mk (Kd.N_afterv (v := (.slice (some ⟨go18, 0, none⟩) x5_1.length co18)) (v1 := (.slice (some ⟨go18, 0, none⟩) x5_1.length co18)) (ok := (fun k_ => (P0_ k_ ∨ w.heap.size ≤ k_) ∧ some k_ ≠ (.slice (some ad131) t128.length co11 : Value).ownBlock ∧ some k_ ≠ ((Value.slice A137 t136.length c137) : Value).ownBlock)) (by (with_reducible repeat (first | apply Kd.N_alloc | apply Kd.N_drewN | apply Kd.N_drew)); exact Kd.N_mono HO135.out (fun _ hk => ⟨⟨hk.1.1, ⟨hk.1.2.2, hk.2⟩⟩, hk.1.2.1⟩)) hg (.inl rfl)); have n6_ := Aside0.mk ((by rw [hw]; exact below_set (HB.out) GB18.out : Below w.heap.size w w24)); clear HO_0; clear HO_5; clear HO_18; clear HL131_0; clear HL132_0; clear HO135; clear HB; clear HO138; have HO_0 := n0_; have HO_5 := n1_; have HO_18 := n2_; have HL131_0 := n3_; have HL132_0 := n4_; have HO135 := n5_; have HB := n6_; clear n0_ n1_ n2_ n3_ n4_ n5_ n6_; clear hg hw hp_))
                      go_roundg k1
                      case measure => have := HK1.out; omega
                      case rel => exact ⟨(y139), (wrap64 (x20_1 + 1)), (by first | rfl | (simp; done) | (simp [*]; done)), H', ⟨by have := HK1.out; omega⟩, ⟨by (with_reducible repeat (first | apply Kd.V_alloc | apply Kd.V_drewN | apply Kd.V_drew)); exact Kd.V_mono HO_0.out (fun _ hk => ⟨hk.1.1, ⟨hk.2, hk.1.2.1⟩⟩)⟩, ⟨by (with_reducible repeat (first | apply Kd.N_alloc | apply Kd.N_drewN | apply Kd.N_drew)); exact Kd.N_mono HO_5.out (fun _ hk => ⟨hk.1, hk.2.1⟩)⟩, ⟨by (with_reducible repeat (first | apply Kd.N_alloc | apply Kd.N_drewN | apply Kd.N_drew)); exact Kd.N_mono HO_18.out (fun _ hk => ⟨hk.1.1, hk.2⟩)⟩, ⟨by repeat (first | (with_reducible first | exact HB.out | apply below_alloc | apply pw_below_drewN | apply below_drew1) | exact HB.out)⟩⟩
                    · rw [if_neg c17] at H
                      exact absurd H (by simp)
                  · rw [if_neg c15] at H
                    exact absurd H (by simp)
                · rw [if_neg c14] at H
                  exact absurd H (by simp)
              · rw [if_neg c13] at H
                exact absurd H (by simp)
            · rw [if_neg c12] at H
              have c12b0 : decide (x20_1 < (t128.length : Int)) = false := decide_eq_false c12
              clear c12
              simp only [Option.some.injEq, Prod.mk.injEq] at H
              obtain ⟨rfl, rfl⟩ := H
              obtain ⟨W, hWe, hWl, hW64, hWr⟩ := HW.out rfl
              subst hWe
              obtain ⟨A5, c5, e5⟩ := Kd.N_slice HO_5.out
              subst e5
              have hrd := Kd.N_reads' HO_5.out
              have hUU : l0.length = (up2 W).length := by rw [up2_length, hWl]
              have HRD := Aside0.mk (show Kd.C (Kd.slice 5 (Kd.int .u8)) wr A5 l0.length (up2 W) by rw [hUU]; exact hrd.2.2)
              have HRC := Aside0.mk (show l0.length ≤ c5 by rw [hUU]; exact hrd.2.1)
              have HUU := Aside0.mk hUU
              have HWR := Aside0.mk hWr
              have HWL := Aside0.mk hWl
              have HW64 := Aside0.mk hW64
              have H0 := Aside0.mk (show W = [] → l0.length = 0 from fun h => by rw [← hWl, h]; rfl)
              have hs : w.heap.size ≤ wr.heap.size := HB.out.size
              have hul := up2_length W
              clear hrd hWr hUU HO_0 HO_5 HO_18
              by_cases hlt : (elimRun W l0.length).2.1.length < l0.length
              · have hd : decide (((elimRun W l0.length).2.1.length : Int) < (l0.length : Int)) = true := decide_eq_true (by omega)
                go_wp2_with (first | (go_at_call 62; (with_reducible refine (eliminate_calls' _ _ W l0.length (l0.length + l0.length) _ HUU.out HRD.out HRC.out HWR.out (by omega) (by have := HW64.out; omega) (by have := HWL.out; have := HW64.out; omega) H0.out).mono ?_); rintro e w3 ⟨gx, rfl, hE, hB3⟩; obtain ⟨vr, vp, hg, hS, hP⟩ := hE.out; obtain ⟨A4, c4, rfl⟩ := Kd.S_slice hS; obtain ⟨A6, c6, rfl⟩ := Kd.R_slice hP; rw [show (natInts (elimRun W l0.length).2.1).length = (elimRun W l0.length).2.1.length from List.length_map _] at hg hP; have hx0 : w3.cell? ⟨gx, 0, none⟩ = some (.slice A4 (up2 (elimRun W l0.length).1).length c4) := (by rw [blk_cell hg]; rfl); have hx1 : w3.cell? ⟨gx, 1, none⟩ = some (.slice A6 (elimRun W l0.length).2.1.length c6) := (by rw [blk_cell hg]; rfl); have HS := Aside0.mk hS; have HP := Aside0.mk hP; have HG := Aside0.mk hg; have HB3 := Aside0.mk hB3; clear hE hg hS hP hB3))
                go_ret2
                exact ⟨.slice none 0 0, by rw [show invCode (up2 W) 0 l0.length = 4 by unfold invCode invE; rw [if_pos rfl, toB2_up2, if_pos hlt]]; rfl, by rw [show invVal (up2 W) 0 l0.length = [] by unfold invVal invE; rw [if_pos rfl, toB2_up2, if_pos hlt]]; exact Kd.S_nil _ _ _ _ _, HB.out.trans (HB3.out.mono hs)⟩
              · have hd : decide (((elimRun W l0.length).2.1.length : Int) < (l0.length : Int)) = false := decide_eq_false (by omega)
                have HIC := Aside0.mk (show invCode (up2 W) 0 l0.length = 0 by unfold invCode invE; rw [if_pos rfl, toB2_up2, if_neg hlt])
                have HIV := Aside0.mk (show invVal (up2 W) 0 l0.length = up2 (invU (elimRun W l0.length).1 l0.length l0.length) by unfold invVal invE; rw [if_pos rfl, toB2_up2, if_neg hlt])
                go_wp2_with (first | (go_at_call 62; (with_reducible refine (eliminate_calls' _ _ W l0.length (l0.length + l0.length) _ HUU.out HRD.out HRC.out HWR.out (by omega) (by have := HW64.out; omega) (by have := HWL.out; have := HW64.out; omega) H0.out).mono ?_); rintro e w3 ⟨gx, rfl, hE, hB3⟩; obtain ⟨vr, vp, hg, hS, hP⟩ := hE.out; obtain ⟨A4, c4, rfl⟩ := Kd.S_slice hS; obtain ⟨A6, c6, rfl⟩ := Kd.R_slice hP; rw [show (natInts (elimRun W l0.length).2.1).length = (elimRun W l0.length).2.1.length from List.length_map _] at hg hP; have hx0 : w3.cell? ⟨gx, 0, none⟩ = some (.slice A4 (up2 (elimRun W l0.length).1).length c4) := (by rw [blk_cell hg]; rfl); have hx1 : w3.cell? ⟨gx, 1, none⟩ = some (.slice A6 (elimRun W l0.length).2.1.length c6) := (by rw [blk_cell hg]; rfl); have HS := Aside0.mk hS; have HP := Aside0.mk hP; have HG := Aside0.mk hg; have HB3 := Aside0.mk hB3; clear hE hg hS hP hB3))
                have HER := Aside0.mk (elimRun_rows HWR.out l0.length)
                have HEL := Aside0.mk (show (elimRun W l0.length).1.length = l0.length by rw [elimRun_length, HWL.out])
                have HBX := Aside0.mk (HB.out.trans (HB3.out.mono hs))
                have HSX := Aside0.mk (Kd.S_lower HS.out hs)
                have HBG := Aside0.mk HG.out
                clear hd hx0 hx1 HB3 HS HG HRD HRC H0 HP hs
                generalize elimRun W l0.length = E at HIV HER HEL HSX HBG ⊢
                clear hlt
                generalize hdet : b2i E.2.2 = det at HBG ⊢
                generalize hpl : E.2.1.length = np at HBG ⊢
                rw [show (up2 E.1).length = l0.length by rw [up2_length]; exact HEL.out] at HSX HBG ⊢
                have hSS := HSX.out
                rw [show up2 E.1 = up2 (invU E.1 l0.length 0) by rw [invU_zero]] at hSS
                have HSS := Aside0.mk hSS
                clear hSS HSX hdet hpl
                go_loopw [9, 51] (fun _ v51 wz => ∃ i : Nat, i ≤ l0.length ∧ v51 = .int .i64 (i : Int) ∧ Aside0 (wz.heap[gx]? = some (.cells #[.slice A4 l0.length c4, .slice A6 np c6, .int .u8 det] 80 (0, 0)) ∧ Kd.S D 34 wz w.heap.size (fun _ => True) (.slice A4 l0.length c4) (up2 (invU E.1 l0.length i)) ∧ Below w.heap.size w wz)) (fun _ v51 _ => l0.length - (intOf v51).toNat)
                case atStart => exact ⟨0, by omega, rfl, ⟨HBG.out, HSS.out, HBX.out⟩⟩
                case round =>
                  clear HBG HSS HBX
                  obtain ⟨i, hi, rfl, HA⟩ := hrel
                  have hn32 : l0.length ≤ 32 := HW64.out
                  by_cases hi2 : i < l0.length
                  · have hiE : i < E.1.length := by rw [HEL.out]; exact hi2
                    obtain ⟨gr, cr, er, hgrb, hgrl, cls, hcls⟩ := Kd.S_form HA.out.2.1 (by rw [up2_length, invU_length]; omega)
                    injection er with er ern erc
                    subst er
                    obtain ⟨Ai, ci, hxi, hli, hCi, hfi⟩ := S_slot HA.out.2.1 i hi2
                    have hrow : (up2 (invU E.1 l0.length i)).getD i [] = up (E.1.getD i []) := by rw [getD_up2, invU_get _ _ _ hiE, if_neg (Nat.lt_irrefl i)]
                    rw [hrow] at hxi hli hCi
                    have hrr := HER.out _ (getD_mem' hiE)
                    have HST := Aside0.mk (invU_step E.1 l0.length i hiE)
                    generalize hrg : E.1.getD i [] = rr at hxi hli hCi hrr
                    have HRG := Aside0.mk hrg
                    have hul2 : (up rr).length = l0.length + l0.length := by rw [up_length, hrr]
                    have hC7 := Kd.C_drop (m := l0.length) (c := ci) hCi (by omega) hli
                    obtain ⟨i0_, hi0_, hzz_⟩ := Option.map_eq_some_iff.1 info5
                    simp only [Prod.mk.injEq] at hzz_
                    have hcut := cut_from (P := Try.prog) 34 5 .i64 Try.underlying34 hi0_ 1 hzz_.2.1 Ai (l0.length + l0.length) ci (l0.length : Int) (by omega) (by omega)
                    rw [Int.toNat_natCast, show l0.length + l0.length - l0.length = l0.length by omega] at hcut
                    rw [show (Kd.int .u8).sz = 1 from rfl, up_drop] at hC7
                    have hl7 : l0.length ≤ ci - l0.length := by omega
                    rw [hul2] at hxi
                    generalize (if ci = l0.length then Ai else Ai.map (·.add (l0.length * 1))) = A7 at hcut hC7
                    generalize ci - l0.length = c7 at hcut hl7
                    have hlen7 : (up (rr.drop l0.length)).length = l0.length := by rw [up_length, List.length_drop, hrr]; omega
                    have HC7 := Aside0.mk hC7
                    have HL7 := Aside0.mk (show (up (rr.drop l0.length)).length ≤ c7 by omega)
                    have HLEN := Aside0.mk hlen7
                    have HCL := Aside0.mk (show slices_Clone_byte_byte.f (up (rr.drop l0.length)) = some (up (rr.drop l0.length)) by unfold slices_Clone_byte_byte.f; rw [if_pos (by omega)])
                    have hx0 : wr.cell? ⟨gx, 0, none⟩ = some (.slice (some ⟨gr, 0, none⟩) l0.length c4) := by rw [blk_cell HA.out.1]; rfl
                    have i0 : (0 : Int) ≤ (i : Int) := by omega
                    have i1 : (i : Int) < (l0.length : Int) := by omega
                    have HGRL := Aside0.mk hgrl
                    have HGRB := Aside0.mk hgrb
                    have HCLS := Aside0.mk hcls
                    clear hC7 hl7 hlen7 hCi hli hrow hrr hrg hul2 hzz_ hi0_ hgrl hgrb hcls ern erc hiE
                    go_wp2
                    refine start_ (n := 17) (S := fun w' => w'.cell? ⟨gx, 0, none⟩ = some (.slice (some ⟨gr, 0, none⟩) l0.length c4) ∧ w'.cell? ⟨gr, i, none⟩ = some (.slice Ai (l0.length + l0.length) ci)) (ds := [16]) #[false, false, false, false, false, false, false, false, false, false, false, false, false, false, false, false, false] (by kernel_rfl) rfl rfl ⟨hx0, hxi⟩ (fun hHeld => ?_)
                    refine with_tabW f42.tab16 f42.bits16 (fun HT_ HW_ => ?_)
                    replace hfi : wr.drew.frozen? ⟨gr, i, none⟩ = false := hfi
                    replace HC7 := Aside0.mk (Kd.C_drew HC7.out)
                    have HG1 := Aside0.mk (show wr.drew.heap[gx]? = _ from HA.out.1)
                    have HS1 := Aside0.mk (Kd.S_drew HA.out.2.1)
                    have HB1 := Aside0.mk (below_drew HA.out.2.2)
                    replace HGRL := Aside0.mk (show gr < wr.drew.heap.size from HGRL.out)
                    replace HCLS := Aside0.mk (show wr.drew.heap[gr]? = _ from HCLS.out)
                    clear hx0 hxi
                    generalize wr.drew = W1 at hfi HC7 HG1 HS1 HB1 HGRL HCLS hHeld ⊢
                    refine pure_ (i := 0) (N := some 54) (v := ?_) (a' := ?_) #[true, false, false, false, false, false, false, false, false, false, false, false, false, false, false, false, false] rfl rfl (any_of HT_.out (by kernel_rfl)) (fun _ _ _ h => h) (Or.inl ⟨by rfl, ?_⟩) ?_ ?_
                    rotate_left
                    · intro w'
                      go_simp
                      with_reducible rfl
                    rotate_left
                    · simp only [Act.put, List.setIfInBounds_toArray, List.set_cons_zero, List.set_cons_succ, i64_w, i32_w]
                      rfl
                    refine pure_ (i := 1) (N := some 55) (v := ?_) (a' := ?_) #[true, true, false, false, false, false, false, false, false, false, false, false, false, false, false, false, false] rfl rfl (any_of HT_.out (by kernel_rfl)) (fun _ _ _ h => h) (Or.inl ⟨by rfl, ?_⟩) ?_ ?_
                    rotate_left
                    · intro w'
                      go_simp
                      with_reducible rfl
                    rotate_left
                    · simp only [Act.put, List.setIfInBounds_toArray, List.set_cons_zero, List.set_cons_succ, i64_w, i32_w]
                      rfl
                    refine pure_ (i := 2) (N := some 56) (v := ?_) (a' := ?_) #[true, true, true, false, false, false, false, false, false, false, false, false, false, false, false, false, false] rfl rfl (any_of HT_.out (by kernel_rfl)) (fun _ _ _ h => h) (Or.inl ⟨by rfl, ?_⟩) ?_ ?_
                    rotate_left
                    · intro w'
                      go_simp
                      with_reducible rfl
                    rotate_left
                    · simp only [Act.put, List.setIfInBounds_toArray, List.set_cons_zero, List.set_cons_succ, i64_w, i32_w]
                      rfl
                    refine pure_ (i := 4) (N := some 58) (v := ?_) (a' := ?_) #[true, true, true, false, true, false, false, false, false, false, false, false, false, false, false, false, false] rfl rfl (any_of HT_.out (by kernel_rfl)) (fun _ _ _ h => h) (Or.inl ⟨by rfl, ?_⟩) ?_ ?_
                    rotate_left
                    · intro w'
                      go_simp
                      with_reducible rfl
                    rotate_left
                    · simp only [Act.put, List.setIfInBounds_toArray, List.set_cons_zero, List.set_cons_succ, i64_w, i32_w]
                      rfl
                    refine pure_ (i := 5) (N := some 59) (v := ?_) (a' := ?_) #[true, true, true, false, true, true, false, false, false, false, false, false, false, false, false, false, false] rfl rfl (any_of HT_.out (by kernel_rfl)) (fun _ _ _ h => h) (Or.inl ⟨by rfl, ?_⟩) ?_ ?_
                    rotate_left
                    · intro w'
                      go_simp
                      with_reducible rfl
                    rotate_left
                    · simp only [Act.put, List.setIfInBounds_toArray, List.set_cons_zero, List.set_cons_succ, i64_w, i32_w]
                      rfl
                    refine pure_ (i := 6) (N := some 60) (v := ?_) (a' := ?_) #[true, true, true, false, true, true, true, false, false, false, false, false, false, false, false, false, false] rfl rfl (any_of HT_.out (by kernel_rfl)) (fun _ _ _ h => h) (Or.inl ⟨by rfl, ?_⟩) ?_ ?_
                    rotate_left
                    · intro w'
                      go_simp
                      with_reducible rfl
                    rotate_left
                    · simp only [Act.put, List.setIfInBounds_toArray, List.set_cons_zero, List.set_cons_succ, i64_w, i32_w]
                      rfl
                    refine pure_ (i := 7) (N := some 61) (v := ?_) (a' := ?_) #[true, true, true, false, true, true, true, true, false, false, false, false, false, false, false, false, false] rfl rfl (any_of HT_.out (by kernel_rfl)) (fun _ _ _ h => h) (Or.inl ⟨by rfl, ?_⟩) ?_ ?_
                    rotate_left
                    · intro w'
                      go_simp
                      with_reducible rfl
                    rotate_left
                    · simp only [Act.put, List.setIfInBounds_toArray, List.set_cons_zero, List.set_cons_succ, i64_w, i32_w]
                      rfl
                    refine pure_ (i := 9) (N := some 63) (v := ?_) (a' := ?_) #[true, true, true, false, true, true, true, true, false, true, false, false, false, false, false, false, false] rfl rfl (any_of HT_.out (by kernel_rfl)) (fun _ _ _ h => h) (Or.inl ⟨by rfl, ?_⟩) ?_ ?_
                    rotate_left
                    · intro w'
                      go_simp
                      with_reducible rfl
                    rotate_left
                    · simp only [Act.put, List.setIfInBounds_toArray, List.set_cons_zero, List.set_cons_succ, i64_w, i32_w]
                      rfl
                    refine pure_ (i := 12) (N := some 66) (v := ?_) (a' := ?_) #[true, true, true, false, true, true, true, true, false, true, false, false, true, false, false, false, false] rfl rfl (any_of HT_.out (by kernel_rfl)) (fun _ _ _ h => h) (Or.inl ⟨by rfl, ?_⟩) ?_ ?_
                    rotate_left
                    · intro w'
                      go_simp
                      with_reducible rfl
                    rotate_left
                    · simp only [Act.put, List.setIfInBounds_toArray, List.set_cons_zero, List.set_cons_succ, i64_w, i32_w]
                      rfl
                    refine take_ (i := 3) (N := some 57) (v := ?_) (a' := ?_) #[true, true, true, true, true, true, true, true, false, true, false, false, true, false, false, false, false] rfl rfl (take_ofW HT_.out HW_.out (by kernel_rfl)) (fun _ _ _ h => h) (Or.inl ⟨by rfl, ?_⟩) hHeld ?_ ?_
                    rotate_left
                    · rintro w' ⟨s0, s1⟩
                      go_simp
                      with_reducible rfl
                    rotate_left
                    · simp only [Act.put, List.setIfInBounds_toArray, List.set_cons_zero, List.set_cons_succ, i64_w, i32_w]
                      rfl
                    refine take_ (i := 8) (N := some 62) (v := ?_) (a' := ?_) #[true, true, true, true, true, true, true, true, true, true, false, false, true, false, false, false, false] rfl rfl (take_ofW HT_.out HW_.out (by kernel_rfl)) (fun _ _ _ h => h) (Or.inl ⟨by rfl, ?_⟩) hHeld ?_ ?_
                    rotate_left
                    · rintro w' ⟨s0, s1⟩
                      go_simp
                      with_reducible rfl
                    rotate_left
                    · simp only [Act.put, List.setIfInBounds_toArray, List.set_cons_zero, List.set_cons_succ, i64_w, i32_w]
                      rfl
                    refine pure_ (i := 10) (N := some 64) (v := ?_) (a' := ?_) #[true, true, true, true, true, true, true, true, true, true, true, false, true, false, false, false, false] rfl rfl (any_of HT_.out (by kernel_rfl)) (fun _ _ _ h => h) (Or.inl ⟨by rfl, ?_⟩) ?_ ?_
                    rotate_left
                    · intro w'
                      go_simp
                      with_reducible rfl
                    rotate_left
                    · simp only [Act.put, List.setIfInBounds_toArray, List.set_cons_zero, List.set_cons_succ, i64_w, i32_w]
                      rfl
                    refine take_ (i := 11) (N := some 65) (v := ?_) (a' := ?_) #[true, true, true, true, true, true, true, true, true, true, true, true, true, false, false, false, false] rfl rfl (take_ofW HT_.out HW_.out (by kernel_rfl)) (fun _ _ _ h => h) (Or.inl ⟨by rfl, ?_⟩) hHeld ?_ ?_
                    rotate_left
                    · rintro w' ⟨s0, s1⟩
                      go_simp
                      with_reducible rfl
                    rotate_left
                    · simp only [Act.put, List.setIfInBounds_toArray, List.set_cons_zero, List.set_cons_succ, i64_w, i32_w]
                      rfl
                    refine one_ (i := 13) (N := some 67) #[true, true, true, true, true, true, true, true, true, true, true, true, true, true, false, false, false] rfl rfl (one_of HT_.out (by kernel_rfl)) (by decide) (fun K hK => ?_)
                    refine event_step (v := .slice A7 l0.length c7) (w1 := W1) (by rfl) (by first | (go_simp; done) | (go_simp; rfl) | (simp [execOp, hcut, Act.eval, Act.put]; done)) ?_
                    refine hK.out _ _ hHeld (fun hHeld => ?_)
                    clear hK K
                    refine norm_ (a' := ?_) ?_ ?_
                    rotate_left
                    · show Act.put _ (some 67) _ = _
                      simp only [Act.put, List.setIfInBounds_toArray, List.set_cons_zero, List.set_cons_succ, i64_w, i32_w]
                      rfl
                    refine one_ (i := 14) (N := some 68) #[true, true, true, true, true, true, true, true, true, true, true, true, true, true, true, false, false] rfl rfl (one_of HT_.out (by kernel_rfl)) (by decide) (fun K hK => ?_)
                    refine goes_ Try.func63 (by kernel_rfl) rfl #[.slice A7 l0.length c7] (by rfl) rfl rfl (by (try simp only [List.map_toArray, List.map_cons, List.map_nil]); first | done | rfl | (simp only [List.length_drop, List.length_take]; rfl)) ?_
                    have hcl_ := slices_Clone_byte_byte.calls A7 c7 (up (rr.drop l0.length)) (up (rr.drop l0.length)) W1 HC7.out HL7.out HCL.out
                    rw [HLEN.out] at hcl_
                    refine hcl_.mono ?_
                    rintro e w6 ⟨v6, rfl, hR6, hB6⟩
                    refine ⟨_, rfl, ?_⟩
                    obtain ⟨A8, c8, rfl⟩ := Kd.R_slice hR6
                    have HR6 := Aside0.mk hR6
                    have HB6 := Aside0.mk hB6
                    have hfg6 := (hB6.frozen HGRL.out).trans hfi
                    clear hcl_ hR6 hB6
                    refine hK.out _ _ ⟨(HB6.out.cell (World.block_lt_of_cell? W1 _ hHeld.1)).trans hHeld.1, (HB6.out.cell (World.block_lt_of_cell? W1 _ hHeld.2)).trans hHeld.2⟩ (fun hHeld => ?_)
                    clear hK K
                    refine norm_ (a' := ?_) ?_ ?_
                    rotate_left
                    · show Act.put _ (some 68) _ = _
                      simp only [Act.put, List.setIfInBounds_toArray, List.set_cons_zero, List.set_cons_succ, i64_w, i32_w]
                      rfl
                    refine pure_ (i := 15) (N := some 69) (v := ?_) (a' := ?_) #[true, true, true, true, true, true, true, true, true, true, true, true, true, true, true, true, false] rfl rfl (any_of HT_.out (by kernel_rfl)) (fun _ _ _ h => h) (Or.inl ⟨by rfl, ?_⟩) ?_ ?_
                    rotate_left
                    · intro w'
                      go_simp
                      with_reducible rfl
                    rotate_left
                    · simp only [Act.put, List.setIfInBounds_toArray, List.set_cons_zero, List.set_cons_succ, i64_w, i32_w]
                      rfl
                    refine last_ (i := 16) (N := none) #[true, true, true, true, true, true, true, true, true, true, true, true, true, true, true, true, true] rfl rfl (one_of HT_.out (by kernel_rfl)) (by decide) (fun K hK => ?_)
                    refine skip_ (w1 := ?_) (by rfl) rfl ?_ ?_
                    rotate_left
                    · go_simp
                      rfl
                    refine hK.out _ _ ?_
                    clear hK K
                    refine done_ (done_of HT_.out (by kernel_rfl)) ?_
                    have hne : gx ≠ gr := by
                      intro e
                      have h1 := HG1.out
                      rw [e, HCLS.out] at h1
                      simp at h1
                    have hsf := S_put_fresh HS1.out HB6.out HR6.out HB1.out.size HGRL.out (i : Int) (by omega) (by omega)
                    have hst := HST.out
                    rw [HRG.out] at hst
                    rw [Int.toNat_natCast, set_up2, hst] at hsf
                    have HSG := Aside0.mk hsf
                    have HBF := Aside0.mk ((HB1.out.trans (HB6.out.mono HB1.out.size)).setCell (p := ⟨gr, i, none⟩) HGRB.out (.slice A8 (up (rr.drop l0.length)).length c8))
                    have HGF := Aside0.mk (blk_far (p := ⟨gr, i, none⟩) ((HB6.out.block gx (blk_lt HG1.out)).trans HG1.out) hne (.slice A8 (up (rr.drop l0.length)).length c8))
                    clear hsf hst hHeld hfg6 hfi hcut
                    go_wp2
                    go_roundw
                    case rel => exact ⟨i + 1, by omega, by go_num, ⟨HGF.out, HSG.out, HBF.out⟩⟩
                    case measure => simp [intOf]; omega
                  · obtain rfl : i = l0.length := by omega
                    have hx0 : wr.cell? ⟨gx, 0, none⟩ = some (.slice A4 l0.length c4) := by rw [blk_cell HA.out.1]; rfl
                    go_wp2
                    go_ret2
                    exact ⟨.slice A4 l0.length c4, by rw [HIC.out]; rfl, by rw [HIV.out]; exact HA.out.2.1, HA.out.2.2⟩
      · rw [if_neg c5] at H
        exact absurd H (by simp)
    · rw [if_neg c4] at H
      exact absurd H (by simp)
  · replace c3 := Bool.eq_false_iff.mpr c3
    subst c3
    have H1 : (some (([] : List (List Int)), 1)) = some (r1, r2) := by rw [if_neg (show ¬ (false = true) by decide)] at H; exact H
    clear H
    have H := H1
    clear H1
    simp only [Option.some.injEq, Prod.mk.injEq] at H
    obtain ⟨rfl, rfl⟩ := H
    go_enter Try.func42, Try.ntmps42
    go_wp2_with (first | ((with_reducible refine gate_callee (f := 67) rfl ?_); refine goesL_ (some 11) rfl rfl Try.func67 (by kernel_rfl) rfl #[.slice A0 l0.length c0] rfl (by (try simp only [List.map_toArray, List.map_cons, List.map_nil]); first | done | rfl | (simp only [List.length_drop, List.length_take]; rfl)) ?_; (with_reducible refine (matrix_square.calls _ _ l0 false _ ?side1 ?side2 A2.out).mono ?_); (case side1 => repeat (first | exact (Kd.V_reads' HO0.out).2.2 | (with_reducible refine Kd.C_alloc ?_ _) | (with_reducible refine Kd.C_drewN ?_ _) | (with_reducible refine Kd.C_drew ?_))); (case side2 => exact (Kd.V_reads' HO0.out).2.1); rintro e w25 ⟨rfl, hb⟩; refine ⟨_, rfl, ?_⟩; have n0_ := Aside0.mk (Kd.V_below (by (with_reducible repeat (first | apply Kd.V_alloc | apply Kd.V_drewN | apply Kd.V_drew)); exact HO0.out) hb); have n1_ := Aside0.mk (below_step (by repeat (first | (with_reducible first | exact HB.out | apply below_alloc | apply pw_below_drewN | apply below_drew1) | exact HB.out)) hb); clear HO0; clear HB; have HO0 := n0_; have HB := n1_; clear n0_ n1_; (try clear hb); (try clear hb2); (try clear hk); (try clear hi)))
    go_ret2
    exact ⟨_, by first | rfl | (simp [invCode]; done), by first | exact Kd.S_nil _ _ _ _ _ | (simp only [invVal]; exact Kd.S_nil _ _ _ _ _), by repeat (first | (with_reducible first | exact HB.out | apply below_alloc | apply pw_below_drewN | apply below_drew1) | exact HB.out)⟩
end Go.Proofs.Ytpkghpljgjlmjaa.K
/- An argument that is a list of bytes or of ints, opened. -/
namespace Go.Proofs.Ytpkghpljgjlmjaa.K
open Go.RowKit Go.WideShapes Go.ChangeShapes Go.ChangeAt Go.Proofs.YtpkghpljgjlmjaaW.PrintWords Go.Proofs.YtpkghpljgjlmjaaW.PrintLast Go.Proofs.YtpkghpljgjlmjaaW.PrintMore
set_option linter.unusedVariables false
theorem C_of_cells {k : IntKind} {W : World} {x : Addr} {len cap : Nat} {zs : List Int} (hl : len ≤ cap) (hm : cap ≤ maxLen) (hz : zs.length = cap) (hcell : ∀ i, i < zs.length → W.cell? (x.add i) = some (.int k (zs.getD i 0))) :
    len = (zs.take len).length ∧ (zs.take len).length ≤ cap ∧ Kd.C (Kd.int k) W (some x) (zs.take len).length (zs.take len) := by
  have hlen : (zs.take len).length = len := by rw [List.length_take]; omega
  refine ⟨hlen.symm, by omega, rfl, by rw [hlen]; have : cap ≤ 9223372036854775807 := hm; omega, fun hp => ⟨x, rfl, fun i y hi => ?_⟩⟩
  have hil : i < len := by
    have := (List.getElem?_eq_some_iff.1 hi).1
    rwa [hlen] at this
  have hy : y = zs.getD i 0 := by
    rw [List.getElem?_take_of_lt hil] at hi
    rw [List.getD_eq_getElem?_getD, hi]; rfl
  subst hy
  refine ⟨[.int k (zs.getD i 0)], rfl, rfl, fun j u hj => ?_⟩
  cases j with
  | zero =>
    simp only [List.getElem?_cons_zero, Option.some.injEq] at hj
    subst hj
    rw [show i * (Kd.int k).sz + 0 = i from by show i * 1 + 0 = i; omega]
    exact hcell i (by omega)
  | succ j => simp at hj
theorem bytes_of_trod {H : Type} {enc : TypeId × Value → H} {W : World} {a : Option Addr} {len cap : Nat} {d : DataW H} {p : List MemPlace} (h : DataW.Trod enc Try.prog W 0 (fun _ => true) true 34 (.slice a len cap) d p) :
    ∃ zs : List Int, len = zs.length ∧ zs.length ≤ cap ∧ Kd.C (Kd.int .u8) W a zs.length zs ∧ ∀ x ∈ zs, isB x = true := by
  obtain ⟨fuel, hf⟩ := h
  rcases open_ints Try.underlying34 Try.underlying5 (by kernel_rfl) hf with ⟨hcs, _⟩ | ⟨x, l, c, zs, hcs, _, hl, hm, hz, _, hcell, hwz⟩
  · simp [Value.cells] at hcs
    obtain ⟨rfl, rfl, rfl⟩ := hcs
    exact ⟨[], rfl, Nat.zero_le _, ⟨rfl, by decide, fun hp => absurd hp (by decide)⟩, fun x hx => by simp at hx⟩
  · simp [Value.cells] at hcs
    obtain ⟨rfl, rfl, rfl⟩ := hcs
    obtain ⟨h1, h2, h3⟩ := C_of_cells hl hm (by simpa using hz) hcell
    exact ⟨zs.take len, h1, h2, h3, fun y hy => isB_of_wf (hwz y (List.mem_of_mem_take hy))⟩
theorem V_of_C {w : World} {A : Option Addr} {c : Nat} {xs : List (List Int)} (h : Kd.C (Kd.slice 5 (Kd.int .u8)) w A xs.length xs) (hl : xs.length ≤ c) (base : Nat) : Kd.V (Kd.slice 5 (Kd.int .u8)) 34 w base (fun _ => True) (.slice A xs.length c) xs :=
  Kd.V_mk hl (fun W' hW => Kd.Heap.C (Kd.heap_slice 5 (Kd.heap_int .u8)) (fun k hk => hW k trivial hk) h)
end Go.Proofs.Ytpkghpljgjlmjaa.K
/- Identity, Cauchy and Vandermonde of the program and of the reference, plain. -/
namespace Go.Proofs.Ytpkghpljgjlmjaa.K
open Go.RowKit Go.Proofs.YtpkghpljgjlmjaaW.PrintWords Go.Proofs.YtpkghpljgjlmjaaW.PrintLast Go.Proofs.YtpkghpljgjlmjaaW.PrintMore Kin
set_option linter.unusedVariables false
def idR (n i a : Nat) : List B := (List.range n).map fun b => if a = b ∧ a < i then 1 else 0
def idUpto (n i : Nat) : List (List B) := (List.range n).map fun a => idR n i a
def idM (n : Nat) : List (List B) := (List.range n).map fun a => (List.range n).map fun b => if a = b then 1 else 0
theorem idUpto_length (n i : Nat) : (idUpto n i).length = n := by simp [idUpto]
theorem idR_length (n i a : Nat) : (idR n i a).length = n := by simp [idR]
theorem idUpto_get (n i a : Nat) (ha : a < n) : (idUpto n i).getD a [] = idR n i a := by
  simp [idUpto, List.getD_eq_getElem?_getD, List.getElem?_map, List.getElem?_range ha]
theorem idUpto_zero (n : Nat) : idUpto n 0 = List.replicate n (List.replicate n 0) := by
  apply List.ext_getElem
  · simp [idUpto]
  · intro a h1 h2
    simp only [idUpto, idR, List.getElem_map, List.getElem_range, List.getElem_replicate]
    apply List.ext_getElem
    · simp
    · intro b h3 h4
      simp
theorem idUpto_all (n : Nat) : idUpto n n = idM n := by
  unfold idUpto idM idR
  apply List.map_congr_left
  intro a ha
  rw [List.mem_range] at ha
  apply List.map_congr_left
  intro b _
  by_cases h : a = b
  · rw [if_pos ⟨h, ha⟩, if_pos h]
  · rw [if_neg (fun e => h e.1), if_neg h]
theorem idUpto_step (n i : Nat) (hi : i < n) : (idUpto n i).set i (((idUpto n i).getD i []).set i 1) = idUpto n (i + 1) := by
  rw [idUpto_get _ _ _ hi]
  apply List.ext_getElem
  · simp [idUpto]
  · intro a h1 h2
    rw [List.getElem_set]
    simp only [idUpto, List.getElem_map, List.getElem_range]
    by_cases ha : i = a
    · subst ha
      rw [if_pos rfl]
      apply List.ext_getElem
      · simp [idR]
      · intro b h3 h4
        rw [List.getElem_set]
        simp only [idR, List.getElem_map, List.getElem_range]
        by_cases hb : i = b
        · subst hb
          rw [if_pos rfl, if_pos ⟨rfl, by omega⟩]
        · rw [if_neg hb, if_neg (fun e => hb e.1), if_neg (fun e => hb e.1)]
    · rw [if_neg ha]
      unfold idR
      apply List.map_congr_left
      intro b _
      congr 1
      rw [eq_iff_iff]
      omega
theorem wrap_nx (i : Nat) (h : i < 9223372036854775807) : wrap64 ((i : Int) + 1) = ((i + 1 : Nat) : Int) := by rw [wrap_small _ (by omega) (by omega)]; rfl
theorem identity_l0 (n : Nat) (hn : n ≤ 1000000) (m : Nat) : ∀ (k i : Nat), i + m = n → m < k → matrix_Identity.l0 k (up2 (idUpto n i)) (n : Int) (i : Int) = some (up2 (idM n)) := by
  induction m with
  | zero =>
    intro k i hi hk
    obtain ⟨k, rfl⟩ : ∃ j, k = j + 1 := ⟨k - 1, by omega⟩
    obtain rfl : i = n := by omega
    simp only [matrix_Identity.l0]
    rw [if_neg (by omega), idUpto_all]
  | succ m ih =>
    intro k i hi hk
    obtain ⟨k, rfl⟩ : ∃ j, k = j + 1 := ⟨k - 1, by omega⟩
    simp only [matrix_Identity.l0]
    rw [if_pos (by omega), if_pos (by omega), if_pos (by rw [up2_length, idUpto_length]; omega), rd_L1_up2, if_pos (by rw [up_length, idUpto_get _ _ _ (by omega), idR_length]; omega), wrap_nx _ (by omega), Int.toNat_natCast, ← b2i_one, set_up, set_up2, idUpto_step n i (by omega)]
    exact ih k (i + 1) (by omega) (by omega)
theorem identity_b (n : Nat) (hn : n ≤ 64) {k : Nat} (hk : n < k) : matrix_Identity.f k (n : Int) = some (up2 (idM n)) := by
  unfold matrix_Identity.f
  rw [size_eq, decide_eq_true hn]
  simp only [Option.bind_some, if_pos]
  rw [zero_eq n n (by omega) (by omega) hk, zeros_up2, ← idUpto_zero]
  simp only [Option.bind_some]
  rw [up2_length, idUpto_length]
  exact identity_l0 n (by omega) n k 0 (by omega) hk
theorem refidentity_l0 (n : Nat) (hn : n ≤ 1000000) (m : Nat) : ∀ (k i : Nat), i + m = n → m < k → kinkeepref04_Identity.l0 k (n : Int) (up2 (idUpto n i)) (i : Int) = some (up2 (idM n)) := by
  induction m with
  | zero =>
    intro k i hi hk
    obtain ⟨k, rfl⟩ : ∃ j, k = j + 1 := ⟨k - 1, by omega⟩
    obtain rfl : i = n := by omega
    simp only [kinkeepref04_Identity.l0]
    rw [if_neg (by omega), idUpto_all]
  | succ m ih =>
    intro k i hi hk
    obtain ⟨k, rfl⟩ : ∃ j, k = j + 1 := ⟨k - 1, by omega⟩
    simp only [kinkeepref04_Identity.l0]
    rw [if_pos (by omega), if_pos (by omega), if_pos (by rw [up2_length, idUpto_length]; omega), rd_L1_up2, if_pos (by rw [up_length, idUpto_get _ _ _ (by omega), idR_length]; omega), wrap_nx _ (by omega), Int.toNat_natCast, ← b2i_one, set_up, set_up2, idUpto_step n i (by omega)]
    exact ih k (i + 1) (by omega) (by omega)
theorem refidentity_b (n : Nat) (hn : n ≤ 64) {k : Nat} (hk : n < k) : kinkeepref04_Identity.f k (n : Int) = some (up2 (idM n)) := by
  unfold kinkeepref04_Identity.f
  rw [refzero_b n n (by omega) (by omega) hk, ← idUpto_zero]
  simp only [Option.bind_some]
  exact refidentity_l0 n (by omega) n k 0 (by omega) hk
end Go.Proofs.Ytpkghpljgjlmjaa.K
/- Sums and determinants over the field of 256 elements, matrices as functions. No program in sight. -/
namespace Kin
set_option linter.unusedVariables false

/-- The sum of f 0 to f (n-1). -/
def bsum : Nat → (Nat → B) → B
  | 0, _ => 0
  | n + 1, f => bsum n f ^^^ f n
theorem bsum_congr {n : Nat} {f g : Nat → B} (h : ∀ j, j < n → f j = g j) : bsum n f = bsum n g := by
  induction n with
  | zero => rfl
  | succ n ih => simp only [bsum]; rw [ih (fun j hj => h j (by omega)), h n (by omega)]
theorem bsum_add (n : Nat) (f g : Nat → B) : bsum n (fun j => f j ^^^ g j) = bsum n f ^^^ bsum n g := by
  induction n with
  | zero => exact (bx_self 0).symm
  | succ n ih => simp only [bsum]; rw [ih, bx_swap4]
theorem bsum_mul (n : Nat) (c : B) (f : Nat → B) : bsum n (fun j => gmul c (f j)) = gmul c (bsum n f) := by
  induction n with
  | zero => simp only [bsum]; rw [gmul_zero]
  | succ n ih => simp only [bsum]; rw [ih, gmul_add_right]
theorem bsum_mul_right (n : Nat) (c : B) (f : Nat → B) : bsum n (fun j => gmul (f j) c) = gmul (bsum n f) c := by
  rw [gmul_comm, ← bsum_mul]
  exact bsum_congr fun j _ => gmul_comm _ _
theorem bsum_zero {n : Nat} {f : Nat → B} (h : ∀ j, j < n → f j = 0) : bsum n f = 0 := by
  induction n with
  | zero => rfl
  | succ n ih => simp only [bsum]; rw [ih (fun j hj => h j (by omega)), h n (by omega), bx_self]
theorem bsum_one {n : Nat} {f : Nat → B} {p : Nat} (hp : p < n) (h : ∀ j, j < n → j ≠ p → f j = 0) : bsum n f = f p := by
  induction n with
  | zero => omega
  | succ n ih =>
    simp only [bsum]
    by_cases e : p = n
    · subst e
      rw [bsum_zero (fun j hj => h j (by omega) (by omega)), zero_bx]
    · rw [ih (by omega) (fun j hj hne => h j (by omega) hne), h n (by omega) (fun x => e x.symm), bx_zero]
/-- A symmetric double sum without a diagonal is 0. -/
theorem bsum_sym (n : Nat) (h : Nat → Nat → B) (hs : ∀ i j, i < n → j < n → h i j = h j i) (hd : ∀ i, i < n → h i i = 0) : bsum n (fun i => bsum n (fun j => h i j)) = 0 := by
  induction n with
  | zero => rfl
  | succ n ih =>
    rw [show bsum (n + 1) (fun i => bsum (n + 1) (fun j => h i j)) = bsum n (fun i => bsum n (fun j => h i j) ^^^ h i n) ^^^ (bsum n (fun j => h n j) ^^^ h n n) from rfl, bsum_add, ih (fun i j hi hj => hs i j (by omega) (by omega)) (fun i hi => hd i (by omega)), zero_bx, hd n (by omega), bx_zero, bsum_congr (g := fun j => h n j) (fun j hj => hs j n (by omega) (by omega)), bx_self]
/-- j, or the next number from c on. -/
def sk (c j : Nat) : Nat := if j < c then j else j + 1
theorem bsum_skip (n c : Nat) (hc : c ≤ n) (f : Nat → B) : bsum n (fun d => f (sk c d)) = bsum (n + 1) (fun e => if e = c then 0 else f e) := by
  induction n with
  | zero =>
    obtain rfl : c = 0 := by omega
    exact (bx_self 0).symm
  | succ n ih =>
    rw [show bsum (n + 1) (fun d => f (sk c d)) = bsum n (fun d => f (sk c d)) ^^^ f (sk c n) from rfl]
    by_cases e : c = n + 1
    · subst e
      rw [show bsum (n + 1 + 1) (fun e => if e = n + 1 then (0 : B) else f e) = bsum n (fun e => if e = n + 1 then (0 : B) else f e) ^^^ (if n = n + 1 then (0 : B) else f n) ^^^ (if n + 1 = n + 1 then (0 : B) else f (n + 1)) from rfl, if_neg (by omega), if_pos rfl, bx_zero, show sk (n + 1) n = n from if_pos (by omega)]
      congr 1
      exact bsum_congr fun j hj => by rw [if_neg (by omega), show sk (n + 1) j = j from if_pos (by omega)]
    · rw [ih (by omega), show bsum (n + 1 + 1) (fun e => if e = c then (0 : B) else f e) = bsum (n + 1) (fun e => if e = c then (0 : B) else f e) ^^^ (if n + 1 = c then (0 : B) else f (n + 1)) from rfl, if_neg (fun x => e x.symm), show sk c n = n + 1 from if_neg (by omega)]
/-- A matrix as a function. -/
abbrev Mx := Nat → Nat → B
def minor (A : Mx) (c : Nat) : Mx := fun i j => A (i + 1) (sk c j)
/-- The determinant by expansion. -/
def det : Nat → Mx → B
  | 0, _ => 1
  | n + 1, A => bsum (n + 1) (fun c => gmul (A 0 c) (det n (minor A c)))
def upd (A : Mx) (r : Nat) (v : Nat → B) : Mx := fun i j => if i = r then v j else A i j
theorem sk_lt {c j n : Nat} (h : j < n) : sk c j < n + 1 := by unfold sk; split <;> omega
theorem det_congr {n : Nat} : ∀ {A C : Mx}, (∀ i j, i < n → j < n → A i j = C i j) → det n A = det n C := by
  induction n with
  | zero => intro A C _; rfl
  | succ n ih =>
    intro A C h
    simp only [det]
    refine bsum_congr fun c hc => ?_
    rw [h 0 c (by omega) hc, ih (A := minor A c) (C := minor C c) (fun i j hi hj => h (i + 1) (sk c j) (by omega) (sk_lt hj))]
theorem minor_upd_zero (A : Mx) (v : Nat → B) (c : Nat) : minor (upd A 0 v) c = minor A c := by
  funext i j
  simp [minor, upd]
theorem minor_upd_succ (A : Mx) (r : Nat) (v : Nat → B) (c : Nat) : minor (upd A (r + 1) v) c = upd (minor A c) r (fun j => v (sk c j)) := by
  funext i j
  simp [minor, upd]
theorem upd_self (A : Mx) (r : Nat) : upd A r (A r) = A := by
  funext i j
  unfold upd
  split
  · rename_i h; rw [h]
  · rfl
theorem upd_upd (A : Mx) (r : Nat) (u v : Nat → B) : upd (upd A r u) r v = upd A r v := by
  funext i j
  unfold upd
  split <;> rfl
theorem upd_comm (A : Mx) {r s : Nat} (h : r ≠ s) (u v : Nat → B) : upd (upd A r u) s v = upd (upd A s v) r u := by
  funext i j
  unfold upd
  by_cases h1 : i = s
  · rw [if_pos h1, if_neg (by omega), if_pos h1]
  · rw [if_neg h1]
    by_cases h2 : i = r
    · rw [if_pos h2, if_pos h2]
    · rw [if_neg h2, if_neg h2, if_neg h1]
theorem upd_at (A : Mx) (r : Nat) (v : Nat → B) : upd A r v r = v := by
  funext j
  simp [upd]
theorem upd_ne (A : Mx) {r i : Nat} (v : Nat → B) (h : i ≠ r) : upd A r v i = A i := by
  funext j
  simp [upd, h]
/-- The determinant is linear in each row. -/
theorem det_lin {n : Nat} : ∀ (A : Mx) (r : Nat) (s t : B) (u v : Nat → B), r < n → det n (upd A r (fun j => gmul s (u j) ^^^ gmul t (v j))) = gmul s (det n (upd A r u)) ^^^ gmul t (det n (upd A r v)) := by
  induction n with
  | zero => intro A r s t u v h; omega
  | succ n ih =>
    intro A r s t u v hr
    simp only [det]
    rw [← bsum_mul, ← bsum_mul, ← bsum_add]
    refine bsum_congr fun c hc => ?_
    cases r with
    | zero =>
      rw [minor_upd_zero, minor_upd_zero, minor_upd_zero, upd_at, upd_at, upd_at, gmul_add_left, gmul_assoc, gmul_assoc]
    | succ r =>
      rw [minor_upd_succ, minor_upd_succ, minor_upd_succ, upd_ne _ _ (by omega), upd_ne _ _ (by omega), upd_ne _ _ (by omega), ih _ _ _ _ _ _ (by omega), gmul_add_right, gmul_left_comm, gmul_left_comm (A 0 c) t]
theorem det_add {n : Nat} (A : Mx) (r : Nat) (u v : Nat → B) (h : r < n) : det n (upd A r (fun j => u j ^^^ v j)) = det n (upd A r u) ^^^ det n (upd A r v) := by
  have := det_lin A r 1 1 u v h
  simp only [one_gmul] at this
  exact this
theorem det_scale {n : Nat} (A : Mx) (r : Nat) (s : B) (u : Nat → B) (h : r < n) : det n (upd A r (fun j => gmul s (u j))) = gmul s (det n (upd A r u)) := by
  have := det_lin A r s 0 u u h
  simp only [zero_gmul, bx_zero] at this
  exact this
/-- Two columns left out. -/
def sk2 (lo hi j : Nat) : Nat := if j < lo then j else if j + 1 < hi then j + 1 else j + 2
theorem sk_sk (c d j : Nat) : sk c (sk d j) = sk2 (min c (sk c d)) (max c (sk c d)) j := by
  unfold sk sk2
  by_cases h : d < c
  · rw [if_pos h, show min c d = d by omega, show max c d = c by omega]
    by_cases h1 : j < d
    · rw [if_pos h1, if_pos h1, if_pos (by omega)]
    · rw [if_neg h1, if_neg h1]
  · rw [if_neg h, show min c (d + 1) = c by omega, show max c (d + 1) = d + 1 by omega]
    by_cases h1 : j < d
    · rw [if_pos h1]
      by_cases h2 : j < c
      · rw [if_pos h2, if_pos h2]
      · rw [if_neg h2, if_neg h2, if_pos (by omega)]
    · rw [if_neg h1, if_neg (by omega), if_neg (by omega), if_neg (by omega)]
theorem det_eq01 {n : Nat} (A : Mx) (h : ∀ j, j < n + 2 → A 0 j = A 1 j) : det (n + 2) A = 0 := by
  have e : det (n + 2) A = bsum (n + 2) (fun c => bsum (n + 2) (fun e => if e = c then 0 else gmul (A 0 c) (gmul (A 0 e) (det n (fun i j => A (i + 2) (sk2 (min c e) (max c e) j)))))) := by
    rw [show det (n + 2) A = bsum (n + 2) (fun c => gmul (A 0 c) (det (n + 1) (minor A c))) from rfl]
    refine bsum_congr fun c hc => ?_
    rw [← bsum_skip (n + 1) c (by omega) (fun e => gmul (A 0 c) (gmul (A 0 e) (det n (fun i j => A (i + 2) (sk2 (min c e) (max c e) j))))), bsum_mul (n + 1) (A 0 c)]
    congr 1
    rw [show det (n + 1) (minor A c) = bsum (n + 1) (fun d => gmul (minor A c 0 d) (det n (minor (minor A c) d))) from rfl]
    refine bsum_congr fun d hd => ?_
    congr 1
    · show A (0 + 1) (sk c d) = A 0 (sk c d)
      exact (h _ (sk_lt hd)).symm
    · refine det_congr fun i j hi hj => ?_
      show A (i + 1 + 1) (sk c (sk d j)) = A (i + 2) _
      rw [sk_sk]
  rw [e]
  refine bsum_sym (n + 2) (fun c e => if e = c then 0 else gmul (A 0 c) (gmul (A 0 e) (det n (fun i j => A (i + 2) (sk2 (min c e) (max c e) j))))) (fun i j hi hj => ?_) (fun i hi => if_pos rfl)
  by_cases hij : i = j
  · subst hij; rfl
  · show (if j = i then _ else _) = (if i = j then _ else _)
    rw [if_neg (fun x => hij x.symm), if_neg hij, gmul_left_comm, Nat.min_comm, Nat.max_comm]
theorem det_eq_adj {n : Nat} : ∀ (r : Nat) (A : Mx), r + 1 < n → (∀ j, j < n → A r j = A (r + 1) j) → det n A = 0 := by
  induction n with
  | zero => intro r A h; omega
  | succ n ih =>
    intro r A hr h
    cases r with
    | zero =>
      obtain ⟨n, rfl⟩ : ∃ m, n = m + 1 := ⟨n - 1, by omega⟩
      exact det_eq01 A h
    | succ r =>
      simp only [det]
      refine bsum_zero fun c hc => ?_
      rw [ih r (minor A c) (by omega) (fun j hj => h (sk c j) (sk_lt hj)), gmul_zero]
def swp (A : Mx) (a b : Nat) : Mx := upd (upd A a (A b)) b (A a)
theorem swp_row (A : Mx) (a b i : Nat) : swp A a b i = A (if i = b then a else if i = a then b else i) := by
  funext j
  unfold swp upd
  by_cases h : i = b
  · rw [if_pos h, if_pos h]
  · rw [if_neg h, if_neg h]
    by_cases h2 : i = a
    · rw [if_pos h2, if_pos h2]
    · rw [if_neg h2, if_neg h2]
theorem det_swap_adj {n : Nat} (A : Mx) (r : Nat) (h : r + 1 < n) : det n (swp A r (r + 1)) = det n A := by
  have key : ∀ u v : Nat → B, det n (upd (upd A r u) (r + 1) v) = det n (upd (upd A r v) (r + 1) u) := by
    intro u v
    have z : ∀ w : Nat → B, det n (upd (upd A r w) (r + 1) w) = 0 := fun w => det_eq_adj r _ h (fun j hj => by rw [upd_ne _ _ (by omega), upd_at, upd_at])
    have h0 := z (fun j => u j ^^^ v j)
    rw [det_add _ _ _ _ h, upd_comm A (by omega), det_add _ _ _ _ (by omega), upd_comm A (by omega) (fun j => u j ^^^ v j) v, det_add _ _ _ _ (by omega), ← upd_comm A (by omega) u u, ← upd_comm A (by omega) v u, ← upd_comm A (by omega) u v, ← upd_comm A (by omega) v v, z u, z v, zero_bx, bx_zero] at h0
    have e1 : upd (upd A r u) (r + 1) v = upd (upd A (r + 1) v) r u := upd_comm A (by omega) u v
    have e2 : upd (upd A r v) (r + 1) u = upd (upd A (r + 1) u) r v := upd_comm A (by omega) v u
    rw [e1, e2]
    exact (bx_eq_zero.1 h0).symm
  unfold swp
  rw [key (A (r + 1)) (A r), upd_self]
  congr 1
  funext i j
  unfold upd
  split
  · rename_i h; rw [h]
  · rfl
theorem det_swap {n : Nat} (m : Nat) : ∀ (A : Mx) (a : Nat), a + m + 1 < n → det n (swp A a (a + m + 1)) = det n A := by
  induction m with
  | zero => intro A a h; exact det_swap_adj A a h
  | succ m ih =>
    intro A a h
    have e : swp A a (a + (m + 1) + 1) = swp (swp (swp A (a + m + 1) (a + m + 2)) a (a + m + 1)) (a + m + 1) (a + m + 2) := by
      funext i
      rw [swp_row, swp_row, swp_row, swp_row]
      congr 1
      repeat' split
      all_goals omega
    rw [e, det_swap_adj _ _ (by omega), ih _ _ (by omega), det_swap_adj _ _ (by omega)]
theorem swp_comm (A : Mx) (a b : Nat) : swp A a b = swp A b a := by
  unfold swp
  by_cases h : a = b
  · subst h; rfl
  · rw [upd_comm A h]
theorem swp_same (A : Mx) (a : Nat) : swp A a a = A := by
  unfold swp
  rw [upd_upd, upd_self]
theorem det_swp {n : Nat} (A : Mx) (a b : Nat) (ha : a < n) (hb : b < n) : det n (swp A a b) = det n A := by
  by_cases h : a = b
  · subst h; rw [swp_same]
  · by_cases h1 : a < b
    · have := det_swap (b - a - 1) A a (n := n) (by omega)
      rwa [show a + (b - a - 1) + 1 = b by omega] at this
    · have := det_swap (a - b - 1) A b (n := n) (by omega)
      rw [show b + (a - b - 1) + 1 = a by omega] at this
      rw [swp_comm]
      exact this
theorem det_eq_rows {n : Nat} (A : Mx) (a b : Nat) (hab : a ≠ b) (ha : a < n) (hb : b < n) (h : ∀ j, j < n → A a j = A b j) : det n A = 0 := by
  have main : ∀ a b, a < b → b < n → (∀ j, j < n → A a j = A b j) → det n A = 0 := by
    intro a b hlt hb h
    rw [← det_swp A (a + 1) b (by omega) hb]
    refine det_eq_adj a _ (by omega) (fun j hj => ?_)
    simp only [swp, upd]
    rw [if_neg (by omega), if_neg (by omega)]
    by_cases e : a + 1 = b
    · rw [if_pos e, h j hj, e]
    · rw [if_neg e, if_pos trivial, h j hj]
  by_cases h1 : a < b
  · exact main a b h1 hb h
  · exact main b a (by omega) ha (fun j hj => (h j hj).symm)
theorem det_addrow {n : Nat} (A : Mx) (i k : Nat) (c : B) (hi : i < n) (hk : k < n) (hik : i ≠ k) : det n (upd A i (fun j => A i j ^^^ gmul c (A k j))) = det n A := by
  have := det_lin A i 1 c (A i) (A k) hi
  simp only [one_gmul] at this
  rw [this, upd_self, det_eq_rows (upd A i (A k)) i k hik hi hk (fun j _ => by rw [upd_at, upd_ne _ _ (fun e => hik e.symm)]), gmul_zero, bx_zero]
end Kin
/- Row operations over the field of 256 elements, matrices as functions. No program in sight. -/
namespace Kin
set_option linter.unusedVariables false

/-- The product of two matrices, n elements in the middle. -/
def mulF (n : Nat) (A C : Mx) : Mx := fun i j => bsum n (fun t => gmul (A i t) (C t j))
/-- Rows k and q exchanged, row k times s, then for every other row i: plus g i times row k. -/
def rowop (k q : Nat) (s : B) (g : Nat → B) (A : Mx) : Mx := fun i j =>
  if i = k then gmul (swp A k q k j) s else swp A k q i j ^^^ gmul (gmul (swp A k q k j) s) (g i)
theorem rowop_eq (k q : Nat) (s : B) (g : Nat → B) (A : Mx) (j : Nat) : rowop k q s g A k j = gmul (swp A k q k j) s := if_pos rfl
theorem rowop_ne {k q : Nat} (s : B) (g : Nat → B) (A : Mx) {i : Nat} (h : i ≠ k) (j : Nat) : rowop k q s g A i j = swp A k q i j ^^^ gmul (gmul (swp A k q k j) s) (g i) := if_neg h
def idF : Mx := fun i j => if i = j then 1 else 0
theorem idF_eq (i : Nat) : idF i i = 1 := if_pos rfl
theorem idF_ne {i j : Nat} (h : i ≠ j) : idF i j = 0 := if_neg h
theorem swp_le {a b i len : Nat} (ha : a < len) (hb : b < len) (hi : i < len) : (if i = b then a else if i = a then b else i) < len := by
  split
  · exact ha
  · split
    · exact hb
    · exact hi
theorem swp_mul (n : Nat) (A C : Mx) (a b : Nat) : swp (mulF n A C) a b = mulF n (swp A a b) C := by
  funext i j
  rw [swp_row]
  unfold mulF
  rw [swp_row]
theorem rowop_mul (n k q : Nat) (s : B) (g : Nat → B) (A C : Mx) : rowop k q s g (mulF n A C) = mulF n (rowop k q s g A) C := by
  funext i j
  by_cases h : i = k
  · subst h
    rw [rowop_eq, swp_mul]
    unfold mulF
    rw [← bsum_mul_right]
    refine bsum_congr fun t _ => ?_
    rw [rowop_eq, gmul_assoc, gmul_assoc, gmul_comm s]
  · rw [rowop_ne _ _ _ h, swp_mul]
    unfold mulF
    rw [← bsum_mul_right, ← bsum_mul_right, ← bsum_add]
    refine bsum_congr fun t _ => ?_
    rw [rowop_ne _ _ _ h, gmul_add_left]
    congr 1
    simp only [gmul_assoc, gmul_comm, gmul_left_comm]
theorem rowop_add (k q : Nat) (s : B) (g : Nat → B) (A C : Mx) : rowop k q s g (fun i j => A i j ^^^ C i j) = fun i j => rowop k q s g A i j ^^^ rowop k q s g C i j := by
  funext i j
  unfold rowop
  by_cases h : i = k
  · rw [if_pos h, if_pos h, if_pos h]
    simp only [swp_row]
    rw [gmul_add_left]
  · rw [if_neg h, if_neg h, if_neg h]
    simp only [swp_row]
    rw [gmul_add_left, gmul_add_left, bx_swap4]
theorem rowop_col {len k q : Nat} (hk : k < len) (hq : q < len) (s : B) (g : Nat → B) {A C : Mx} {j j' : Nat} (h : ∀ i, i < len → A i j = C i j') : ∀ i, i < len → rowop k q s g A i j = rowop k q s g C i j' := by
  have hs : ∀ i, i < len → swp A k q i j = swp C k q i j' := by
    intro i hi
    rw [swp_row, swp_row]
    exact h _ (swp_le hk hq hi)
  intro i hi
  by_cases e : i = k
  · subst e
    rw [rowop_eq, rowop_eq, hs i hi]
  · rw [rowop_ne _ _ _ e, rowop_ne _ _ _ e, hs i hi, hs k hk]
theorem rowop_zero {len k q : Nat} (hk : k < len) (hq : q < len) {s : B} (hs : s ≠ 0) (g : Nat → B) (A : Mx) (j : Nat) (h : ∀ i, i < len → rowop k q s g A i j = 0) : ∀ i, i < len → A i j = 0 := by
  have h0 : swp A k q k j = 0 := by
    have := h k hk
    unfold rowop at this
    rw [if_pos rfl] at this
    rcases gmul_eq_zero.1 this with e | e
    · exact e
    · exact absurd e hs
  have h1 : ∀ i, i < len → swp A k q i j = 0 := by
    intro i hi
    by_cases e : i = k
    · rw [e]; exact h0
    · have := h i hi
      unfold rowop at this
      rw [if_neg e, h0, zero_gmul, zero_gmul, bx_zero] at this
      exact this
  intro i hi
  have := h1 (if i = q then k else if i = k then q else i) (swp_le hk hq hi)
  rw [swp_row] at this
  have e : (if (if i = q then k else if i = k then q else i) = q then k else if (if i = q then k else if i = k then q else i) = k then q else (if i = q then k else if i = k then q else i)) = i := by
    by_cases a : i = q
    · subst a
      rw [if_pos rfl]
      by_cases b : k = i
      · rw [if_pos b, b]
      · rw [if_neg b, if_pos rfl]
    · rw [if_neg a]
      by_cases b : i = k
      · subst b
        rw [if_pos rfl, if_pos rfl]
      · rw [if_neg b, if_neg a, if_neg b]
  rwa [e] at this
/-- The other rows cleared up to row m. -/
def clr (k : Nat) (g : Nat → B) (m : Nat) (A : Mx) : Mx := fun i j => if i ≠ k ∧ i < m then A i j ^^^ gmul (A k j) (g i) else A i j
theorem det_clr {n k : Nat} (hk : k < n) (g : Nat → B) (A : Mx) (m : Nat) (hm : m ≤ n) : det n (clr k g m A) = det n A := by
  induction m with
  | zero =>
    congr 1
    funext i j
    unfold clr
    rw [if_neg (by omega)]
  | succ m ih =>
    rw [← ih (by omega)]
    by_cases e : m = k
    · congr 1
      funext i j
      unfold clr
      by_cases h : i ≠ k ∧ i < m
      · rw [if_pos h, if_pos ⟨h.1, by omega⟩]
      · rw [if_neg h, if_neg (by omega)]
    · rw [← det_addrow (clr k g m A) m k (g m) (by omega) hk e]
      congr 1
      funext i j
      by_cases h : i = m
      · subst h
        rw [upd_at]
        unfold clr
        rw [if_pos ⟨e, by omega⟩, if_neg (by omega), if_neg (by omega), gmul_comm]
      · rw [upd_ne _ _ h]
        unfold clr
        by_cases h2 : i ≠ k ∧ i < m
        · rw [if_pos h2, if_pos ⟨h2.1, by omega⟩]
        · rw [if_neg h2, if_neg (by omega)]
theorem det_rowop {n k q : Nat} (hk : k < n) (hq : q < n) (s : B) (g : Nat → B) (A : Mx) : det n (rowop k q s g A) = gmul s (det n A) := by
  rw [← det_swp A k q hk hq]
  have h2 := det_scale (swp A k q) k s (swp A k q k) hk
  rw [upd_self] at h2
  rw [← h2, ← det_clr hk g _ n (Nat.le_refl _)]
  refine det_congr fun i j hi hj => ?_
  unfold clr
  by_cases h : i = k
  · subst h
    rw [rowop_eq, if_neg (by omega), upd_at, gmul_comm]
  · rw [rowop_ne _ _ _ h, if_pos ⟨h, hi⟩, rowop_eq, upd_ne _ _ h, bx_cancel_right]
/-- F is a series of row operations on the first len rows; d is what they took out of the determinant. -/
structure Ops (len : Nat) (d : B) (F : Mx → Mx) : Prop where
  mul : ∀ n A C, F (mulF n A C) = mulF n (F A) C
  add : ∀ A C, F (fun i j => A i j ^^^ C i j) = fun i j => F A i j ^^^ F C i j
  col : ∀ {A C : Mx} {j j' : Nat}, (∀ i, i < len → A i j = C i j') → ∀ i, i < len → F A i j = F C i j'
  zero : ∀ A j, (∀ i, i < len → F A i j = 0) → ∀ i, i < len → A i j = 0
  det : ∀ A, gmul d (det len (F A)) = det len A
  ne : d ≠ 0
theorem Ops.none (len : Nat) : Ops len 1 (fun A => A) :=
  ⟨fun _ _ _ => rfl, fun _ _ => rfl, fun h => h, fun _ _ h => h, fun _ => one_gmul _, by decide⟩
theorem Ops.one {len k q : Nat} (hk : k < len) (hq : q < len) {p : B} (hp : p ≠ 0) (g : Nat → B) : Ops len p (rowop k q (ginv p) g) :=
  ⟨fun n A C => rowop_mul n k q _ g A C, fun A C => rowop_add k q _ g A C, fun h => rowop_col hk hq _ g h, fun A j h => rowop_zero hk hq (ginv_ne_zero hp) g A j h, fun A => by rw [det_rowop hk hq, ← gmul_assoc, gmul_ginv p hp, one_gmul], hp⟩
theorem Ops.comp {len : Nat} {d e : B} {F G : Mx → Mx} (h : Ops len d F) (h' : Ops len e G) : Ops len (gmul d e) (fun A => G (F A)) :=
  ⟨fun n A C => by rw [h.mul, h'.mul], fun A C => by rw [h.add, h'.add], fun x => h'.col (h.col x), fun A j x => h.zero A j (h'.zero (F A) j x), fun A => by rw [gmul_assoc, h'.det, h.det], gmul_ne_zero h.ne h'.ne⟩
theorem mulF_id_left {n : Nat} (A : Mx) {i : Nat} (hi : i < n) (j : Nat) : mulF n idF A i j = A i j := by
  unfold mulF
  rw [bsum_one hi (fun t _ hne => by rw [idF_ne (fun e => hne e.symm), zero_gmul]), idF_eq, one_gmul]
theorem mulF_congr {n : Nat} {A A' C C' : Mx} {i j : Nat} (h1 : ∀ t, t < n → A i t = A' i t) (h2 : ∀ t, t < n → C t j = C' t j) : mulF n A C i j = mulF n A' C' i j :=
  bsum_congr fun t ht => by rw [h1 t ht, h2 t ht]
/-- What the identity becomes under row operations that bring A to the identity is the inverse of A on both sides. -/
theorem Ops.inv_left {n : Nat} {d : B} {F : Mx → Mx} (h : Ops n d F) {A : Mx} (hI : ∀ i j, i < n → j < n → F A i j = idF i j) : ∀ i j, i < n → j < n → mulF n (F idF) A i j = idF i j := by
  intro i j hi hj
  rw [← h.mul, ← hI i j hi hj]
  exact h.col (fun a ha => mulF_id_left A ha j) i hi
theorem Ops.inv_right {n : Nat} {d : B} {F : Mx → Mx} (h : Ops n d F) {A : Mx} (hI : ∀ i j, i < n → j < n → F A i j = idF i j) : ∀ i j, i < n → j < n → mulF n A (F idF) i j = idF i j := by
  intro i j hi hj
  refine bx_eq_zero.1 (h.zero (fun i j => mulF n A (F idF) i j ^^^ idF i j) j (fun a ha => ?_) i hi)
  rw [h.add, h.mul]
  show mulF n (F A) (F idF) a j ^^^ F idF a j = 0
  rw [mulF_congr (A' := fun i j => idF i j) (C' := F idF) (fun t ht => hI a t ha ht) (fun t _ => rfl), mulF_id_left _ ha, bx_self]
end Kin
/- The elimination, plain: its row operations, and the form that it gives. -/
namespace Go.Proofs.Ytpkghpljgjlmjaa.K
open Kin
set_option linter.unusedVariables false
/-- The elements of a list of rows, 0 outside. -/
def fn (R : List (List B)) : Mx := fun i j => (R.getD i []).getD j 0
theorem fn_out {R : List (List B)} {i : Nat} (h : R.length ≤ i) (j : Nat) : fn R i j = 0 := by
  have e : R.getD i [] = [] := by rw [List.getD_eq_getElem?_getD, List.getElem?_eq_none h]; rfl
  unfold fn
  rw [e]
  rfl
theorem fn_set (R : List (List B)) (a : Nat) (r : List B) (ha : a < R.length) : fn (R.set a r) = upd (fn R) a (fun j => r.getD j 0) := by
  funext i j
  by_cases h : i = a
  · subst h
    rw [upd_at]
    have e : (R.set i r).getD i [] = r := by rw [List.getD_eq_getElem?_getD, List.getElem?_set_self ha]; rfl
    unfold fn
    rw [e]
  · rw [upd_ne _ _ h]
    have e : (R.set a r).getD i [] = R.getD i [] := by rw [List.getD_eq_getElem?_getD, List.getElem?_set_ne (fun e => h e.symm), ← List.getD_eq_getElem?_getD]
    unfold fn
    rw [e]
theorem fn_swap (R : List (List B)) {a b : Nat} (ha : a < R.length) (hb : b < R.length) : fn (swapRows R a b) = swp (fn R) a b := by
  unfold swapRows
  rw [fn_set _ _ _ (by rw [List.length_set]; exact hb), fn_set _ _ _ ha]
  rfl
theorem getD_map_zero (f : B → B) (h0 : f 0 = 0) (l : List B) (j : Nat) : (l.map f).getD j 0 = f (l.getD j 0) := by
  rw [List.getD_eq_getElem?_getD, List.getD_eq_getElem?_getD, List.getElem?_map]
  cases l[j]? with
  | none => exact h0.symm
  | some x => rfl
theorem fn_scale (R : List (List B)) {r : Nat} (c : Nat) (hr : r < R.length) : fn (scaleRow R r c) = upd (fn R) r (fun j => gmul (fn R r j) (ginv (fn R r c))) := by
  unfold scaleRow
  rw [fn_set _ _ _ hr]
  congr 1
  funext j
  rw [getD_map_zero (fun x => gmul x _) (zero_gmul _)]
  rfl
theorem getD_addS {r pr : List B} (h : r.length = pr.length) (c : B) (j : Nat) : (addS r pr c).getD j 0 = r.getD j 0 ^^^ gmul (pr.getD j 0) c := by
  unfold addS
  rw [List.getD_eq_getElem?_getD, List.getElem?_zipWith, List.getD_eq_getElem?_getD, List.getD_eq_getElem?_getD]
  by_cases hj : j < r.length
  · rw [List.getElem?_eq_getElem hj, List.getElem?_eq_getElem (by omega)]
    rfl
  · rw [List.getElem?_eq_none (by omega), List.getElem?_eq_none (by omega)]
    simp [zero_gmul]
theorem fn_clear {R : List (List B)} {m : Nat} (hm : ∀ r ∈ R, r.length = m) {row : Nat} (col : Nat) (hr : row < R.length) : fn (clearRows R row col) = fun i j => if i = row then fn R row j else fn R i j ^^^ gmul (fn R row j) (fn R i col) := by
  funext i j
  by_cases hi : i < R.length
  · have e : (clearRows R row col).getD i [] = if i ≠ row then clearRow (R.getD row []) col (R.getD i []) else R.getD i [] := by
      unfold clearRows
      rw [List.getD_eq_getElem?_getD, List.getElem?_mapIdx, List.getElem?_eq_getElem hi, List.getD_eq_getElem?_getD, List.getD_eq_getElem?_getD, List.getElem?_eq_getElem hi]
      rfl
    show ((clearRows R row col).getD i []).getD j 0 = _
    rw [e]
    by_cases h : i = row
    · rw [if_neg (fun x => x h), if_pos h, h]; rfl
    · rw [if_pos h, if_neg h]
      unfold clearRow
      by_cases hz : (R.getD i []).getD col 0 = 0
      · rw [if_pos hz]
        show fn R i j = fn R i j ^^^ gmul (fn R row j) ((R.getD i []).getD col 0)
        rw [hz, gmul_zero, bx_zero]
      · rw [if_neg hz, getD_addS (by rw [hm _ (getD_mem' hi), hm _ (getD_mem' hr)])]
        rfl
  · rw [fn_out (by rw [clearRows_length]; omega), if_neg (by omega), fn_out (R := R) (i := i) (by omega), fn_out (R := R) (i := i) (by omega), gmul_zero, bx_zero]
theorem elimStep_fn {s : ES} {m : Nat} (hm : ∀ r ∈ s.1, r.length = m) {col q : Nat} (h : findRow s.1 s.2.1.length col = some q) :
    fn (elimStep s col).1 = rowop s.2.1.length q (ginv (fn s.1 q col)) (fun i => swp (fn s.1) s.2.1.length q i col) (fn s.1) ∧ (elimStep s col).2.1 = s.2.1 ++ [col] ∧ (elimStep s col).2.2 = gmul s.2.2 (fn s.1 q col) := by
  have hq := findRow_some h
  have hS := fn_swap s.1 (a := s.2.1.length) (b := q) (by omega) (by omega)
  have hp : swp (fn s.1) s.2.1.length q s.2.1.length col = fn s.1 q col := by
    rw [swp_row]
    by_cases e : s.2.1.length = q
    · rw [if_pos e, e]
    · rw [if_neg e, if_pos rfl]
  have e : elimStep s col = (clearRows (scaleRow (swapRows s.1 s.2.1.length q) s.2.1.length col) s.2.1.length col, s.2.1 ++ [col], gmul s.2.2 (((swapRows s.1 s.2.1.length q).getD s.2.1.length []).getD col 0)) := by
    unfold elimStep
    rw [h]
  rw [e]
  refine ⟨?_, rfl, ?_⟩
  · have h1 := swapRows_rows hm (i := s.2.1.length) (j := q) (by omega) (by omega)
    have h2 := scaleRow_rows h1 (i := s.2.1.length) col (by rw [swapRows_length]; omega)
    show fn (clearRows (scaleRow (swapRows s.1 s.2.1.length q) s.2.1.length col) s.2.1.length col) = _
    rw [fn_clear h2 col (by rw [scaleRow_length, swapRows_length]; omega), fn_scale _ col (by rw [swapRows_length]; omega), hS, hp]
    funext i j
    unfold rowop
    by_cases hi : i = s.2.1.length
    · rw [if_pos hi, if_pos hi, upd_at]
    · rw [if_neg hi, if_neg hi, upd_ne _ _ hi, upd_at]
  · show gmul s.2.2 (fn (swapRows s.1 s.2.1.length q) s.2.1.length col) = _
    rw [hS, hp]
theorem elim_ops {R : List (List B)} {m : Nat} (hm : ∀ r ∈ R, r.length = m) (cols : Nat) : ∃ F, Ops R.length (elimRun R cols).2.2 F ∧ fn (elimRun R cols).1 = F (fn R) := by
  induction cols with
  | zero => exact ⟨_, Ops.none _, rfl⟩
  | succ n ih =>
    obtain ⟨F, hF, hf⟩ := ih
    rw [elimRun_succ]
    have hl := elimRun_length R n
    cases hfind : findRow (elimRun R n).1 (elimRun R n).2.1.length n with
    | none =>
      have e : elimStep (elimRun R n) n = elimRun R n := by
        unfold elimStep
        rw [hfind]
      rw [e]
      exact ⟨F, hF, hf⟩
    | some q =>
      obtain ⟨h1, h2, h3⟩ := elimStep_fn (elimRun_rows hm n) hfind
      have hq := findRow_some hfind
      rw [h3, h1]
      refine ⟨_, hF.comp (Ops.one (k := (elimRun R n).2.1.length) (q := q) (by omega) (by omega) hq.2.2 (fun i => swp (fn (elimRun R n).1) (elimRun R n).2.1.length q i n)), ?_⟩
      rw [← hf]
      rfl
/-- The form that the elimination gives. -/
structure Form (A : Mx) (len cols : Nat) (piv : List Nat) : Prop where
  le : piv.length ≤ len
  inc : ∀ a b, a < b → b < piv.length → piv.getD a 0 < piv.getD b 0
  lt : ∀ a, a < piv.length → piv.getD a 0 < cols
  unit : ∀ a, a < piv.length → ∀ i, i < len → A i (piv.getD a 0) = if i = a then 1 else 0
  zero : ∀ i, piv.length ≤ i → i < len → ∀ j, j < cols → A i j = 0
theorem getD_append_left {l : List Nat} {x a : Nat} (h : a < l.length) : (l ++ [x]).getD a 0 = l.getD a 0 := by
  rw [List.getD_eq_getElem?_getD, List.getElem?_append_left h, ← List.getD_eq_getElem?_getD]
theorem getD_append_at (l : List Nat) (x : Nat) : (l ++ [x]).getD l.length 0 = x := by
  rw [List.getD_eq_getElem?_getD, List.getElem?_append_right (Nat.le_refl _)]
  simp
theorem findRow_none {R : List (List B)} {row col : Nat} (h : findRow R row col = none) {i : Nat} (h1 : row ≤ i) (h2 : i < R.length) : fn R i col = 0 := by
  unfold findRow at h
  rw [List.find?_range_eq_none] at h
  have := h i h2
  simp only [Bool.not_eq_true', Bool.and_eq_false_iff, decide_eq_false_iff_not] at this
  rcases this with e | e
  · exact absurd h1 e
  · exact Decidable.not_not.1 e
theorem elim_form {R : List (List B)} {m : Nat} (hm : ∀ r ∈ R, r.length = m) (cols : Nat) : Form (fn (elimRun R cols).1) R.length cols (elimRun R cols).2.1 := by
  induction cols with
  | zero => exact ⟨Nat.zero_le _, fun a b h hb => absurd hb (Nat.not_lt_zero _), fun a h => absurd h (Nat.not_lt_zero _), fun a h => absurd h (Nat.not_lt_zero _), fun _ _ _ j hj => absurd hj (Nat.not_lt_zero _)⟩
  | succ n ih =>
    rw [elimRun_succ]
    have hl := elimRun_length R n
    cases hfind : findRow (elimRun R n).1 (elimRun R n).2.1.length n with
    | none =>
      have e : elimStep (elimRun R n) n = elimRun R n := by
        unfold elimStep
        rw [hfind]
      rw [e]
      refine ⟨ih.le, ih.inc, fun a h => by have := ih.lt a h; omega, ih.unit, fun i h1 h2 j hj => ?_⟩
      by_cases ej : j = n
      · subst ej
        exact findRow_none hfind h1 (by omega)
      · exact ih.zero i h1 h2 j (by omega)
    | some q =>
      obtain ⟨h1, h2, h3⟩ := elimStep_fn (elimRun_rows hm n) hfind
      have hq := findRow_some hfind
      rw [h1, h2]
      generalize hk : (elimRun R n).2.1.length = k at *
      generalize hA : fn (elimRun R n).1 = A at *
      generalize hpv : (elimRun R n).2.1 = piv at *
      have hp : A q n ≠ 0 := by rw [← hA]; exact hq.2.2
      have hSk : ∀ j, swp A k q k j = A q j := by
        intro j
        rw [swp_row]
        by_cases e : k = q
        · rw [if_pos e, e]
        · rw [if_neg e, if_pos rfl]
      have hl1 : (piv ++ [n]).length = k + 1 := by simp; omega
      have unitn : ∀ i, i < R.length → rowop k q (ginv (A q n)) (fun i => swp A k q i n) A i n = if i = k then 1 else 0 := by
        intro i hi
        unfold rowop
        by_cases e : i = k
        · rw [if_pos e, if_pos e, hSk, gmul_ginv _ hp]
        · rw [if_neg e, if_neg e, hSk, gmul_ginv _ hp, one_gmul, bx_self]
      refine ⟨by omega, fun a b hab hb => ?_, fun a ha => ?_, fun a ha i hi => ?_, fun i g1 g2 j hj => ?_⟩
      · rw [hl1] at hb
        rw [getD_append_left (by omega)]
        by_cases e : b = k
        · subst e
          rw [show (piv ++ [n]).getD b 0 = n by rw [← hk]; exact getD_append_at piv n]
          exact ih.lt a (by omega)
        · rw [getD_append_left (by omega)]
          exact ih.inc a b hab (by omega)
      · rw [hl1] at ha
        by_cases e : a = k
        · subst e
          rw [show (piv ++ [n]).getD a 0 = n by rw [← hk]; exact getD_append_at piv n]
          omega
        · rw [getD_append_left (by omega)]
          have := ih.lt a (by omega)
          omega
      · rw [hl1] at ha
        by_cases e : a = k
        · subst e
          rw [show (piv ++ [n]).getD a 0 = n by rw [← hk]; exact getD_append_at piv n]
          exact unitn i hi
        · have hak : a < k := by omega
          rw [getD_append_left (by omega)]
          have hz : A q (piv.getD a 0) = 0 := by
            rw [ih.unit a (by omega) q (by omega), if_neg (by omega)]
          unfold rowop
          rw [hSk, hz, zero_gmul, zero_gmul]
          by_cases e1 : i = k
          · rw [if_pos e1, if_neg (by omega)]
          · rw [if_neg e1, bx_zero, swp_row]
            by_cases e2 : i = q
            · rw [if_pos e2, ih.unit a (by omega) k (by omega), if_neg (by omega), if_neg (by omega)]
            · rw [if_neg e2, if_neg e1]
              exact ih.unit a (by omega) i hi
      · rw [hl1] at g1
        by_cases e : j = n
        · subst e
          rw [unitn i g2, if_neg (by omega)]
        · have hz : A q j = 0 := ih.zero q (by omega) (by omega) j (by omega)
          unfold rowop
          rw [hSk, hz, zero_gmul, zero_gmul, if_neg (by omega), bx_zero, swp_row]
          refine ih.zero _ ?_ ?_ j (by omega)
          · split
            · omega
            · split <;> omega
          · split
            · omega
            · split <;> omega
end Go.Proofs.Ytpkghpljgjlmjaa.K
/- Products of the program and of the reference, plain: both are the sums of products. -/
namespace Go.Proofs.Ytpkghpljgjlmjaa.K
open Go.RowKit Go.Proofs.YtpkghpljgjlmjaaW.PrintWords Go.Proofs.YtpkghpljgjlmjaaW.PrintLast Go.Proofs.YtpkghpljgjlmjaaW.PrintMore Kin
set_option linter.unusedVariables false
/-- With rounds enough, F tells r. -/
def Evt {α : Type} (F : Nat → Option α) (r : α) : Prop := ∃ K, ∀ k, K ≤ k → F k = some r
theorem Evt.of {α : Type} {F : Nat → Option α} {r : α} (K : Nat) (h : ∀ k, K ≤ k → F k = some r) : Evt F r := ⟨K, h⟩
theorem Evt.succ {α : Type} {F G : Nat → Option α} {r : α} (h : Evt G r) (e : ∀ k, 300 ≤ k → F (k + 1) = G k) : Evt F r := by
  obtain ⟨K, h⟩ := h
  refine ⟨K + 301, fun k hk => ?_⟩
  obtain ⟨k, rfl⟩ : ∃ j, k = j + 1 := ⟨k - 1, by omega⟩
  rw [e k (by omega), h k (by omega)]
/-- The elements el i k in rows of cols. -/
def tabM (rows cols : Nat) (el : Nat → Nat → B) : List (List B) := (List.range rows).map fun i => (List.range cols).map fun k => el i k
theorem tabM_length (rows cols : Nat) (el : Nat → Nat → B) : (tabM rows cols el).length = rows := by simp [tabM]
theorem tabM_rows (rows cols : Nat) (el : Nat → Nat → B) : ∀ r ∈ tabM rows cols el, r.length = cols := by
  intro r hr
  obtain ⟨i, _, rfl⟩ := List.mem_map.1 hr
  simp
theorem tabM_fn {rows cols : Nat} (el : Nat → Nat → B) {i k : Nat} (hi : i < rows) (hk : k < cols) : fn (tabM rows cols el) i k = el i k := by
  have e : (tabM rows cols el).getD i [] = (List.range cols).map fun k => el i k := by
    unfold tabM
    rw [List.getD_eq_getElem?_getD, List.getElem?_map, List.getElem?_range hi]
    rfl
  unfold fn
  rw [e, List.getD_eq_getElem?_getD, List.getElem?_map, List.getElem?_range hk]
  rfl
theorem row_at {A : List (List B)} {i : Nat} (h : i < A.length) : A.getD i [] = A[i] := by
  rw [List.getD_eq_getElem?_getD, List.getElem?_eq_getElem h]; rfl
theorem mat_ext {A C : List (List B)} {r c : Nat} (h1 : A.length = r) (h2 : C.length = r) (hA : ∀ x ∈ A, x.length = c) (hC : ∀ x ∈ C, x.length = c) (h : ∀ i j, i < r → j < c → fn A i j = fn C i j) : A = C := by
  refine List.ext_getElem (by omega) (fun i g1 g2 => ?_)
  have a := hA _ (List.getElem_mem g1)
  have b := hC _ (List.getElem_mem g2)
  refine List.ext_getElem (by omega) (fun j g3 g4 => ?_)
  have := h i j (by omega) (by omega)
  unfold fn at this
  rw [row_at g1, row_at g2, List.getD_eq_getElem?_getD, List.getD_eq_getElem?_getD, List.getElem?_eq_getElem g3, List.getElem?_eq_getElem g4] at this
  exact this
def mulM (A C : List (List B)) (cols : Nat) : List (List B) := tabM A.length cols (mulF C.length (fn A) (fn C))
/-- One element set. -/
def setAt (M : List (List B)) (i k : Nat) (x : B) : List (List B) := M.set i ((M.getD i []).set k x)
theorem setAt_length (M : List (List B)) (i k : Nat) (x : B) : (setAt M i k x).length = M.length := by simp [setAt]
theorem setAt_row {M : List (List B)} {i : Nat} (hi : i < M.length) (k : Nat) (x : B) : (setAt M i k x).getD i [] = (M.getD i []).set k x := by
  unfold setAt
  rw [List.getD_eq_getElem?_getD, List.getElem?_set_self hi]
  rfl
theorem setAt_setAt {M : List (List B)} {i : Nat} (hi : i < M.length) (k : Nat) (x y : B) : (setAt M i k x).set i (((setAt M i k x).getD i []).set k y) = setAt M i k y := by
  rw [setAt_row hi, List.set_set]
  unfold setAt
  rw [List.set_set]
theorem setAt_get {M : List (List B)} {i k : Nat} (hi : i < M.length) (hk : k < (M.getD i []).length) (x : B) : ((setAt M i k x).getD i []).getD k 0 = x := by
  rw [setAt_row hi, List.getD_eq_getElem?_getD, List.getElem?_set_self hk]
  rfl
theorem set_getD_own {α : Type} (l : List α) (i : Nat) (d : α) (h : i < l.length) : l.set i (l.getD i d) = l := by
  rw [List.getD_eq_getElem?_getD, List.getElem?_eq_getElem h]
  exact List.set_getElem_self h
theorem fillM_at0 {rows cols : Nat} (el : Nat → Nat → B) {i k : Nat} (hi : i < rows) (hk : k < cols) : setAt (fillM rows cols el i k) i k 0 = fillM rows cols el i k := by
  have e : ((fillM rows cols el i k).getD i []).getD k 0 = 0 := by
    rw [fillM_get _ _ _ _ _ _ hi]
    unfold fillR
    rw [List.getD_eq_getElem?_getD, List.getElem?_map, List.getElem?_range hk]
    show (if _ then _ else _) = _
    rw [if_neg (by omega)]
  unfold setAt
  have h1 : ((fillM rows cols el i k).getD i []).set k 0 = (fillM rows cols el i k).getD i [] := by
    conv => lhs; rw [← e]
    exact set_getD_own _ _ _ (by rw [fillM_get _ _ _ _ _ _ hi, fillR_length]; exact hk)
  rw [h1]
  exact set_getD_own _ _ _ (by rw [fillM_length]; exact hi)
section
variable {A C : List (List B)} {cols : Nat}
theorem product_l2 (hA : ∀ r ∈ A, r.length = C.length) (hC : ∀ r ∈ C, r.length = cols) (hn : C.length ≤ 1000000) {R : List (List Int)} {i k : Nat} (hi : i < A.length) (hk : k < cols) (hk2 : k < 1000000)
    (next : Evt (fun K => kinkeepref04_Product.l1 K (up2 A) (up2 C) (up2 (fillM A.length cols (mulF C.length (fn A) (fn C)) i (k + 1))) (i : Int) ((k + 1 : Nat) : Int)) R) (m : Nat) :
    ∀ j, j + m = C.length → Evt (fun K => kinkeepref04_Product.l2 K (up2 A) (up2 C) (up2 (setAt (fillM A.length cols (mulF C.length (fn A) (fn C)) i k) i k (bsum j (fun t => gmul (fn A i t) (fn C t k))))) (i : Int) (k : Int) (j : Int)) R := by
  have hg : i < (fillM A.length cols (mulF C.length (fn A) (fn C)) i k).length := by rw [fillM_length]; exact hi
  have hr : k < ((fillM A.length cols (mulF C.length (fn A) (fn C)) i k).getD i []).length := by rw [fillM_get _ _ _ _ _ _ hi, fillR_length]; exact hk
  induction m with
  | zero =>
    intro j hj
    obtain rfl : j = C.length := by omega
    refine next.succ fun K _ => ?_
    simp only [kinkeepref04_Product.l2]
    rw [if_neg (by rw [up2_length]; omega), wrap_nx' _ (by omega), show setAt (fillM A.length cols (mulF C.length (fn A) (fn C)) i k) i k (bsum C.length (fun t => gmul (fn A i t) (fn C t k))) = fillM A.length cols (mulF C.length (fn A) (fn C)) i (k + 1) from fillM_step A.length cols (mulF C.length (fn A) (fn C)) i k hi hk]
  | succ m ih =>
    intro j hj
    refine (ih (j + 1) (by omega)).succ fun K hK => ?_
    have l1 : (A.getD i []).length = C.length := hA _ (getD_mem' hi)
    have l2 : (C.getD j []).length = cols := hC _ (getD_mem' (by omega))
    simp only [kinkeepref04_Product.l2]
    rw [if_pos (by rw [up2_length]; omega), if_pos (by omega), if_pos (by rw [up2_length, setAt_length]; omega), if_pos (by omega), rd_L1_up2, if_pos (by rw [up_length, setAt_row hg, List.length_set]; omega), if_pos (by rw [up2_length]; omega), if_pos (by omega), rd_L1_up2, if_pos (by rw [up_length]; omega), rd_L1_up2, if_pos (by rw [up_length]; omega), getD_up, getD_up, getD_up, refmul_b _ _ (by omega)]
    simp only [Option.bind_some]
    rw [setAt_get hg hr, xor_b2i, wrap_nx' _ (by omega), Int.toNat_natCast, Int.toNat_natCast, set_up, set_up2, setAt_setAt hg]
    rfl
theorem product_l1 (hA : ∀ r ∈ A, r.length = C.length) (hC : ∀ r ∈ C, r.length = cols) (hc0 : colsN C = cols) (hn : C.length ≤ 1000000) (hcl : cols ≤ 1000000) {R : List (List Int)} {i : Nat} (hi : i < A.length) (hi2 : i < 1000000)
    (next : Evt (fun K => kinkeepref04_Product.l0 K (up2 A) (up2 C) (up2 (fillM A.length cols (mulF C.length (fn A) (fn C)) (i + 1) 0)) ((i + 1 : Nat) : Int)) R) (m : Nat) :
    ∀ k, k + m = cols → Evt (fun K => kinkeepref04_Product.l1 K (up2 A) (up2 C) (up2 (fillM A.length cols (mulF C.length (fn A) (fn C)) i k)) (i : Int) (k : Int)) R := by
  induction m with
  | zero =>
    intro k hk
    obtain rfl : k = cols := by omega
    refine next.succ fun K _ => ?_
    simp only [kinkeepref04_Product.l1]
    rw [refcols_b, colsN_up2, hc0]
    simp only [Option.bind_some]
    rw [if_neg (by omega), wrap_nx' _ (by omega), fillM_next]
  | succ m ih =>
    intro k hk
    have := product_l2 hA hC hn hi (k := k) (by omega) (by omega) (ih (k + 1) (by omega)) C.length 0 (by omega)
    refine this.succ fun K _ => ?_
    simp only [kinkeepref04_Product.l1]
    rw [refcols_b, colsN_up2, hc0]
    simp only [Option.bind_some]
    rw [if_pos (by omega), show bsum 0 (fun t => gmul (fn A i t) (fn C t k)) = 0 from rfl, fillM_at0 _ hi (by omega)]
    rfl
theorem product_l0 (hA : ∀ r ∈ A, r.length = C.length) (hC : ∀ r ∈ C, r.length = cols) (hc0 : colsN C = cols) (hn : C.length ≤ 1000000) (hcl : cols ≤ 1000000) (hal : A.length ≤ 1000000) (m : Nat) :
    ∀ i, i + m = A.length → Evt (fun K => kinkeepref04_Product.l0 K (up2 A) (up2 C) (up2 (fillM A.length cols (mulF C.length (fn A) (fn C)) i 0)) (i : Int)) (up2 (mulM A C cols)) := by
  induction m with
  | zero =>
    intro i hi
    obtain rfl : i = A.length := by omega
    refine Evt.of 1 fun K hK => ?_
    obtain ⟨K, rfl⟩ : ∃ j, K = j + 1 := ⟨K - 1, by omega⟩
    simp only [kinkeepref04_Product.l0]
    rw [if_neg (by rw [up2_length]; omega), fillM_all]
    rfl
  | succ m ih =>
    intro i hi
    have := product_l1 hA hC hc0 hn hcl (i := i) (by omega) (by omega) (ih (i + 1) (by omega)) cols 0 (by omega)
    refine this.succ fun K _ => ?_
    simp only [kinkeepref04_Product.l0]
    rw [if_pos (by rw [up2_length]; omega)]
    rfl
theorem refproduct_b (hA : ∀ r ∈ A, r.length = C.length) (hC : ∀ r ∈ C, r.length = colsN C) (hn : C.length ≤ 1000000) (hcl : colsN C ≤ 1000000) (hal : A.length ≤ 1000000) :
    Evt (fun K => kinkeepref04_Product.f K (up2 A) (up2 C)) (up2 (mulM A C (colsN C))) := by
  obtain ⟨K, h⟩ := product_l0 hA hC rfl hn hcl hal A.length 0 (by omega)
  refine ⟨K + A.length + 1, fun k hk => ?_⟩
  unfold kinkeepref04_Product.f
  rw [refcols_b, colsN_up2]
  simp only [Option.bind_some]
  rw [up2_length, refzero_b _ _ hal (by omega) (by omega), ← fillM_zero A.length (colsN C) (mulF C.length (fn A) (fn C))]
  simp only [Option.bind_some]
  exact h k (by omega)
end
end Go.Proofs.Ytpkghpljgjlmjaa.K
/- Transposed matrices and picked rows, plain. -/
namespace Go.Proofs.Ytpkghpljgjlmjaa.K
open Go.RowKit Go.Proofs.YtpkghpljgjlmjaaW.PrintWords Go.Proofs.YtpkghpljgjlmjaaW.PrintLast Go.Proofs.YtpkghpljgjlmjaaW.PrintMore Kin
set_option linter.unusedVariables false
section
variable {M : List (List B)} {n : Nat}
end
/-- An index of a row. -/
def okIx (n : Nat) (x : Int) : Prop := 0 ≤ x ∧ x < (n : Int)
instance (n : Nat) (x : Int) : Decidable (okIx n x) := inferInstanceAs (Decidable (_ ∧ _))
section
variable {M : List (List B)} {l : List Int} {n : Nat}
end
end Go.Proofs.Ytpkghpljgjlmjaa.K
/- Determinant of package matrix: the walk. -/
namespace Go.Proofs.Ytpkghpljgjlmjaa.K
open Go.RowKit Go.Proofs.YtpkghpljgjlmjaaW.PrintWords Go.Proofs.YtpkghpljgjlmjaaW.PrintLast Go.Proofs.YtpkghpljgjlmjaaW.PrintMore Kin
set_option linter.unusedVariables false
set_option linter.unusedSimpArgs false
def squareB {α : Type} (l : List (List α)) : Bool := validB l && decide (colsN l = l.length)
theorem square_eq (l : List (List Int)) : matrix_square.f l = some (squareB l) := by
  unfold matrix_square.f squareB
  rw [matrix_Valid.f, columns_eq]
  cases validB l <;> simp
  rw [Bool.eq_iff_iff]
  simp; omega
theorem squareB_up2 (M : List (List B)) : squareB (up2 M) = squareB M := by unfold squareB; rw [validB_up2, colsN_up2, up2_length]
theorem squareB_lim {α : Type} {M : List (List α)} (h : squareB M = true) : M.length ≤ 64 ∧ ∀ r ∈ M, r.length = M.length := by
  simp only [squareB, Bool.and_eq_true, decide_eq_true_eq] at h
  obtain ⟨h1, h2, h3⟩ := validB_lim h.1
  rw [h.2] at h3
  exact ⟨h1, h3⟩
end Go.Proofs.Ytpkghpljgjlmjaa.K
/- Inverse of package matrix: what it computes; its contract. -/
namespace Go.Proofs.Ytpkghpljgjlmjaa.K
open Go.RowKit Go.Proofs.YtpkghpljgjlmjaaW.PrintWords Go.Proofs.YtpkghpljgjlmjaaW.PrintLast Go.Proofs.YtpkghpljgjlmjaaW.PrintMore Kin
set_option linter.unusedVariables false
theorem concat2_b (a b : List B) (ha : a.length ≤ 1000) (hb : b.length ≤ 1000) {k : Nat} (hk : 10 ≤ k) : slices_Concat_byte_byte.f k [up a, up b] = some (up (a ++ b)) := by
  obtain ⟨k, rfl⟩ : ∃ j, k = j + 10 := ⟨k - 10, by omega⟩
  have la := up_length a
  have lb := up_length b
  unfold slices_Concat_byte_byte.f
  have e0 : rd_L1 [up a, up b] 0 = up a := rfl
  have e1 : rd_L1 [up a, up b] 1 = up b := rfl
  have w1 : wrap64 (0 + ((up a).length : Int)) = (a.length : Int) := by rw [wrap_small _ (by omega) (by omega)]; omega
  have w2 : wrap64 ((a.length : Int) + ((up b).length : Int)) = ((a.length + b.length : Nat) : Int) := by rw [wrap_small _ (by omega) (by omega)]; omega
  have s1 : wrap64 (0 + 1) = 1 := by rw [wrap_small _ (by omega) (by omega)]; rfl
  have s2 : wrap64 (1 + 1) = 2 := by rw [wrap_small _ (by omega) (by omega)]; rfl
  simp only [slices_Concat_byte_byte.l0]
  rw [if_pos (by simp), if_pos (by omega), if_pos (by simp), e0, w1, if_neg (by omega), s1, if_pos (by simp), if_pos (by omega), if_pos (by simp), e1, w2, if_neg (by omega), s2, if_neg (by simp), slices_Grow_byte_byte.f, if_pos ⟨rfl, by omega, by omega⟩]
  simp only [Option.bind_some, slices_Concat_byte_byte.l1]
  rw [if_pos (by simp), if_pos (by omega), if_pos (by simp), e0, if_pos (by simp; omega), s1, if_pos (by simp), if_pos (by omega), if_pos (by simp), e1, if_pos (by simp; omega), s2, if_neg (by simp), up_append]
  rfl
/-- M beside the identity. -/
def wideI (M : List (List B)) (n : Nat) : List (List B) := (List.range n).map fun a => M.getD a [] ++ (idM n).getD a []
def wiU (M : List (List B)) (n i : Nat) : List (List B) := (List.range n).map fun a => if a < i then M.getD a [] ++ (idM n).getD a [] else []
theorem wiU_length (M : List (List B)) (n i : Nat) : (wiU M n i).length = n := by simp [wiU]
theorem wiU_zero (M : List (List B)) (n : Nat) : wiU M n 0 = List.replicate n [] := by
  refine List.ext_getElem (by simp [wiU]) (fun a h1 h2 => ?_)
  simp [wiU]
theorem wiU_all (M : List (List B)) (n : Nat) : wiU M n n = wideI M n := by
  unfold wiU wideI
  refine List.map_congr_left fun a ha => ?_
  rw [List.mem_range] at ha
  rw [if_pos ha]
theorem wiU_step (M : List (List B)) (n i : Nat) (hi : i < n) : (wiU M n i).set i (M.getD i [] ++ (idM n).getD i []) = wiU M n (i + 1) := by
  refine List.ext_getElem (by rw [List.length_set, wiU_length, wiU_length]) (fun a h1 h2 => ?_)
  rw [List.getElem_set]
  simp only [wiU, List.getElem_map, List.getElem_range]
  by_cases ha : i = a
  · subst ha
    rw [if_pos rfl, if_pos (by omega)]
  · rw [if_neg ha]
    by_cases h : a < i
    · rw [if_pos h, if_pos (by omega)]
    · rw [if_neg h, if_neg (by omega)]
theorem idM_length (n : Nat) : (idM n).length = n := by simp [idM]
theorem idM_rows (n : Nat) : ∀ r ∈ idM n, r.length = n := by
  intro r hr
  obtain ⟨a, _, rfl⟩ := List.mem_map.1 hr
  simp
theorem wideI_rows {M : List (List B)} {n : Nat} (hl : M.length = n) (hM : ∀ r ∈ M, r.length = n) : ∀ r ∈ wideI M n, r.length = n + n := by
  intro r hr
  obtain ⟨a, ha, rfl⟩ := List.mem_map.1 hr
  rw [List.mem_range] at ha
  rw [List.length_append, hM _ (getD_mem' (by omega)), idM_rows n _ (getD_mem' (by rw [idM_length]; exact ha))]
theorem winv_l0 {M : List (List B)} {n : Nat} (hl : M.length = n) (hM : ∀ r ∈ M, r.length = n) (hn : n ≤ 64) (m : Nat) :
    ∀ i, i + m = n → Evt (fun K => winv.l0 K (up2 M) (up2 (wiU M n i)) (up2 (idM n)) (n : Int) (i : Int)) (up2 (wideI M n), 0) := by
  induction m with
  | zero =>
    intro i hi
    obtain rfl : i = n := by omega
    refine Evt.of 1 fun K hK => ?_
    obtain ⟨K, rfl⟩ : ∃ j, K = j + 1 := ⟨K - 1, by omega⟩
    simp only [winv.l0]
    rw [if_neg (by omega), wiU_all]
  | succ m ih =>
    intro i hi
    refine (ih (i + 1) (by omega)).succ fun K hK => ?_
    have l1 : (M.getD i []).length = n := hM _ (getD_mem' (by omega))
    have l2 : ((idM n).getD i []).length = n := idM_rows n _ (getD_mem' (by rw [idM_length]; omega))
    simp only [winv.l0]
    rw [if_pos (by omega), if_pos (by omega), if_pos (by rw [up2_length, idM_length]; omega), if_pos (by rw [up2_length]; omega), rd_L1_up2, rd_L1_up2, concat2_b _ _ (by omega) (by omega) (by omega)]
    simp only [Option.bind_some]
    rw [if_pos (by rw [up2_length, wiU_length]; omega), Int.toNat_natCast, set_up2, wiU_step M n i (by omega), wrap_nx' _ (by omega)]
theorem winv_good {M : List (List B)} (hs : squareB M = true) : Evt (fun K => winv.f K (up2 M)) (up2 (wideI M M.length), 0) := by
  obtain ⟨h1, h2⟩ := squareB_lim hs
  obtain ⟨K, h⟩ := winv_l0 (M := M) rfl h2 h1 M.length 0 (by omega)
  refine ⟨K + 100, fun k hk => ?_⟩
  unfold winv.f
  rw [square_eq, squareB_up2, hs, up2_length]
  simp only [Option.bind_some, if_true]
  rw [if_pos (by omega), if_pos (by rw [Int.toNat_natCast]; omega), identity_b M.length h1 (by omega)]
  simp only [Option.bind_some]
  rw [Int.toNat_natCast, up2_length, idM_length, show List.replicate M.length ([] : List Int) = up2 (wiU M M.length 0) by rw [wiU_zero, ← up2_replicate]; rfl]
  exact h k (by omega)
/-- The inverse by elimination, with the code. -/
def invM (M : List (List B)) : List (List B) × Int := if (elimRun (wideI M M.length) M.length).2.1.length < M.length then ([], 4) else (invU (elimRun (wideI M M.length) M.length).1 M.length M.length, 0)
def matrix_Inverse.f (l0 : List (List Int)) : Option ((List (List Int)) × Int) :=
  if squareB l0 = true then (if bytes2 l0 = true ∧ l0.length ≤ 32 then some (up2 (invM (toB2 l0)).1, (invM (toB2 l0)).2) else none) else some ([], 1)
theorem inverse_up (M : List (List B)) (hv : squareB M = true) (hn : M.length ≤ 32) : matrix_Inverse.f (up2 M) = some (up2 (invM M).1, (invM M).2) := by
  unfold matrix_Inverse.f
  rw [if_pos (by rw [squareB_up2]; exact hv), if_pos ⟨bytes2_up2 M, by rw [up2_length]; exact hn⟩, toB2_up2]
theorem matrix_Inverse.calls (A0 : Option Addr) (c0 : Nat) (l0 : List (List Int)) (r1 : List (List Int)) (r2 : Int) (w : World) (hr0 : Kd.C (Kd.slice 5 (Kd.int .u8)) w A0 l0.length l0) (hc0 : l0.length ≤ c0) (h : matrix_Inverse.f l0 = some (r1, r2)) :
    Calls Try.prog 42 #[.slice A0 l0.length c0] w fun e w' => ∃ v0_ : Value, e = .returned (.tuple #[v0_, .int .i64 r2]) ∧ Kd.S (Kd.slice 5 (Kd.int .u8)) 34 w' w.heap.size (fun _ => True) v0_ r1 ∧ Below w.heap.size w w' := by
  have hV := V_of_C hr0 hc0 w.heap.size
  unfold matrix_Inverse.f at h
  by_cases hs : squareB l0 = true
  · rw [if_pos hs] at h
    split at h
    · rename_i hb
      obtain ⟨M, rfl⟩ := exists_bytes2 hb.1
      have hsM : squareB M = true := by rw [← squareB_up2]; exact hs
      have hn : M.length ≤ 32 := by have := hb.2; rwa [up2_length] at this
      obtain ⟨h1, h2⟩ := squareB_lim hsM
      obtain ⟨K, hK⟩ := winv_good hsM
      rw [toB2_up2] at h
      have hc := inverse_calls K (fun _ => True) A0 c0 (up2 M) (up2 (wideI M M.length)) 0 w hV (fun _ => ⟨wideI M M.length, rfl, by rw [up2_length]; simp [wideI], by rw [up2_length]; exact hn, by rw [up2_length]; exact wideI_rows rfl h2⟩) (hK K (Nat.le_refl _))
      have e1 : invCode (up2 (wideI M M.length)) 0 (up2 M).length = r2 ∧ invVal (up2 (wideI M M.length)) 0 (up2 M).length = r1 := by
        simp only [Option.some.injEq, Prod.mk.injEq] at h
        rw [← h.1, ← h.2, up2_length]
        unfold invCode invVal invE invM
        rw [toB2_up2, if_pos rfl, if_pos rfl]
        by_cases hlt : (elimRun (wideI M M.length) M.length).2.1.length < M.length
        · rw [if_pos hlt, if_pos hlt, if_pos hlt]; exact ⟨rfl, rfl⟩
        · rw [if_neg hlt, if_neg hlt, if_neg hlt]; exact ⟨rfl, rfl⟩
      rw [e1.1, e1.2] at hc
      exact hc
    · cases h
  · rw [if_neg hs] at h
    simp only [Option.some.injEq, Prod.mk.injEq] at h
    obtain ⟨rfl, rfl⟩ := h
    have hw : winv.f 0 l0 = some ([], 1) := by
      unfold winv.f
      rw [square_eq, show squareB l0 = false by simpa using hs]
      rfl
    have hc := inverse_calls 0 (fun _ => True) A0 c0 l0 [] 1 w hV (fun e => by cases e) hw
    exact hc
end Go.Proofs.Ytpkghpljgjlmjaa.K
