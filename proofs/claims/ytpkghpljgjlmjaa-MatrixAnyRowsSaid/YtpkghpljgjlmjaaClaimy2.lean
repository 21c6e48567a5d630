/- Walks and plain facts behind the laws of package matrix. No conditions. -/
import Derived.Test.YtpkghpljgjlmjaaClaimy1
import Derived.Test.YtpkghpljgjlmjaaProg
import Derived.Below
import Derived.Deep.Draws
import Derived.Deep.AppendLies
import Derived.Maps.AppendAt
import Derived.OwnWalk
import Derived.Laws.BytesArg
import Derived.Laws.MakeOwn
import Derived.Laws.OwnMore
import Derived.Deep.OwnRows
import Derived.Tactics
import Derived.Lib.ConvBytes
import Derived.Laws.Slices
import Derived.WalkKit
import Derived.KernelRfl
import Derived.RowKit3
import Derived.Deep.LoopGhost
import Derived.Deep.QuietTactic
import Derived.BigQuiet
import Derived.WideLaws
import Derived.Deep.DeepCutAuto
import Derived.Deep.CutBlock
import Derived.Deep.RegionHeld3
import Derived.Laws.Rows
import Derived.Lib.AppendStr
import Derived.ArgAppend
import Derived.Laws.IdiomCopy
import Derived.OrdersHeld
import Derived.Laws.BitsLemmas
import Derived.RowKit
import Derived.Test.YtpkghpljgjlmjaaU2
import Derived.Outline
-- Lines of this claim, written by the session's own program kprint.py (it runs print.py).
namespace Go.Proofs.Ytpkghpljgjlmjaa.K
open Go.RowKit Go.Proofs.YtpkghpljgjlmjaaW.PrintWords Go.Proofs.YtpkghpljgjlmjaaW.PrintLast Go.Proofs.YtpkghpljgjlmjaaW.PrintMore
attribute [local go_sem] max2_int min2_int max_two min_two max_three min_three max_four min_four   -- for this text's walks alone
set_option linter.unusedVariables false
set_option linter.unusedSimpArgs false

/-! ### kinkeeplaw04_MatrixAnyRows: function 13 -/
mutual
def kinkeeplaw04_MatrixAnyRows.j0 : Nat → Int → Int → List Int → Bool → Option (Bool)
  | 0, _, _, _, _ => none
  | k + 1, x0, x1, x2, x35 => if x35 = true then ((kinkeeplaw04_awake.f).bind fun t101 => (some t101)) else ((matrix_Cauchy.f x1 x0).bind fun bt102 => (if bt102.2 = 0 then ((matrix_Identity.f k x0).bind fun t106 => (if t106.length + bt102.1.length < 5864062014805 then ((some (t106 ++ bt102.1 : List (List Int))).bind fun y109 => (if (y109.length : Int) = (wrap64 (x1 + x0)) then (kinkeeplaw04_MatrixAnyRows.l0 k x0 x2 y109 (([] : List Int)) (([] : List (List Int))) 0) else (some false))) else (none))) else (some false)))
def kinkeeplaw04_MatrixAnyRows.l0 : Nat → Int → List Int → List (List Int) → List Int → List (List Int) → Int → Option (Bool)
  | 0, _, _, _, _, _, _ => none
  | k + 1, x0, x2, x9, x10, x11, x12 => if x12 < (x9.length : Int) then (if x10.length < 17592186044416 then (kinkeeplaw04_MatrixAnyRows.l0 k x0 x2 x9 (x10 ++ [x12]) x11 (wrap64 (x12 + 1))) else (none)) else (kinkeeplaw04_MatrixAnyRows.l1 k x0 x2 x9 x10 x11 0)
def kinkeeplaw04_MatrixAnyRows.l1 : Nat → Int → List Int → List (List Int) → List Int → List (List Int) → Int → Option (Bool)
  | 0, _, _, _, _, _, _ => none
  | k + 1, x0, x2, x9, x10, x11, x13 => if x13 < x0 then (if x13 < (x2.length : Int) then (if 0 ≤ x13 then (if (x10.length : Int) = 0 then (none) else (if 0 ≤ (Int.tmod (wrap64 (rd x2 x13)) (x10.length : Int)) then (if (Int.tmod (wrap64 (rd x2 x13)) (x10.length : Int)) < (x10.length : Int) then (if 0 ≤ (rd x10 (Int.tmod (wrap64 (rd x2 x13)) (x10.length : Int))) then (if (rd x10 (Int.tmod (wrap64 (rd x2 x13)) (x10.length : Int))) < (x9.length : Int) then (if x11.length < 5864062014805 then ((some (([] : List Int) : List Int)).bind fun y127 => (if (Int.tmod (wrap64 (rd x2 x13)) (x10.length : Int)) ≤ (x10.length : Int) then ((some (x10.take ((Int.tmod (wrap64 (rd x2 x13)) (x10.length : Int)) : Int).toNat : List Int)).bind fun y130 => (if y127.length + y130.length < 17592186044416 then ((some (y127 ++ y130 : List Int)).bind fun y135 => (if 0 ≤ (wrap64 ((Int.tmod (wrap64 (rd x2 x13)) (x10.length : Int)) + 1)) then (if (wrap64 ((Int.tmod (wrap64 (rd x2 x13)) (x10.length : Int)) + 1)) ≤ (x10.length : Int) then ((some (x10.drop ((wrap64 ((Int.tmod (wrap64 (rd x2 x13)) (x10.length : Int)) + 1)) : Int).toNat : List Int)).bind fun y138 => (if y135.length + y138.length < 17592186044416 then (kinkeeplaw04_MatrixAnyRows.l1 k x0 x2 x9 (y135 ++ y138) (x11 ++ [rd_L1 x9 (rd x10 (Int.tmod (wrap64 (rd x2 x13)) (x10.length : Int)))]) (wrap64 (x13 + 1))) else (none))) else (none)) else (none))) else (none))) else (none))) else (none)) else (none)) else (none)) else (none)) else (none))) else (none)) else (if 0 < (x10.length : Int) then (if 0 ≤ (rd x10 0) then (if (rd x10 0) < (x9.length : Int) then (if x11.length < 5864062014805 then ((some (([] : List Int) : List Int)).bind fun y151 => (if 0 ≤ (x10.length : Int) then ((some (x10.take 0 : List Int)).bind fun y154 => (if y151.length + y154.length < 17592186044416 then ((some (y151 ++ y154 : List Int)).bind fun y159 => (if 0 ≤ ((0 : Int) + 1) then (if (0 + 1) ≤ (x10.length : Int) then ((some (x10.drop ((0 + 1) : Int).toNat : List Int)).bind fun y162 => (if y159.length + y162.length < 17592186044416 then (kinkeeplaw04_MatrixAnyRows.l1 k x0 x2 x9 (y159 ++ y162) (x11 ++ [rd_L1 x9 (rd x10 0)]) (wrap64 (x13 + 1))) else (none))) else (none)) else (none))) else (none))) else (none))) else (none)) else (none)) else (none)) else (none))) else ((matrix_Inverse.f x11).bind fun bt170 => ((kinkeeplaw04_awake.f).bind fun t174 => (if t174 = true then (if bt170.2 = 0 then ((kinkeepref04_Product.f k x11 bt170.1).bind fun t175 => ((kinkeepref04_Identity.f k x0).bind fun t178 => ((kinkeepref04_Same.f k t175 t178).bind fun t181 => (some t181)))) else (some false)) else (some false))))
end
def kinkeeplaw04_MatrixAnyRows.f (k : Nat) (a0 : Int) (a1 : Int) (l2 : List Int) : Option (Bool) := if a0 < 1 then (kinkeeplaw04_MatrixAnyRows.j0 k a0 a1 l2 true) else (if a0 > 8 then (kinkeeplaw04_MatrixAnyRows.j0 k a0 a1 l2 true) else (if a1 < 0 then (kinkeeplaw04_MatrixAnyRows.j0 k a0 a1 l2 true) else (if a1 > 8 then (kinkeeplaw04_MatrixAnyRows.j0 k a0 a1 l2 true) else (kinkeeplaw04_MatrixAnyRows.j0 k a0 a1 l2 (decide ((l2.length : Int) > 64))))))
def kinkeeplaw04_MatrixAnyRows.T21 : Bool × List (List Nat × List Nat) := (true, [([], []), ([], []), ([], []), ([1, 2], [1, 2]), ([0, 3], [0, 3]), ([], []), ([], []), ([6], [6]), ([5, 7], [5, 7]), ([4, 8, 4], [4, 8]), ([9, 9, 0, 1, 2, 3, 4, 5, 6, 7, 8, 9], [1, 5, 9])])
def kinkeeplaw04_MatrixAnyRows.B21 : List Nat := [0, 0, 0, 6, 15, 0, 0, 64, 224, 511, 1023]
theorem kinkeeplaw04_MatrixAnyRows.tab21 : rtab .any (opsOf Try.f13 21) = kinkeeplaw04_MatrixAnyRows.T21 := by kernel_rfl
theorem kinkeeplaw04_MatrixAnyRows.bits21 : waitsOk kinkeeplaw04_MatrixAnyRows.T21.2 kinkeeplaw04_MatrixAnyRows.B21 = true := by kernel_rfl
set_option maxHeartbeats 8000000 in
set_option maxRecDepth 100000 in
theorem kinkeeplaw04_MatrixAnyRows.calls (k : Nat) (a0 : Int) (a1 : Int) (A2 : Option Addr) (c2 : Nat) (l2 : List Int) (r : Bool) (w : World) (hr2 : Kd.C (Kd.int .u8) w A2 l2.length l2) (hc2 : l2.length ≤ c2) (h : kinkeeplaw04_MatrixAnyRows.f k a0 a1 l2 = some r) :
    Calls Try.prog 13 #[.int .i64 a0, .int .i64 a1, .slice A2 l2.length c2] w fun e w' => e = .returned (.bool r) ∧ Below w.heap.size w w' := by
  have HR2 := Aside0.mk hr2
  have HC2 := Aside0.mk hc2
  clear hr2 hc2
  have HB := Aside0.mk (Below.refl w.heap.size w)
  have H : (if a0 < 1 then (kinkeeplaw04_MatrixAnyRows.j0 k a0 a1 l2 true) else (if a0 > 8 then (kinkeeplaw04_MatrixAnyRows.j0 k a0 a1 l2 true) else (if a1 < 0 then (kinkeeplaw04_MatrixAnyRows.j0 k a0 a1 l2 true) else (if a1 > 8 then (kinkeeplaw04_MatrixAnyRows.j0 k a0 a1 l2 true) else (kinkeeplaw04_MatrixAnyRows.j0 k a0 a1 l2 (decide ((l2.length : Int) > 64))))))) = some r := h
  clear h
  have HC4 := Aside0.mk H
  clear H
  go_enter Try.func13, Try.ntmps13
  go_upto_region 1 with (fail)
  go_cut [35] (fun v35 wc => ∃ (kq : Nat) (x35_3 : Bool), v35 = .bool x35_3 ∧ Aside0 (kinkeeplaw04_MatrixAnyRows.j0 kq a0 a1 l2 x35_3 = some r) ∧ Aside0 (kq ≤ k) ∧ Aside0 (Below w.heap.size w wc))
  case first =>
    have H := HC4.out
    clear HC4
    by_cases c5 : a0 < 1
    · rw [if_pos c5] at H
      have c5b0 : decide (a0 < 1) = true := decide_eq_true c5
      clear c5
      (first | rw [c5b0] | rw [c5b1] | rw [c5b2] | (simp only [i64_w, i32_w]; rw [c5b0]) | skip)
      have H' := Aside0.mk H
      clear H
      go_wp2
      go_meet
      case rel => exact ⟨_, (true), (by first | rfl | (simp; done) | (simp [*]; done)), H', ⟨by first | omega | exact Nat.le_refl _⟩, ⟨by repeat (first | (with_reducible first | exact HB.out | apply below_alloc | apply pw_below_drewN | apply below_drew1) | exact HB.out)⟩⟩
    · rw [if_neg c5] at H
      have c5b0 : decide (a0 < 1) = false := decide_eq_false c5
      clear c5
      (first | rw [c5b0] | rw [c5b1] | rw [c5b2] | (simp only [i64_w, i32_w]; rw [c5b0]) | skip)
      by_cases c6 : a0 > 8
      · rw [if_pos c6] at H
        have c6b0 : decide (8 < a0) = true := decide_eq_true c6
        clear c6
        have H' := Aside0.mk H
        clear H
        go_wp2
        go_meet
        case rel => exact ⟨_, (true), (by first | rfl | (simp; done) | (simp [*]; done)), H', ⟨by first | omega | exact Nat.le_refl _⟩, ⟨by repeat (first | (with_reducible first | exact HB.out | apply below_alloc | apply pw_below_drewN | apply below_drew1) | exact HB.out)⟩⟩
      · rw [if_neg c6] at H
        have c6b0 : decide (8 < a0) = false := decide_eq_false c6
        clear c6
        by_cases c7 : a1 < 0
        · rw [if_pos c7] at H
          have c7b0 : decide (a1 < 0) = true := decide_eq_true c7
          clear c7
          have H' := Aside0.mk H
          clear H
          go_wp2
          go_meet
          case rel => exact ⟨_, (true), (by first | rfl | (simp; done) | (simp [*]; done)), H', ⟨by first | omega | exact Nat.le_refl _⟩, ⟨by repeat (first | (with_reducible first | exact HB.out | apply below_alloc | apply pw_below_drewN | apply below_drew1) | exact HB.out)⟩⟩
        · rw [if_neg c7] at H
          have c7b0 : decide (a1 < 0) = false := decide_eq_false c7
          clear c7
          by_cases c8 : a1 > 8
          · rw [if_pos c8] at H
            have c8b0 : decide (8 < a1) = true := decide_eq_true c8
            clear c8
            have H' := Aside0.mk H
            clear H
            go_wp2
            go_meet
            case rel => exact ⟨_, (true), (by first | rfl | (simp; done) | (simp [*]; done)), H', ⟨by first | omega | exact Nat.le_refl _⟩, ⟨by repeat (first | (with_reducible first | exact HB.out | apply below_alloc | apply pw_below_drewN | apply below_drew1) | exact HB.out)⟩⟩
          · rw [if_neg c8] at H
            have c8b0 : decide (8 < a1) = false := decide_eq_false c8
            clear c8
            have H' := Aside0.mk H
            clear H
            go_wp2
            go_meet
            case rel => exact ⟨_, (decide ((l2.length : Int) > 64)), (by first | rfl | (simp; done) | (simp [*]; done)), H', ⟨by first | omega | exact Nat.le_refl _⟩, ⟨by repeat (first | (with_reducible first | exact HB.out | apply below_alloc | apply pw_below_drewN | apply below_drew1) | exact HB.out)⟩⟩
  case rest =>
    clear HC4; (try clear c1); (try clear c2); (try clear p2); (try clear c5); (try clear c5b0); (try clear c6); (try clear c6b0); (try clear c7); (try clear c7b0); (try clear c8); (try clear c8b0)
    obtain ⟨kq, x35_3, rfl, HA, HJ3, HB⟩ := hcut
    cases kq with
    | zero => exact absurd HA.out (by simp [kinkeeplaw04_MatrixAnyRows.j0])
    | succ kj3 =>
      have H := HA.out
      clear HA
      simp only [kinkeeplaw04_MatrixAnyRows.j0] at H
      by_cases c9 : x35_3 = true
      · subst c9
        have H1 : ((kinkeeplaw04_awake.f).bind fun t101 => (some t101)) = some r := by rw [if_pos rfl] at H; exact H
        clear H
        have H := H1
        clear H1
        replace H := Option.bind_eq_some_iff.mp H
        obtain ⟨t101, A100, H⟩ := H
        replace H : (some t101) = some r := H
        have A10 := Aside0.mk A100
        clear A100
        obtain rfl := Option.some.inj H
        go_wp2_with (first | ((with_reducible refine gate_callee (f := 16) rfl ?_); refine goesL_ (some 36) rfl rfl Try.func16 (by kernel_rfl) rfl #[] rfl (by (try simp only [List.map_toArray, List.map_cons, List.map_nil]); first | done | rfl | (simp only [List.length_drop, List.length_take]; rfl)) ?_; (with_reducible refine (kinkeeplaw04_awake.calls  t101 _ A10.out).mono ?_); rintro e w11 ⟨rfl, hb⟩; refine ⟨_, rfl, ?_⟩; have n0_ := Aside0.mk (below_step (by repeat (first | (with_reducible first | exact HB.out | apply below_alloc | apply pw_below_drewN | apply below_drew1) | exact HB.out)) hb); clear HB; have HB := n0_; clear n0_; (try clear hb); (try clear hb2); (try clear hk); (try clear hi)))
        go_ret
        exact ⟨by first | rfl | (simp [errW_none, errW_some] <;> rfl) | (simp [*, errW_none, errW_some] <;> rfl), by repeat (first | (with_reducible first | exact HB.out | apply below_alloc | apply pw_below_drewN | apply below_drew1) | exact HB.out)⟩
      · replace c9 := Bool.eq_false_iff.mpr c9
        subst c9
        have H1 : ((matrix_Cauchy.f a1 a0).bind fun bt102 => (if bt102.2 = 0 then ((matrix_Identity.f kj3 a0).bind fun t106 => (if t106.length + bt102.1.length < 5864062014805 then ((some (t106 ++ bt102.1 : List (List Int))).bind fun y109 => (if (y109.length : Int) = (wrap64 (a1 + a0)) then (kinkeeplaw04_MatrixAnyRows.l0 kj3 a0 l2 y109 (([] : List Int)) (([] : List (List Int))) 0) else (some false))) else (none))) else (some false))) = some r := by rw [if_neg (show ¬ (false = true) by decide)] at H; exact H
        clear H
        have H := H1
        clear H1
        replace H := Option.bind_eq_some_iff.mp H
        obtain ⟨⟨t102, t103⟩, A120, H⟩ := H
        replace H : (if t103 = 0 then ((matrix_Identity.f kj3 a0).bind fun t106 => (if t106.length + t102.length < 5864062014805 then ((some (t106 ++ t102 : List (List Int))).bind fun y109 => (if (y109.length : Int) = (wrap64 (a1 + a0)) then (kinkeeplaw04_MatrixAnyRows.l0 kj3 a0 l2 y109 (([] : List Int)) (([] : List (List Int))) 0) else (some false))) else (none))) else (some false)) = some r := H
        have A12 := Aside0.mk A120
        clear A120
        by_cases c13 : t103 = 0
        · rw [if_pos c13] at H
          have c13b0 : (t103 == 0) = true := beq_iff_eq.mpr c13
          have c13b1 : (t103 != 0) = false := bne_eq_false_iff_eq.mpr c13
          clear c13
          replace H := Option.bind_eq_some_iff.mp H
          obtain ⟨t106, A140, H⟩ := H
          replace H : (if t106.length + t102.length < 5864062014805 then ((some (t106 ++ t102 : List (List Int))).bind fun y109 => (if (y109.length : Int) = (wrap64 (a1 + a0)) then (kinkeeplaw04_MatrixAnyRows.l0 kj3 a0 l2 y109 (([] : List Int)) (([] : List (List Int))) 0) else (some false))) else (none)) = some r := H
          have A14 := Aside0.mk A140
          clear A140
          by_cases c15 : t106.length + t102.length < 5864062014805
          · rw [if_pos c15] at H
            have LMc15 := Aside0.mk c15
            clear c15
            obtain ⟨y109, hy109⟩ : ∃ y_ : List (List Int), y_ = (t106 ++ t102) := ⟨_, rfl⟩
            replace H : (if (y109.length : Int) = (wrap64 (a1 + a0)) then (kinkeeplaw04_MatrixAnyRows.l0 kj3 a0 l2 y109 (([] : List Int)) (([] : List (List Int))) 0) else (some false)) = some r := by first | (rw [hy109]; with_reducible exact H) | (have H2_ := (Option.bind_some _ _).symm.trans H; rw [hy109]; with_reducible exact H2_) | (have H2_ := (Option.bind_some _ _).symm.trans H; with_reducible exact H2_) | with_reducible exact H | (rw [hy109]; exact H) | exact H
            have Ny109 := Aside0.mk hy109
            clear hy109
            by_cases c16 : (y109.length : Int) = (wrap64 (a1 + a0))
            · rw [if_pos c16] at H
              have c16b0 : ((y109.length : Int) == (wrap64 (a1 + a0))) = true := beq_iff_eq.mpr c16
              have c16b1 : ((y109.length : Int) != (wrap64 (a1 + a0))) = false := bne_eq_false_iff_eq.mpr c16
              clear c16
              obtain ⟨y112, hy112⟩ : ∃ y_ : List Int, y_ = (([] : List Int)) := ⟨_, rfl⟩
              replace H : (kinkeeplaw04_MatrixAnyRows.l0 kj3 a0 l2 y109 y112 (([] : List (List Int))) 0) = some r := by first | (rw [hy112]; with_reducible exact H) | (have H2_ := (Option.bind_some _ _).symm.trans H; rw [hy112]; with_reducible exact H2_) | (have H2_ := (Option.bind_some _ _).symm.trans H; with_reducible exact H2_) | with_reducible exact H | (rw [hy112]; exact H) | exact H
              have Ny112 := Aside0.mk hy112
              clear hy112
              obtain ⟨y115, hy115⟩ : ∃ y_ : List (List Int), y_ = (([] : List (List Int))) := ⟨_, rfl⟩
              replace H : (kinkeeplaw04_MatrixAnyRows.l0 kj3 a0 l2 y109 y112 y115 0) = some r := by first | (rw [hy115]; with_reducible exact H) | (have H2_ := (Option.bind_some _ _).symm.trans H; rw [hy115]; with_reducible exact H2_) | (have H2_ := (Option.bind_some _ _).symm.trans H; with_reducible exact H2_) | with_reducible exact H | (rw [hy115]; exact H) | exact H
              have Ny115 := Aside0.mk hy115
              clear hy115
              have H' := Aside0.mk H
              clear H
              go_wp2_with (first | ((with_reducible refine gate_callee (f := 49) rfl ?_); refine goesL_ (some 40) rfl rfl Try.func49 (by kernel_rfl) rfl #[.int .i64 a1, .int .i64 a0] rfl (by (try simp only [List.map_toArray, List.map_cons, List.map_nil]); first | done | rfl | (simp only [List.length_drop, List.length_take]; rfl)) ?_; (with_reducible refine (matrix_Cauchy.calls a1 a0 t102 t103 _ A12.out).mono ?_); rintro e w17 ⟨v104, rfl, ho0, hb⟩; refine ⟨_, rfl, ?_⟩; have n0_ := Aside0.mk (Kd.N_lower (Kd.N_mono (ok' := fun k_ => True) (Kd.S_N (Kd.S_bound ho0)) (fun k_ hk_ => trivial)) (below_size (by repeat (first | (with_reducible first | exact HB.out | apply below_alloc | apply pw_below_drewN | apply below_drew1) | exact HB.out)))); have n1_ := Aside0.mk (below_step (by repeat (first | (with_reducible first | exact HB.out | apply below_alloc | apply pw_below_drewN | apply below_drew1) | exact HB.out)) hb); clear HB; have HO105 := n0_; have HB := n1_; clear n0_ n1_; (try clear hb); (try clear hb2); (try clear hk); (try clear hi); (try clear ho0)) | ((with_reducible refine gate_callee (f := 48) rfl ?_); refine goesL_ (some 46) rfl rfl Try.func48 (by kernel_rfl) rfl #[.int .i64 a0] rfl (by (try simp only [List.map_toArray, List.map_cons, List.map_nil]); first | done | rfl | (simp only [List.length_drop, List.length_take]; rfl)) ?_; (with_reducible refine (matrix_Identity.calls kj3 a0 t106 _ A14.out).mono ?_); rintro e w18 ⟨v107, rfl, ho0, hb⟩; refine ⟨_, rfl, ?_⟩; have n0_ := Aside0.mk (Kd.N_elder' (by (with_reducible repeat (first | apply Kd.N_alloc | apply Kd.N_drewN | apply Kd.N_drew)); exact HO105.out) (by first | exact Kd.N_base ho0 | exact Kd.S_base ho0) hb); have n1_ := Aside0.mk (Kd.N_lower (Kd.N_mono (ok' := fun k_ => some k_ ≠ (v104 : Value).ownBlock) (Kd.S_N (Kd.S_bound ho0)) (fun k_ hk_ => (Kd.fresh' (Kd.N_lt (by (with_reducible repeat (first | apply Kd.N_alloc | apply Kd.N_drewN | apply Kd.N_drew)); exact HO105.out)) k_ hk_.2.1))) (below_size (by repeat (first | (with_reducible first | exact HB.out | apply below_alloc | apply pw_below_drewN | apply below_drew1) | exact HB.out)))); have n2_ := Aside0.mk (below_step (by repeat (first | (with_reducible first | exact HB.out | apply below_alloc | apply pw_below_drewN | apply below_drew1) | exact HB.out)) hb); clear HO105; clear HB; have HO105 := n0_; have HO108 := n1_; have HB := n2_; clear n0_ n1_ n2_; (try clear hb); (try clear hb2); (try clear hk); (try clear hi); (try clear ho0); obtain ⟨Ao20, co20, eo20⟩ := Kd.N_slice HO105.out; subst eo20) | ((with_reducible refine gate_builtin (b := .append) (xs := #[.tmp 46, .tmp 47]) rfl ?_); (try (refine gate_guard (by rfl) ?_; dsimp only)); at_builtin; refine Kd.N_append_rows (Kd.slice 5 (Kd.int .u8)) (w0 := w) w.heap.size rfl (.tmp 46) (.tmp 47) 22 34 (.slice none 0 0) 24 rfl Try.underlying22 info34 rfl (by decide) (by omega) v107 t106 t102 _ _ _ (fun _ => True) (fun k_ => ((fun _ => True)) k_ ∧ some k_ ≠ (v107 : Value).ownBlock) rfl rfl ?aO ?aR (fun _ hk => hk) ?aF ?aB ?aS ?aL ?_; (case aR => exact (by skip; exact Kd.N_F (Kd.N_mono (ok' := (fun k_ => ((fun _ => True)) k_ ∧ some k_ ≠ (v107 : Value).ownBlock)) (HO105.out) (fun k_ hk => ⟨trivial, hk.2⟩)))); (case aB => exact (by repeat (first | (with_reducible first | exact HB.out | apply below_alloc | apply pw_below_drewN | apply below_drew1) | exact HB.out))); (case aF => exact (fun _ _ => trivial)); (case aO => exact (by (with_reducible repeat (first | apply Kd.N_alloc | apply Kd.N_drewN | apply Kd.N_drew)); exact Kd.N_mono HO108.out (fun _ hk => trivial))); (case aS => exact (below_size (by repeat (first | (with_reducible first | exact HB.out | apply below_alloc | apply pw_below_drewN | apply below_drew1) | exact HB.out)))); (case aL => have := LMc15.out; omega); intro v110 w19 ho hb hg hat; rw [← Ny109.out] at ho; have n0_ := Aside0.mk (Kd.N_afterv (ok := (fun _ => True)) (by (with_reducible repeat (first | apply Kd.N_alloc | apply Kd.N_drewN | apply Kd.N_drew)); exact HO105.out) hg hat); have n1_ := Aside0.mk (hb); have n2_ := Aside0.mk (ho); clear HO105; clear HB; clear HO108; have HO105 := n0_; have HB := n1_; have HO111 := n2_; clear n0_ n1_ n2_; clear ho hb hg hat; obtain ⟨Ao21, co21, eo21⟩ := Kd.N_slice HO111.out; subst eo21) | ((with_reducible refine gate_dst (N := 55) rfl ?_); (try (refine gate_guard (by rfl) ?_; dsimp only)); refine Kd.R_lit (Kd.int .i64) _ 3 ?hg (N := 55) ?hd (xs := ([] : List Int)) (inner := []) (ok := fun _ => True) (okp := fun _ => True) ?hr ?hp (fun _ hk => hk) trivial (Below.refl _ _) (Nat.le_refl _) (by simp) ?_; (case hd => rfl); (case hg => rfl); (case hr => first | (go_simp; done) | (go_simp; rfl)); (case hp => exact (Reps.none _ _)); intro v113 w22 ho23 hb hg_ hnew_; clear hg_ hnew_; (first | rw [← Ny112.out] at ho23 | (simp only [Int.reduceToNat] at ho23; rw [← Ny112.out] at ho23)); have n0_ := Aside0.mk (Kd.N_elder' (by (with_reducible repeat (first | apply Kd.N_alloc | apply Kd.N_drewN | apply Kd.N_drew)); exact HO105.out) (Kd.R_base ho23) hb); have n1_ := Aside0.mk (Kd.N_elder' (by (with_reducible repeat (first | apply Kd.N_alloc | apply Kd.N_drewN | apply Kd.N_drew)); exact HO111.out) (Kd.R_base ho23) hb); have n2_ := Aside0.mk (Kd.R_lower ho23 (below_size (by repeat (first | (with_reducible first | exact HB.out | apply below_alloc | apply pw_below_drewN | apply below_drew1) | exact HB.out)))); have n3_ := Aside0.mk (below_step (by repeat (first | (with_reducible first | exact HB.out | apply below_alloc | apply pw_below_drewN | apply below_drew1) | exact HB.out)) hb); clear HO105; clear HO111; clear HB; have HO105 := n0_; have HO111 := n1_; have HO114 := n2_; have HB := n3_; clear n0_ n1_ n2_ n3_; clear hb ho23) | ((with_reducible refine gate_dst (N := 56) rfl ?_); (try (refine gate_guard (by rfl) ?_; dsimp only)); refine Kd.N_lit (Kd.slice 5 (Kd.int .u8)) _ 34 ?hg (N' := 56) ?hd (xs := ([] : List (List Int))) (inner := []) (ok := (fun k_ => some k_ ≠ (.slice Ao20 t102.length co20 : Value).ownBlock ∧ some k_ ≠ (.slice Ao21 y109.length co21 : Value).ownBlock ∧ some k_ ≠ (v113 : Value).ownBlock)) (okp := (fun k_ => some k_ ≠ (.slice Ao20 t102.length co20 : Value).ownBlock ∧ some k_ ≠ (.slice Ao21 y109.length co21 : Value).ownBlock ∧ some k_ ≠ (v113 : Value).ownBlock)) ?hr ?hp (fun _ hk => hk) ((show ∀ k_, w22.heap.size ≤ k_ → (fun k_ => some k_ ≠ (.slice Ao20 t102.length co20 : Value).ownBlock ∧ some k_ ≠ (.slice Ao21 y109.length co21 : Value).ownBlock ∧ some k_ ≠ (v113 : Value).ownBlock) k_ from fun k_ hk => ⟨Kd.fresh' (Kd.N_lt (by (with_reducible repeat (first | apply Kd.N_alloc | apply Kd.N_drewN | apply Kd.N_drew)); exact HO105.out)) k_ hk, Kd.fresh' (Kd.N_lt (by (with_reducible repeat (first | apply Kd.N_alloc | apply Kd.N_drewN | apply Kd.N_drew)); exact HO111.out)) k_ hk, Kd.fresh' (Kd.R_lt (by (with_reducible repeat (first | apply Kd.R_alloc | apply Kd.R_drewN | apply Kd.R_drew)); exact HO114.out)) k_ hk⟩) _ (Nat.le_refl _)) (Below.refl _ _) (Nat.le_refl _) (by simp) ?_; (case hd => rfl); (case hg => rfl); (case hr => first | (go_simp; done) | (go_simp; rfl)); (case hp => exact (Reps.none _ _)); intro v116 w24 ho25 hb hg_ hnew_; clear hg_ hnew_; (first | rw [← Ny115.out] at ho25 | (simp only [Int.reduceToNat] at ho25; rw [← Ny115.out] at ho25)); have n0_ := Aside0.mk (Kd.N_elder' (by (with_reducible repeat (first | apply Kd.N_alloc | apply Kd.N_drewN | apply Kd.N_drew)); exact HO105.out) (by first | exact Kd.N_base ho25 | exact Kd.S_base ho25) hb); have n1_ := Aside0.mk (Kd.N_elder' (by (with_reducible repeat (first | apply Kd.N_alloc | apply Kd.N_drewN | apply Kd.N_drew)); exact HO111.out) (by first | exact Kd.N_base ho25 | exact Kd.S_base ho25) hb); have n2_ := Aside0.mk (Kd.R_below (by (with_reducible repeat (first | apply Kd.R_alloc | apply Kd.R_drewN | apply Kd.R_drew)); exact HO114.out) hb); have n3_ := Aside0.mk (Kd.N_lower ho25 (below_size (by repeat (first | (with_reducible first | exact HB.out | apply below_alloc | apply pw_below_drewN | apply below_drew1) | exact HB.out)))); have n4_ := Aside0.mk (below_step (by repeat (first | (with_reducible first | exact HB.out | apply below_alloc | apply pw_below_drewN | apply below_drew1) | exact HB.out)) hb); clear HO105; clear HO111; clear HO114; clear HB; have HO105 := n0_; have HO111 := n1_; have HO114 := n2_; have HO117 := n3_; have HB := n4_; clear n0_ n1_ n2_ n3_ n4_; clear hb ho25))
              go_loopg [10, 12] kj3 (fun kq v10 v12 w' => ∃ (x10_2 : List Int) (x12_2 : Int), v12 = .int .i64 x12_2 ∧ Aside0 (kinkeeplaw04_MatrixAnyRows.l0 kq a0 l2 y109 x10_2 y115 x12_2 = some r) ∧ Aside0 (kq ≤ kj3) ∧ Aside0 (Kd.N (Kd.slice 5 (Kd.int .u8)) 34 w' w.heap.size (fun k_ => some k_ ≠ (v10 : Value).ownBlock ∧ some k_ ≠ (v116 : Value).ownBlock) (.slice Ao21 y109.length co21) y109) ∧ Aside0 (Kd.R (Kd.int .i64) 3 w' w.heap.size (fun _ => True) v10 x10_2) ∧ Aside0 (Kd.N (Kd.slice 5 (Kd.int .u8)) 34 w' w.heap.size (fun k_ => some k_ ≠ ((.slice Ao21 y109.length co21) : Value).ownBlock ∧ some k_ ≠ (v10 : Value).ownBlock) v116 y115) ∧ Aside0 (Below w.heap.size w w'))
              case atStart => exact ⟨(y112), (0), (by first | rfl | (simp; done) | (simp [*]; done)), H', ⟨Nat.le_refl _⟩, ⟨by (with_reducible repeat (first | apply Kd.N_alloc | apply Kd.N_drewN | apply Kd.N_drew)); exact Kd.N_mono HO111.out (fun _ hk => ⟨hk.1.2, hk.2⟩)⟩, ⟨by (with_reducible repeat (first | apply Kd.R_alloc | apply Kd.R_drewN | apply Kd.R_drew)); exact HO114.out⟩, ⟨by (with_reducible repeat (first | apply Kd.N_alloc | apply Kd.N_drewN | apply Kd.N_drew)); exact Kd.N_mono HO117.out (fun _ hk => ⟨hk.2.1, hk.2.2⟩)⟩, ⟨by repeat (first | (with_reducible first | exact HB.out | apply below_alloc | apply pw_below_drewN | apply below_drew1) | exact HB.out)⟩⟩
              case round =>
                clear H'; (try clear c1); (try clear c2); (try clear p2); (try clear c4); (try clear c5); (try clear c5b0); (try clear c6); (try clear c6b0); (try clear p6); (try clear c7); (try clear c7b0); (try clear c8); (try clear c8b0); (try clear c9); (try clear c13); (try clear c13b0); (try clear c13b1); (try clear c15); (try clear c16); (try clear c16b0); (try clear c16b1); (try clear p2)
                obtain ⟨x10_2, x12_2, rfl, HA, HK2, HO_9, HO_10, HO_11, HB⟩ := hrel
                cases gk with
                | zero => exact absurd HA.out (by simp [kinkeeplaw04_MatrixAnyRows.l0])
                | succ k2 =>
                  have H := HA.out
                  clear HA
                  simp only [kinkeeplaw04_MatrixAnyRows.l0] at H
                  by_cases c26 : x12_2 < (y109.length : Int)
                  · rw [if_pos c26] at H
                    have c26b0 : decide (x12_2 < (y109.length : Int)) = true := decide_eq_true c26
                    clear c26
                    by_cases c27 : x10_2.length < 17592186044416
                    · rw [if_pos c27] at H
                      have LMc27 := Aside0.mk c27
                      clear c27
                      obtain ⟨y118, hy118⟩ : ∃ y_ : List Int, y_ = (x10_2 ++ [x12_2]) := ⟨_, rfl⟩
                      replace H : (kinkeeplaw04_MatrixAnyRows.l0 k2 a0 l2 y109 y118 y115 (wrap64 (x12_2 + 1))) = some r := by first | (rw [hy118]; with_reducible exact H) | (have H2_ := (Option.bind_some _ _).symm.trans H; rw [hy118]; with_reducible exact H2_) | (have H2_ := (Option.bind_some _ _).symm.trans H; with_reducible exact H2_) | with_reducible exact H | (rw [hy118]; exact H) | exact H
                      have Ny118 := Aside0.mk hy118
                      clear hy118
                      have H' := Aside0.mk H
                      clear H
                      go_wp2_with (first | ((with_reducible refine gate_builtin (b := .append) (xs := #[.tmp 63, .tmp 65]) rfl ?_); (try (refine gate_guard (by rfl) ?_; dsimp only)); at_builtin; refine Kd.R_append (Kd.int .i64) (w0 := w) w.heap.size rfl (.tmp 63) (.tmp 65) 29 3 (.int .i64 0) 8 rfl Try.underlying29 info3 rfl (by decide) (by omega) u10 x10_2 x12_2 [.int .i64 x12_2] (fun _ => True) (fun _ => False) rfl rfl ?aP (fun _ hk => hk.elim) ?aF ?aO ?aB ?aS ?aL ?_; (case aP => exact rfl); (case aB => exact (by repeat (first | (with_reducible first | exact HB.out | apply below_alloc | apply pw_below_drewN | apply below_drew1) | exact HB.out))); (case aF => exact (fun _ _ => trivial)); (case aO => exact (by (with_reducible repeat (first | apply Kd.R_alloc | apply Kd.R_drewN | apply Kd.R_drew)); exact HO_10.out)); (case aS => exact (below_size (by repeat (first | (with_reducible first | exact HB.out | apply below_alloc | apply pw_below_drewN | apply below_drew1) | exact HB.out)))); (case aL => have := LMc27.out; omega); intro v119 w28 ho hb hg hat; rw [← Ny118.out] at ho; have n0_ := Aside0.mk (Kd.N_afterv (ok := (fun k_ => some k_ ≠ (v116 : Value).ownBlock)) (by (with_reducible repeat (first | apply Kd.N_alloc | apply Kd.N_drewN | apply Kd.N_drew)); exact Kd.N_mono HO_9.out (fun _ hk => ⟨hk.2, hk.1⟩)) hg hat); have n1_ := Aside0.mk (Kd.N_afterv (ok := (fun k_ => some k_ ≠ (.slice Ao21 y109.length co21 : Value).ownBlock)) (by (with_reducible repeat (first | apply Kd.N_alloc | apply Kd.N_drewN | apply Kd.N_drew)); exact HO_11.out) hg hat); have n2_ := Aside0.mk (hb); have n3_ := Aside0.mk (ho); clear HO_9; clear HO_11; clear HB; clear HO_10; have HO_9 := n0_; have HO_11 := n1_; have HB := n2_; have HO120 := n3_; clear n0_ n1_ n2_ n3_; clear ho hb hg hat))
                      go_roundg k2
                      case measure => have := HJ3.out; have := HK2.out; omega
                      case rel => exact ⟨(y118), (wrap64 (x12_2 + 1)), (by first | rfl | (simp; done) | (simp [*]; done)), H', ⟨by have := HJ3.out; have := HK2.out; omega⟩, ⟨by (with_reducible repeat (first | apply Kd.N_alloc | apply Kd.N_drewN | apply Kd.N_drew)); exact Kd.N_mono HO_9.out (fun _ hk => ⟨hk.2, hk.1⟩)⟩, ⟨by (with_reducible repeat (first | apply Kd.R_alloc | apply Kd.R_drewN | apply Kd.R_drew)); exact HO120.out⟩, ⟨by (with_reducible repeat (first | apply Kd.N_alloc | apply Kd.N_drewN | apply Kd.N_drew)); exact HO_11.out⟩, ⟨by repeat (first | (with_reducible first | exact HB.out | apply below_alloc | apply pw_below_drewN | apply below_drew1) | exact HB.out)⟩⟩
                    · rw [if_neg c27] at H
                      exact absurd H (by simp)
                  · rw [if_neg c26] at H
                    have c26b0 : decide (x12_2 < (y109.length : Int)) = false := decide_eq_false c26
                    clear c26
                    have H' := Aside0.mk H
                    clear H
                    go_wp2
                    go_loopg [10, 11, 13] k2 (fun kq v10 v11 v13 w' => ∃ (x10_3 : List Int) (x11_3 : List (List Int)) (x13_3 : Int), v13 = .int .i64 x13_3 ∧ Aside0 (kinkeeplaw04_MatrixAnyRows.l1 kq a0 l2 y109 x10_3 x11_3 x13_3 = some r) ∧ Aside0 (kq ≤ k2) ∧ Aside0 (Kd.N (Kd.slice 5 (Kd.int .u8)) 34 w' w.heap.size (fun k_ => some k_ ≠ (v10 : Value).ownBlock ∧ some k_ ≠ (v11 : Value).ownBlock) (.slice Ao21 y109.length co21) y109) ∧ Aside0 (Kd.R (Kd.int .i64) 3 w' w.heap.size (fun _ => True) v10 x10_3) ∧ Aside0 (Kd.N (Kd.slice 5 (Kd.int .u8)) 34 w' w.heap.size (fun k_ => some k_ ≠ ((.slice Ao21 y109.length co21) : Value).ownBlock ∧ some k_ ≠ (v10 : Value).ownBlock) v11 x11_3) ∧ Aside0 (Below w.heap.size w w'))
                    case atStart => exact ⟨(x10_2), (y115), (0), (by first | rfl | (simp; done) | (simp [*]; done)), H', ⟨Nat.le_refl _⟩, ⟨by (with_reducible repeat (first | apply Kd.N_alloc | apply Kd.N_drewN | apply Kd.N_drew)); exact HO_9.out⟩, ⟨by (with_reducible repeat (first | apply Kd.R_alloc | apply Kd.R_drewN | apply Kd.R_drew)); exact HO_10.out⟩, ⟨by (with_reducible repeat (first | apply Kd.N_alloc | apply Kd.N_drewN | apply Kd.N_drew)); exact HO_11.out⟩, ⟨by repeat (first | (with_reducible first | exact HB.out | apply below_alloc | apply pw_below_drewN | apply below_drew1) | exact HB.out)⟩⟩
                    case round =>
                      clear H'; (try clear c1); (try clear c2); (try clear p2); (try clear c4); (try clear c5); (try clear c5b0); (try clear c6); (try clear c6b0); (try clear p6); (try clear c7); (try clear c7b0); (try clear c8); (try clear c8b0); (try clear c9); (try clear c13); (try clear c13b0); (try clear c13b1); (try clear c15); (try clear c16); (try clear c16b0); (try clear c16b1); (try clear c26); (try clear c26b0); (try clear c27); (try clear p2); (try clear p6)
                      obtain ⟨x10_3, x11_3, x13_3, rfl, HA, HK3, HO_9, HO_10, HO_11, HB⟩ := hrel
                      cases gk with
                      | zero => exact absurd HA.out (by simp [kinkeeplaw04_MatrixAnyRows.l1])
                      | succ k3 =>
                        have H := HA.out
                        clear HA
                        simp only [kinkeeplaw04_MatrixAnyRows.l1] at H
                        by_cases c29 : x13_3 < a0
                        · rw [if_pos c29] at H
                          have c29b0 : decide (x13_3 < a0) = true := decide_eq_true c29
                          clear c29
                          by_cases c30 : x13_3 < (l2.length : Int)
                          · rw [if_pos c30] at H
                            have c30b0 : decide (x13_3 < (l2.length : Int)) = true := decide_eq_true c30
                            clear c30
                            by_cases c31 : 0 ≤ x13_3
                            · rw [if_pos c31] at H
                              have c31b0 : decide (0 ≤ x13_3) = true := decide_eq_true c31
                              clear c31
                              by_cases c32 : (x10_3.length : Int) = 0
                              · rw [if_pos c32] at H
                                exact absurd H (by simp)
                              · rw [if_neg c32] at H
                                have c32b0 : ((x10_3.length : Int) == 0) = false := beq_eq_false_iff_ne.mpr c32
                                have c32b1 : ((x10_3.length : Int) != 0) = true := bne_iff_ne.mpr c32
                                have c32b2 : ¬ (x10_3 = []) := fun h_ => c32 (by rw [h_]; rfl)
                                obtain ⟨ji33, hji33⟩ : ∃ j_ : Int, (Int.tmod (wrap64 (rd l2 x13_3)) (x10_3.length : Int)) = j_ := ⟨_, rfl⟩
                                replace H : (if 0 ≤ (ji33) then (if (ji33) < (x10_3.length : Int) then (if 0 ≤ (rd x10_3 (ji33)) then (if (rd x10_3 (ji33)) < (y109.length : Int) then (if x11_3.length < 5864062014805 then ((some (([] : List Int) : List Int)).bind fun y127 => (if (ji33) ≤ (x10_3.length : Int) then ((some (x10_3.take ((ji33) : Int).toNat : List Int)).bind fun y130 => (if y127.length + y130.length < 17592186044416 then ((some (y127 ++ y130 : List Int)).bind fun y135 => (if 0 ≤ (wrap64 ((ji33) + 1)) then (if (wrap64 ((ji33) + 1)) ≤ (x10_3.length : Int) then ((some (x10_3.drop ((wrap64 ((ji33) + 1)) : Int).toNat : List Int)).bind fun y138 => (if y135.length + y138.length < 17592186044416 then (kinkeeplaw04_MatrixAnyRows.l1 k3 a0 l2 y109 (y135 ++ y138) (x11_3 ++ [rd_L1 y109 (rd x10_3 (ji33))]) (wrap64 (x13_3 + 1))) else (none))) else (none)) else (none))) else (none))) else (none))) else (none)) else (none)) else (none)) else (none)) else (none)) = some r := by first | (rw [hji33] at H; exact H) | (simp only [hji33] at H ⊢; exact H)
                                by_cases c34 : 0 ≤ (ji33)
                                · rw [if_pos c34] at H
                                  have c34b0 : decide (0 ≤ (ji33)) = true := decide_eq_true c34
                                  clear c34
                                  by_cases c35 : (ji33) < (x10_3.length : Int)
                                  · rw [if_pos c35] at H
                                    have c35b0 : decide ((ji33) < (x10_3.length : Int)) = true := decide_eq_true c35
                                    clear c35
                                    by_cases c36 : 0 ≤ (rd x10_3 (ji33))
                                    · rw [if_pos c36] at H
                                      have c36b0 : decide (0 ≤ (rd x10_3 (ji33))) = true := decide_eq_true c36
                                      clear c36
                                      by_cases c37 : (rd x10_3 (ji33)) < (y109.length : Int)
                                      · rw [if_pos c37] at H
                                        have c37b0 : decide ((rd x10_3 (ji33)) < (y109.length : Int)) = true := decide_eq_true c37
                                        clear c37
                                        by_cases c38 : x11_3.length < 5864062014805
                                        · rw [if_pos c38] at H
                                          have LMc38 := Aside0.mk c38
                                          clear c38
                                          obtain ⟨y124, hy124⟩ : ∃ y_ : List (List Int), y_ = (x11_3 ++ [rd_L1 y109 (rd x10_3 (ji33))]) := ⟨_, rfl⟩
                                          replace H : ((some (([] : List Int) : List Int)).bind fun y127 => (if (ji33) ≤ (x10_3.length : Int) then ((some (x10_3.take ((ji33) : Int).toNat : List Int)).bind fun y130 => (if y127.length + y130.length < 17592186044416 then ((some (y127 ++ y130 : List Int)).bind fun y135 => (if 0 ≤ (wrap64 ((ji33) + 1)) then (if (wrap64 ((ji33) + 1)) ≤ (x10_3.length : Int) then ((some (x10_3.drop ((wrap64 ((ji33) + 1)) : Int).toNat : List Int)).bind fun y138 => (if y135.length + y138.length < 17592186044416 then (kinkeeplaw04_MatrixAnyRows.l1 k3 a0 l2 y109 (y135 ++ y138) y124 (wrap64 (x13_3 + 1))) else (none))) else (none)) else (none))) else (none))) else (none))) = some r := by first | (rw [hy124]; with_reducible exact H) | (have H2_ := (Option.bind_some _ _).symm.trans H; rw [hy124]; with_reducible exact H2_) | (have H2_ := (Option.bind_some _ _).symm.trans H; with_reducible exact H2_) | with_reducible exact H | (rw [hy124]; exact H) | exact H
                                          have Ny124 := Aside0.mk hy124
                                          clear hy124
                                          obtain ⟨y127, hy127⟩ : ∃ y_ : List Int, y_ = (([] : List Int)) := ⟨_, rfl⟩
                                          replace H : (if (ji33) ≤ (x10_3.length : Int) then ((some (x10_3.take ((ji33) : Int).toNat : List Int)).bind fun y130 => (if y127.length + y130.length < 17592186044416 then ((some (y127 ++ y130 : List Int)).bind fun y135 => (if 0 ≤ (wrap64 ((ji33) + 1)) then (if (wrap64 ((ji33) + 1)) ≤ (x10_3.length : Int) then ((some (x10_3.drop ((wrap64 ((ji33) + 1)) : Int).toNat : List Int)).bind fun y138 => (if y135.length + y138.length < 17592186044416 then (kinkeeplaw04_MatrixAnyRows.l1 k3 a0 l2 y109 (y135 ++ y138) y124 (wrap64 (x13_3 + 1))) else (none))) else (none)) else (none))) else (none))) else (none)) = some r := by first | (rw [hy127]; with_reducible exact H) | (have H2_ := (Option.bind_some _ _).symm.trans H; rw [hy127]; with_reducible exact H2_) | (have H2_ := (Option.bind_some _ _).symm.trans H; with_reducible exact H2_) | with_reducible exact H | (rw [hy127]; exact H) | exact H
                                          have Ny127 := Aside0.mk hy127
                                          clear hy127
                                          have c39b0 := eq_true (of_decide_eq_true (by first | (with_reducible assumption) | assumption) : 0 ≤ (ji33))
                                          by_cases c40 : (ji33) ≤ (x10_3.length : Int)
                                          · rw [if_pos c40] at H
                                            have c40b0 := eq_true c40
                                            have c40b1 : decide ((ji33) ≤ (x10_3.length : Int)) = true := decide_eq_true c40
                                            clear c40
                                            obtain ⟨y130, hy130⟩ : ∃ y_ : List Int, y_ = (x10_3.take ((ji33) : Int).toNat) := ⟨_, rfl⟩
                                            replace H : (if y127.length + y130.length < 17592186044416 then ((some (y127 ++ y130 : List Int)).bind fun y135 => (if 0 ≤ (wrap64 ((ji33) + 1)) then (if (wrap64 ((ji33) + 1)) ≤ (x10_3.length : Int) then ((some (x10_3.drop ((wrap64 ((ji33) + 1)) : Int).toNat : List Int)).bind fun y138 => (if y135.length + y138.length < 17592186044416 then (kinkeeplaw04_MatrixAnyRows.l1 k3 a0 l2 y109 (y135 ++ y138) y124 (wrap64 (x13_3 + 1))) else (none))) else (none)) else (none))) else (none)) = some r := by first | (rw [hy130]; with_reducible exact H) | (have H2_ := (Option.bind_some _ _).symm.trans H; rw [hy130]; with_reducible exact H2_) | (have H2_ := (Option.bind_some _ _).symm.trans H; with_reducible exact H2_) | with_reducible exact H | (rw [hy130]; exact H) | exact H
                                            have Ny130 := Aside0.mk hy130
                                            clear hy130
                                            by_cases c41 : y127.length + y130.length < 17592186044416
                                            · rw [if_pos c41] at H
                                              have LMc41 := Aside0.mk c41
                                              clear c41
                                              obtain ⟨y135, hy135⟩ : ∃ y_ : List Int, y_ = (y127 ++ y130) := ⟨_, rfl⟩
                                              replace H : (if 0 ≤ (wrap64 ((ji33) + 1)) then (if (wrap64 ((ji33) + 1)) ≤ (x10_3.length : Int) then ((some (x10_3.drop ((wrap64 ((ji33) + 1)) : Int).toNat : List Int)).bind fun y138 => (if y135.length + y138.length < 17592186044416 then (kinkeeplaw04_MatrixAnyRows.l1 k3 a0 l2 y109 (y135 ++ y138) y124 (wrap64 (x13_3 + 1))) else (none))) else (none)) else (none)) = some r := by first | (rw [hy135]; with_reducible exact H) | (have H2_ := (Option.bind_some _ _).symm.trans H; rw [hy135]; with_reducible exact H2_) | (have H2_ := (Option.bind_some _ _).symm.trans H; with_reducible exact H2_) | with_reducible exact H | (rw [hy135]; exact H) | exact H
                                              have Ny135 := Aside0.mk hy135
                                              clear hy135
                                              obtain ⟨ji42, hji42⟩ : ∃ j_ : Int, (wrap64 ((ji33) + 1)) = j_ := ⟨_, rfl⟩
                                              replace H : (if 0 ≤ (ji42) then (if (ji42) ≤ (x10_3.length : Int) then ((some (x10_3.drop ((ji42) : Int).toNat : List Int)).bind fun y138 => (if y135.length + y138.length < 17592186044416 then (kinkeeplaw04_MatrixAnyRows.l1 k3 a0 l2 y109 (y135 ++ y138) y124 (wrap64 (x13_3 + 1))) else (none))) else (none)) else (none)) = some r := by first | (rw [hji42] at H; exact H) | (simp only [hji42] at H ⊢; exact H)
                                              have hji42w : (IntKind.i64.wrap ((ji33) + 1)) = ji42 := (i64_w _).trans hji42
                                              by_cases c43 : 0 ≤ (ji42)
                                              · rw [if_pos c43] at H
                                                have c43b0 := eq_true c43
                                                have c43b1 : decide (0 ≤ (ji42)) = true := decide_eq_true c43
                                                clear c43
                                                by_cases c44 : (ji42) ≤ (x10_3.length : Int)
                                                · rw [if_pos c44] at H
                                                  have c44b0 := eq_true c44
                                                  have c44b1 : decide ((ji42) ≤ (x10_3.length : Int)) = true := decide_eq_true c44
                                                  clear c44
                                                  obtain ⟨y138, hy138⟩ : ∃ y_ : List Int, y_ = (x10_3.drop ((ji42) : Int).toNat) := ⟨_, rfl⟩
                                                  replace H : (if y135.length + y138.length < 17592186044416 then (kinkeeplaw04_MatrixAnyRows.l1 k3 a0 l2 y109 (y135 ++ y138) y124 (wrap64 (x13_3 + 1))) else (none)) = some r := by first | (rw [hy138]; with_reducible exact H) | (have H2_ := (Option.bind_some _ _).symm.trans H; rw [hy138]; with_reducible exact H2_) | (have H2_ := (Option.bind_some _ _).symm.trans H; with_reducible exact H2_) | with_reducible exact H | (rw [hy138]; exact H) | exact H
                                                  have Ny138 := Aside0.mk hy138
                                                  clear hy138
                                                  by_cases c45 : y135.length + y138.length < 17592186044416
                                                  · rw [if_pos c45] at H
                                                    have LMc45 := Aside0.mk c45
                                                    clear c45
                                                    obtain ⟨y143, hy143⟩ : ∃ y_ : List Int, y_ = (y135 ++ y138) := ⟨_, rfl⟩
                                                    replace H : (kinkeeplaw04_MatrixAnyRows.l1 k3 a0 l2 y109 y143 y124 (wrap64 (x13_3 + 1))) = some r := by first | (rw [hy143]; with_reducible exact H) | (have H2_ := (Option.bind_some _ _).symm.trans H; rw [hy143]; with_reducible exact H2_) | (have H2_ := (Option.bind_some _ _).symm.trans H; with_reducible exact H2_) | with_reducible exact H | (rw [hy143]; exact H) | exact H
                                                    have Ny143 := Aside0.mk hy143
                                                    clear hy143
                                                    have H' := Aside0.mk H
                                                    clear H
                                                    have p121 : 0 ≤ (x13_3 : Int) := of_decide_eq_true (by first | (with_reducible assumption) | assumption)
                                                    have q121 : x13_3 < (l2.length : Int) := of_decide_eq_true (by first | (with_reducible assumption) | assumption)
                                                    obtain ⟨ad121, e121, hx121_0⟩ := Kd.at_int HR2.out x13_3 p121 q121
                                                    cases e121
                                                    replace hx121_0 := (HB.out.cell (World.block_lt_of_cell? w _ hx121_0)).trans hx121_0
                                                    replace p121 := eq_true p121
                                                    replace q121 := eq_true q121
                                                    obtain ⟨Ao46, co46, eo46⟩ := Kd.R_slice HO_10.out
                                                    subst eo46
                                                    have p122 : 0 ≤ ((ji33) : Int) := of_decide_eq_true (by first | (with_reducible assumption) | assumption)
                                                    have q122 : (ji33) < (x10_3.length : Int) := of_decide_eq_true (by first | (with_reducible assumption) | assumption)
                                                    obtain ⟨ad122, e122, hx122_0⟩ := Kd.at_int (Kd.R_reads' HO_10.out).2.2 (ji33) p122 q122
                                                    cases e122
                                                    replace p122 := eq_true p122
                                                    replace q122 := eq_true q122
                                                    have p123 : 0 ≤ ((rd x10_3 (ji33)) : Int) := of_decide_eq_true (by first | (with_reducible assumption) | assumption)
                                                    have q123 : (rd x10_3 (ji33)) < (y109.length : Int) := of_decide_eq_true (by first | (with_reducible assumption) | assumption)
                                                    obtain ⟨ad123, A123_0, c123_0, e123, hx123_0, hl123_0, hi123_0⟩ := at_L1 (Kd.N_reads' HO_9.out).2.2 (rd x10_3 (ji33)) p123 q123
                                                    cases e123
                                                    obtain ⟨ce123, hce123, hMe123, hcc123⟩ := Kd.N_get HO_9.out [] (rd x10_3 (ji33)) p123 (by first | exact q123 | exact of_decide_eq_true (by first | (with_reducible assumption) | assumption) | (have e_ := (Kd.N_reads' HO_9.out).1; omega))
                                                    obtain ⟨ua123_0, uc123_0, rfl, ul123_0, ge123_0⟩ := Kd.FK_slice_open hMe123
                                                    have hv123_0 := hcc123 0 _ rfl
                                                    rw [Nat.add_zero, show ((Kd.slice 5 (Kd.int .u8))).sz = 1 from rfl, Nat.mul_one] at hv123_0
                                                    replace hv123_0 := Option.some.inj (hv123_0.symm.trans hx123_0)
                                                    injection hv123_0 with hva_ hvn_ hvc_
                                                    rw [hva_] at ge123_0
                                                    rw [hvc_] at ul123_0
                                                    have HL123_0 := Aside0.mk (show Kd.V (Kd.int .u8) 5 _ w.heap.size _ _ (rd_L1 y109 (rd x10_3 (ji33))) from Kd.V_mk ul123_0 ge123_0)
                                                    clear hva_ hvn_ hvc_ ge123_0 ul123_0; clear hcc123 hce123
                                                    have HR123_0 := Aside0.mk hi123_0
                                                    have HC123_0 := Aside0.mk hl123_0
                                                    clear hi123_0 hl123_0
                                                    replace p123 := eq_true p123
                                                    replace q123 := eq_true q123
                                                    try go_wp2_with (first | ((with_reducible refine gate_builtin (b := .append) (xs := #[.tmp 84, .tmp 92]) rfl ?_); (try (refine gate_guard (by rfl) ?_; dsimp only)); at_builtin; refine Kd.N_append (Kd.slice 5 (Kd.int .u8)) (w0 := w) w.heap.size rfl (.tmp 84) (.tmp 92) 22 34 (.slice none 0 0) 24 rfl Try.underlying22 info34 rfl (by decide) (by omega) u11 x11_3 (rd_L1 y109 (rd x10_3 (ji33))) [.slice A123_0 (rd_L1 y109 (rd x10_3 (ji33))).length c123_0] (fun k_ => some k_ ≠ (.slice (some ad123) y109.length co21 : Value).ownBlock ∧ some k_ ≠ (.slice (some ad122) x10_3.length co46 : Value).ownBlock) (fun k_ => ((fun k_ => some k_ ≠ (.slice (some ad123) y109.length co21 : Value).ownBlock ∧ some k_ ≠ (.slice (some ad122) x10_3.length co46 : Value).ownBlock)) k_ ∧ some k_ ≠ (u11 : Value).ownBlock) rfl rfl ?aP (fun _ hk => hk) ?aF ?aO ?aB ?aS ?aL ?_; (case aP => exact (Kd.FK_slice_mk (Kd.V_reads' (Kd.V_mono (ok' := (fun k_ => ((fun k_ => some k_ ≠ (.slice (some ad123) y109.length co21 : Value).ownBlock ∧ some k_ ≠ (.slice (some ad122) x10_3.length co46 : Value).ownBlock)) k_ ∧ some k_ ≠ (u11 : Value).ownBlock)) (HL123_0.out) (fun k_ hk => ⟨⟨hk.2, hk.1.1⟩, hk.1.2⟩))).2.1 (Kd.V_F (Kd.V_mono (ok' := (fun k_ => ((fun k_ => some k_ ≠ (.slice (some ad123) y109.length co21 : Value).ownBlock ∧ some k_ ≠ (.slice (some ad122) x10_3.length co46 : Value).ownBlock)) k_ ∧ some k_ ≠ (u11 : Value).ownBlock)) (HL123_0.out) (fun k_ hk => ⟨⟨hk.2, hk.1.1⟩, hk.1.2⟩))))); (case aB => exact (by repeat (first | (with_reducible first | exact HB.out | apply below_alloc | apply pw_below_drewN | apply below_drew1) | exact HB.out))); (case aF => exact (fun k_ hk => ⟨Kd.fresh' (Kd.N_lt (by (with_reducible repeat (first | apply Kd.N_alloc | apply Kd.N_drewN | apply Kd.N_drew)); exact HO_9.out)) k_ hk, Kd.fresh' (Kd.R_lt (by (with_reducible repeat (first | apply Kd.R_alloc | apply Kd.R_drewN | apply Kd.R_drew)); exact HO_10.out)) k_ hk⟩)); (case aO => exact (by (with_reducible repeat (first | apply Kd.N_alloc | apply Kd.N_drewN | apply Kd.N_drew)); exact HO_11.out)); (case aS => exact (below_size (by repeat (first | (with_reducible first | exact HB.out | apply below_alloc | apply pw_below_drewN | apply below_drew1) | exact HB.out)))); (case aL => have := LMc38.out; omega); intro v125 w47 ho hb hg hat; rw [← Ny124.out] at ho; have n0_ := Aside0.mk (Kd.N_afterv (ok := (fun k_ => some k_ ≠ (.slice (some ad122) x10_3.length co46 : Value).ownBlock)) (by (with_reducible repeat (first | apply Kd.N_alloc | apply Kd.N_drewN | apply Kd.N_drew)); exact HO_9.out) hg hat); have n1_ := Aside0.mk (Kd.R_over' (by (with_reducible repeat (first | apply Kd.R_alloc | apply Kd.R_drewN | apply Kd.R_drew)); exact HO_10.out) (Kd.N_typed (by (with_reducible repeat (first | apply Kd.N_alloc | apply Kd.N_drewN | apply Kd.N_drew)); exact HO_11.out)) (by decide) hg); have n2_ := Aside0.mk (Kd.V_afterv (ok := (fun k_ => some k_ ≠ (.slice (some ad123) y109.length co21 : Value).ownBlock ∧ some k_ ≠ (.slice (some ad122) x10_3.length co46 : Value).ownBlock)) (by (with_reducible repeat (first | apply Kd.V_alloc | apply Kd.V_drewN | apply Kd.V_drew)); exact Kd.V_mono HL123_0.out (fun _ hk => ⟨⟨hk.2, hk.1.1⟩, hk.1.2⟩)) hg hat); have n3_ := Aside0.mk (hb); have n4_ := Aside0.mk (ho); clear HO_9; clear HO_10; clear HL123_0; clear HB; clear HO_11; have HO_9 := n0_; have HO_10 := n1_; have HL123_0 := n2_; have HB := n3_; have HO126 := n4_; clear n0_ n1_ n2_ n3_ n4_; clear ho hb hg hat))
                                                    have n0_ := Aside0.mk (Kd.N_drew HO_9.out)
                                                    have n1_ := Aside0.mk (Kd.R_drew HO_10.out)
                                                    have n2_ := Aside0.mk (Kd.V_drew HL123_0.out)
                                                    have n3_ := Aside0.mk (Kd.N_drew HO126.out)
                                                    have n4_ := Aside0.mk (below_drew1 HB.out)
                                                    clear HO_9; clear HO_10; clear HL123_0; clear HO126; clear HB
                                                    have HO_9 := n0_
                                                    have HO_10 := n1_
                                                    have HL123_0 := n2_
                                                    have HO126 := n3_
                                                    have HB := n4_
                                                    clear n0_ n1_ n2_ n3_ n4_
                                                    have q49 : ((ji33) : Int) ≤ ((x10_3.length : Int) : Int) := of_decide_eq_true (by first | (with_reducible assumption) | assumption)
                                                    obtain ⟨i049, hi049, _, hsz49, _⟩ := info_parts info3
                                                    have hroom49 : x10_3.length ≤ co46 := (Kd.R_reads' HO_10.out).2.1
                                                    have hC49 : Kd.F (Kd.int .i64) _ _ (some ad122) x10_3.length x10_3 := (Kd.V_at (base := w.heap.size) (Kd.R_V (Kd.R_apart' (Kd.R_apart' (HO_10.out) (Kd.N_typed HO_9.out) (by decide)) (Kd.N_typed HO126.out) (by decide)))).2.2
                                                    have hcut49 := cut_to (P := Try.prog) 29 3 .i64 Try.underlying29 hi049 (some ad122) x10_3.length co46 (ji33) (of_decide_eq_true (by first | (with_reducible assumption) | assumption)) q49 hroom49
                                                    have hr49 := Kd.F_take (m := ((ji33) : Int).toNat) hC49 (by omega)
                                                    have hy49 : y130.length = ((ji33) : Int).toNat := (by rw [Ny130.out, List.length_take]; omega)
                                                    rw [← Ny130.out] at hr49
                                                    rw [← hy49] at hcut49
                                                    have HO134 := Aside0.mk (show Kd.V (Kd.int .i64) 3 _ w.heap.size _ (.slice (some ad122) y130.length co46) y130 from Kd.V_mk (by omega) hr49)
                                                    have HC134 := Aside0.mk (show y130.length ≤ co46 from by omega)
                                                    clear hr49 hC49 hroom49 hi049 hsz49
                                                    have KY49 := Aside0.mk hy49
                                                    clear hy49
                                                    replace q49 := eq_true q49
                                                    have q50 : ((ji42) : Int) ≤ ((x10_3.length : Int) : Int) := of_decide_eq_true (by first | (with_reducible assumption) | assumption)
                                                    obtain ⟨i050, hi050, _, hsz50, _⟩ := info_parts info3
                                                    have hroom50 : x10_3.length ≤ co46 := (Kd.R_reads' HO_10.out).2.1
                                                    have hC50 : Kd.F (Kd.int .i64) _ _ (some ad122) x10_3.length x10_3 := (Kd.V_at (base := w.heap.size) (Kd.R_V (Kd.R_apart' (Kd.R_apart' (HO_10.out) (Kd.N_typed HO_9.out) (by decide)) (Kd.N_typed HO126.out) (by decide)))).2.2
                                                    have q050 : (0 : Int) ≤ ((ji42) : Int) := of_decide_eq_true (by first | (with_reducible assumption) | assumption)
                                                    have hcut50 := cut_from (P := Try.prog) 29 3 .i64 Try.underlying29 hi050 1 hsz50 (some ad122) x10_3.length co46 (ji42) q050 q50
                                                    have hr50 := Kd.F_cut (m := ((ji42) : Int).toNat) (c := co46) hC50 (by omega) hroom50
                                                    obtain ⟨A50, hA50⟩ : ∃ A1, A1 = (if co46 = ((ji42) : Int).toNat then (some ad122) else ((some ad122) : Option Addr).map (·.add (((ji42) : Int).toNat * 1))) := ⟨_, rfl⟩
                                                    obtain ⟨c50, hc50⟩ : ∃ c1, c1 = co46 - ((ji42) : Int).toNat := ⟨_, rfl⟩
                                                    have hy50 : y138.length = x10_3.length - ((ji42) : Int).toNat := (by rw [Ny138.out, List.length_drop] <;> omega)
                                                    rw [show (x10_3).drop ((ji42) : Int).toNat = y138 from Ny138.out.symm] at hr50
                                                    replace hr50 : Kd.F (Kd.int .i64) _ _ A50 y138.length y138 := (by rw [hA50]; exact hr50)
                                                    rw [← hy50, ← hA50, ← hc50] at hcut50
                                                    have HO142 := Aside0.mk (show Kd.V (Kd.int .i64) 3 _ w.heap.size _ (.slice A50 y138.length c50) y138 from Kd.V_mk (by rw [hy50, hc50]; exact Nat.sub_le_sub_right hroom50 _) hr50)
                                                    have HC142 := Aside0.mk (show y138.length ≤ c50 from by rw [hy50, hc50]; exact Nat.sub_le_sub_right hroom50 _)
                                                    clear hr50 hC50 hroom50 hi050 hsz50 hc50
                                                    have KY50 := Aside0.mk hy50
                                                    have KA50 := Aside0.mk hA50
                                                    clear hy50 hA50
                                                    replace q50 := eq_true q50
                                                    refine start_ (n := 11) (S := fun w' => True) (ds := []) #[false, false, false, false, false, false, false, false, false, false, false] (by kernel_rfl) rfl rfl trivial (fun hHeld => ?_); refine with_tabW kinkeeplaw04_MatrixAnyRows.tab21 kinkeeplaw04_MatrixAnyRows.bits21 (fun HT_ HW_ => ?_)
                                                    generalize w47.drew = w48 at HO_9 HO_10 HL123_0 HO126 HB HO134 HO142 hHeld ⊢
                                                    refine pure_ (i := 1) (N := some 95) (v := ?_) (a' := ?_) #[false, true, false, false, false, false, false, false, false, false, false] rfl rfl (any_of HT_.out (by kernel_rfl)) (fun _ _ _ h => h) (Or.inl ⟨by rfl, ?_⟩) ?_ ?_
                                                    rotate_left
                                                    · intro w'
                                                      go_simp
                                                      with_reducible rfl
                                                    rotate_left
                                                    · simp only [Act.put, List.setIfInBounds_toArray, List.set_cons_zero, List.set_cons_succ, i64_w, i32_w]
                                                      rfl
                                                    refine pure_ (i := 2) (N := some 96) (v := ?_) (a' := ?_) #[false, true, true, false, false, false, false, false, false, false, false] rfl rfl (any_of HT_.out (by kernel_rfl)) (fun _ _ _ h => h) (Or.inl ⟨by rfl, ?_⟩) ?_ ?_
                                                    rotate_left
                                                    · intro w'
                                                      go_simp
                                                      with_reducible rfl
                                                    rotate_left
                                                    · simp only [Act.put, List.setIfInBounds_toArray, List.set_cons_zero, List.set_cons_succ, i64_w, i32_w]
                                                      rfl
                                                    refine pure_ (i := 3) (N := some 97) (v := ?_) (a' := ?_) #[false, true, true, true, false, false, false, false, false, false, false] rfl rfl (any_of HT_.out (by kernel_rfl)) (fun _ _ _ h => h) (Or.inl ⟨by rfl, ?_⟩) ?_ ?_
                                                    rotate_left
                                                    · intro w'
                                                      go_simp
                                                      with_reducible rfl
                                                    rotate_left
                                                    · simp only [Act.put, List.setIfInBounds_toArray, List.set_cons_zero, List.set_cons_succ, i64_w, i32_w]
                                                      rfl
                                                    refine pure_ (i := 5) (N := some 99) (v := ?_) (a' := ?_) #[false, true, true, true, false, true, false, false, false, false, false] rfl rfl (any_of HT_.out (by kernel_rfl)) (fun _ _ _ h => h) (Or.inl ⟨by rfl, ?_⟩) ?_ ?_
                                                    rotate_left
                                                    · intro w'
                                                      go_simp
                                                      with_reducible rfl
                                                    rotate_left
                                                    · simp only [Act.put, List.setIfInBounds_toArray, List.set_cons_zero, List.set_cons_succ, i64_w, i32_w]
                                                      rfl
                                                    refine pure_ (i := 6) (N := some 100) (v := ?_) (a' := ?_) #[false, true, true, true, false, true, true, false, false, false, false] rfl rfl (any_of HT_.out (by kernel_rfl)) (fun _ _ _ h => h) (Or.inl ⟨by rfl, ?_⟩) ?_ ?_
                                                    rotate_left
                                                    · intro w'
                                                      go_simp
                                                      with_reducible rfl
                                                    rotate_left
                                                    · simp only [Act.put, List.setIfInBounds_toArray, List.set_cons_zero, List.set_cons_succ, i64_w, i32_w]
                                                      rfl
                                                    refine pure_ (i := 7) (N := some 101) (v := ?_) (a' := ?_) #[false, true, true, true, false, true, true, true, false, false, false] rfl rfl (any_of HT_.out (by kernel_rfl)) (fun _ _ _ h => h) (Or.inl ⟨by rfl, ?_⟩) ?_ ?_
                                                    rotate_left
                                                    · intro w'
                                                      go_simp
                                                      with_reducible rfl
                                                    rotate_left
                                                    · simp only [Act.put, List.setIfInBounds_toArray, List.set_cons_zero, List.set_cons_succ, i64_w, i32_w]
                                                      rfl
                                                    refine pure_ (i := 8) (N := some 102) (v := ?_) (a' := ?_) #[false, true, true, true, false, true, true, true, true, false, false] rfl rfl (any_of HT_.out (by kernel_rfl)) (fun _ _ _ h => h) (Or.inl ⟨by rfl, ?_⟩) ?_ ?_
                                                    rotate_left
                                                    · intro w'
                                                      go_simp
                                                      with_reducible rfl
                                                    rotate_left
                                                    · simp only [Act.put, List.setIfInBounds_toArray, List.set_cons_zero, List.set_cons_succ, i64_w, i32_w]
                                                      rfl
                                                    refine one_ (i := 0) (N := some 94) #[true, true, true, true, false, true, true, true, true, false, false] rfl rfl (one_of HT_.out (by kernel_rfl)) (by decide) (fun K hK => ?_)
                                                    refine Kd.R_lit_step (Kd.int .i64) _ 3 ?hg (N := 94) ?hd (xs := ([] : List Int)) (inner := []) (ok := fun _ => True) (okp := fun _ => True) ?hr ?hp (fun _ hk => hk) trivial (Below.refl _ _) (Nat.le_refl _) (by simp) ?_; (case hd => rfl); (case hg => rfl); (case hr => first | (go_simp; done) | (go_simp; rfl)); (case hp => exact (Reps.none _ _))
                                                    intro v128 w51 ho52 hb hg_ hnew_
                                                    clear hg_ hnew_
                                                    (first | rw [← Ny127.out] at ho52 | (simp only [Int.reduceToNat] at ho52; rw [← Ny127.out] at ho52))
                                                    have n0_ := Aside0.mk (Kd.N_elder' (by (with_reducible repeat (first | apply Kd.N_alloc | apply Kd.N_drewN | apply Kd.N_drew)); exact HO_9.out) (Kd.R_base ho52) hb)
                                                    have n1_ := Aside0.mk (Kd.R_elder' (by (with_reducible repeat (first | apply Kd.R_alloc | apply Kd.R_drewN | apply Kd.R_drew)); exact HO_10.out) (Kd.R_base ho52) hb)
                                                    have n2_ := Aside0.mk (Kd.V_elder' (by (with_reducible repeat (first | apply Kd.V_alloc | apply Kd.V_drewN | apply Kd.V_drew)); exact HL123_0.out) (Kd.R_base ho52) hb)
                                                    have n3_ := Aside0.mk (Kd.N_elder' (by (with_reducible repeat (first | apply Kd.N_alloc | apply Kd.N_drewN | apply Kd.N_drew)); exact HO126.out) (Kd.R_base ho52) hb)
                                                    have n4_ := Aside0.mk (Kd.V_elder' (by (with_reducible repeat (first | apply Kd.V_alloc | apply Kd.V_drewN | apply Kd.V_drew)); exact HO134.out) (Kd.R_base ho52) hb)
                                                    have n5_ := Aside0.mk (Kd.V_elder' (by (with_reducible repeat (first | apply Kd.V_alloc | apply Kd.V_drewN | apply Kd.V_drew)); exact HO142.out) (Kd.R_base ho52) hb)
                                                    have n6_ := Aside0.mk (Kd.R_lower (Kd.R_new' ho52 (Kd.R_lt (by (with_reducible repeat (first | apply Kd.R_alloc | apply Kd.R_drewN | apply Kd.R_drew)); exact HO_10.out))) (below_size (by repeat (first | (with_reducible first | exact HB.out | apply below_alloc | apply pw_below_drewN | apply below_drew1) | exact HB.out))))
                                                    have n7_ := Aside0.mk (below_step (by repeat (first | (with_reducible first | exact HB.out | apply below_alloc | apply pw_below_drewN | apply below_drew1) | exact HB.out)) hb)
                                                    clear HO_9; clear HO_10; clear HL123_0; clear HO126; clear HO134; clear HO142; clear HB
                                                    have HO_9 := n0_
                                                    have HO_10 := n1_
                                                    have HL123_0 := n2_
                                                    have HO126 := n3_
                                                    have HO134 := n4_
                                                    have HO142 := n5_
                                                    have HO129 := n6_
                                                    have HB := n7_
                                                    clear n0_ n1_ n2_ n3_ n4_ n5_ n6_ n7_; clear hb ho52
                                                    refine hK.out _ _ trivial (fun hHeld => ?_)
                                                    clear hK K
                                                    refine norm_ (a' := ?_) ?_ ?_
                                                    rotate_left
                                                    · show Act.put _ (some 94) _ = _
                                                      simp only [Act.put, List.setIfInBounds_toArray, List.set_cons_zero, List.set_cons_succ, i64_w, i32_w]
                                                      rfl
                                                    refine one_ (i := 4) (N := some 98) #[true, true, true, true, true, true, true, true, true, false, false] rfl rfl (one_of HT_.out (by kernel_rfl)) (by decide) (fun K hK => ?_)
                                                    refine Kd.R_append_rows_step (Kd.int .i64) (w0 := w) w.heap.size (by rfl) (.tmp 94) (.tmp 97) 29 3 (.int .i64 0) 8 rfl Try.underlying29 info3 rfl (by decide) (by omega) v128 y127 y130 _ _ _ (fun k_ => some k_ ≠ (.slice (some ad122) x10_3.length co46 : Value).ownBlock) (fun _ => False) rfl rfl ?aO ?aR (fun _ _ h => h) (fun _ h => h.elim) ?aF ?aB ?aS ?aL ?_
                                                    (case aR => repeat (first | exact (Kd.V_reads' HO134.out).2.2 | (with_reducible refine Kd.C_alloc ?_ _) | (with_reducible refine Kd.C_drewN ?_ _) | (with_reducible refine Kd.C_drew ?_)))
                                                    (case aB => exact (by repeat (first | (with_reducible first | exact HB.out | apply below_alloc | apply pw_below_drewN | apply below_drew1) | exact HB.out)))
                                                    (case aF => exact (fun k_ hk => Kd.fresh' (Kd.R_lt (by (with_reducible repeat (first | apply Kd.R_alloc | apply Kd.R_drewN | apply Kd.R_drew)); exact HO_10.out)) k_ hk))
                                                    (case aO => exact (by (with_reducible repeat (first | apply Kd.R_alloc | apply Kd.R_drewN | apply Kd.R_drew)); exact Kd.R_mono HO129.out (fun _ hk => hk.2)))
                                                    (case aS => exact (below_size (by repeat (first | (with_reducible first | exact HB.out | apply below_alloc | apply pw_below_drewN | apply below_drew1) | exact HB.out))))
                                                    (case aL => have := LMc41.out; omega)
                                                    intro v136 w53 ho hb hg hat
                                                    rw [← Ny135.out] at ho
                                                    have n0_ := Aside0.mk (Kd.N_afterv (ok := (fun k_ => some k_ ≠ (.slice (some ad122) x10_3.length co46 : Value).ownBlock ∧ some k_ ≠ (v125 : Value).ownBlock)) (by (with_reducible repeat (first | apply Kd.N_alloc | apply Kd.N_drewN | apply Kd.N_drew)); exact HO_9.out) hg hat)
                                                    have n1_ := Aside0.mk (Kd.R_after (ok := (fun _ => True)) (by (with_reducible repeat (first | apply Kd.R_alloc | apply Kd.R_drewN | apply Kd.R_drew)); exact HO_10.out) hg hat)
                                                    have n2_ := Aside0.mk (Kd.V_afterv (ok := (fun k_ => some k_ ≠ (.slice (some ad123) y109.length co21 : Value).ownBlock ∧ some k_ ≠ (.slice (some ad122) x10_3.length co46 : Value).ownBlock ∧ some k_ ≠ (v125 : Value).ownBlock)) (by (with_reducible repeat (first | apply Kd.V_alloc | apply Kd.V_drewN | apply Kd.V_drew)); exact Kd.V_mono HL123_0.out (fun _ hk => ⟨⟨hk.1.1.1, ⟨hk.1.1.2, hk.1.2⟩⟩, hk.2⟩)) hg hat)
                                                    have n3_ := Aside0.mk (Kd.N_afterv (ok := (fun k_ => some k_ ≠ (.slice (some ad123) y109.length co21 : Value).ownBlock ∧ some k_ ≠ (.slice (some ad122) x10_3.length co46 : Value).ownBlock)) (by (with_reducible repeat (first | apply Kd.N_alloc | apply Kd.N_drewN | apply Kd.N_drew)); exact HO126.out) hg hat)
                                                    have n4_ := Aside0.mk (Kd.V_afterv (ok := (fun k_ => some k_ ≠ (.slice (some ad123) y109.length co21 : Value).ownBlock ∧ some k_ ≠ (v125 : Value).ownBlock)) (by (with_reducible repeat (first | apply Kd.V_alloc | apply Kd.V_drewN | apply Kd.V_drew)); exact Kd.V_mono HO134.out (fun _ hk => ⟨⟨hk.1.1.2, hk.1.2⟩, hk.2⟩)) hg hat)
                                                    have n5_ := Aside0.mk (Kd.V_afterv (ok := (fun k_ => some k_ ≠ (.slice (some ad123) y109.length co21 : Value).ownBlock ∧ some k_ ≠ (v125 : Value).ownBlock)) (by (with_reducible repeat (first | apply Kd.V_alloc | apply Kd.V_drewN | apply Kd.V_drew)); exact Kd.V_mono HO142.out (fun _ hk => ⟨⟨hk.1.1.2, hk.1.2⟩, hk.2⟩)) hg hat)
                                                    have n6_ := Aside0.mk (hb)
                                                    have n7_ := Aside0.mk (ho)
                                                    clear HO_9; clear HO_10; clear HL123_0; clear HO126; clear HO134; clear HO142; clear HB; clear HO129
                                                    have HO_9 := n0_
                                                    have HO_10 := n1_
                                                    have HL123_0 := n2_
                                                    have HO126 := n3_
                                                    have HO134 := n4_
                                                    have HO142 := n5_
                                                    have HB := n6_
                                                    have HO137 := n7_
                                                    clear n0_ n1_ n2_ n3_ n4_ n5_ n6_ n7_; clear ho hb hg hat
                                                    refine hK.out _ _ trivial (fun hHeld => ?_)
                                                    clear hK K
                                                    refine norm_ (a' := ?_) ?_ ?_
                                                    rotate_left
                                                    · show Act.put _ (some 98) _ = _
                                                      simp only [Act.put, List.setIfInBounds_toArray, List.set_cons_zero, List.set_cons_succ, i64_w, i32_w]
                                                      rfl
                                                    refine one_ (i := 9) (N := some 103) #[true, true, true, true, true, true, true, true, true, true, false] rfl rfl (one_of HT_.out (by kernel_rfl)) (by decide) (fun K hK => ?_)
                                                    refine Kd.R_append_rows_step (Kd.int .i64) (w0 := w) w.heap.size (by rfl) (.tmp 98) (.tmp 102) 29 3 (.int .i64 0) 8 rfl Try.underlying29 info3 rfl (by decide) (by omega) v136 y135 y138 _ _ _ (fun k_ => some k_ ≠ (.slice (some ad122) x10_3.length co46 : Value).ownBlock) (fun _ => False) rfl rfl ?aO ?aR (fun _ _ h => h) (fun _ h => h.elim) ?aF ?aB ?aS ?aL ?_
                                                    (case aR => repeat (first | exact (Kd.V_reads' HO142.out).2.2 | (with_reducible refine Kd.C_alloc ?_ _) | (with_reducible refine Kd.C_drewN ?_ _) | (with_reducible refine Kd.C_drew ?_)))
                                                    (case aB => exact (by repeat (first | (with_reducible first | exact HB.out | apply below_alloc | apply pw_below_drewN | apply below_drew1) | exact HB.out)))
                                                    (case aF => exact (fun k_ hk => Kd.fresh' (Kd.R_lt (by (with_reducible repeat (first | apply Kd.R_alloc | apply Kd.R_drewN | apply Kd.R_drew)); exact HO_10.out)) k_ hk))
                                                    (case aO => exact (by (with_reducible repeat (first | apply Kd.R_alloc | apply Kd.R_drewN | apply Kd.R_drew)); exact HO137.out))
                                                    (case aS => exact (below_size (by repeat (first | (with_reducible first | exact HB.out | apply below_alloc | apply pw_below_drewN | apply below_drew1) | exact HB.out))))
                                                    (case aL => have := LMc45.out; omega)
                                                    intro v144 w54 ho hb hg hat
                                                    rw [← Ny143.out] at ho
                                                    have n0_ := Aside0.mk (Kd.N_afterv (ok := (fun k_ => some k_ ≠ (.slice (some ad122) x10_3.length co46 : Value).ownBlock ∧ some k_ ≠ (v125 : Value).ownBlock)) (by (with_reducible repeat (first | apply Kd.N_alloc | apply Kd.N_drewN | apply Kd.N_drew)); exact HO_9.out) hg hat)
                                                    have n1_ := Aside0.mk (Kd.R_after (ok := (fun _ => True)) (by (with_reducible repeat (first | apply Kd.R_alloc | apply Kd.R_drewN | apply Kd.R_drew)); exact HO_10.out) hg hat)
                                                    have n2_ := Aside0.mk (Kd.V_afterv (ok := (fun k_ => some k_ ≠ (.slice (some ad123) y109.length co21 : Value).ownBlock ∧ some k_ ≠ (.slice (some ad122) x10_3.length co46 : Value).ownBlock ∧ some k_ ≠ (v125 : Value).ownBlock)) (by (with_reducible repeat (first | apply Kd.V_alloc | apply Kd.V_drewN | apply Kd.V_drew)); exact HL123_0.out) hg hat)
                                                    have n3_ := Aside0.mk (Kd.N_afterv (ok := (fun k_ => some k_ ≠ (.slice (some ad123) y109.length co21 : Value).ownBlock ∧ some k_ ≠ (.slice (some ad122) x10_3.length co46 : Value).ownBlock)) (by (with_reducible repeat (first | apply Kd.N_alloc | apply Kd.N_drewN | apply Kd.N_drew)); exact HO126.out) hg hat)
                                                    have n4_ := Aside0.mk (Kd.V_afterv (ok := (fun k_ => some k_ ≠ (.slice (some ad123) y109.length co21 : Value).ownBlock ∧ some k_ ≠ (v125 : Value).ownBlock)) (by (with_reducible repeat (first | apply Kd.V_alloc | apply Kd.V_drewN | apply Kd.V_drew)); exact HO134.out) hg hat)
                                                    have n5_ := Aside0.mk (Kd.V_afterv (ok := (fun k_ => some k_ ≠ (.slice (some ad123) y109.length co21 : Value).ownBlock ∧ some k_ ≠ (v125 : Value).ownBlock)) (by (with_reducible repeat (first | apply Kd.V_alloc | apply Kd.V_drewN | apply Kd.V_drew)); exact HO142.out) hg hat)
                                                    have n6_ := Aside0.mk (hb)
                                                    have n7_ := Aside0.mk (ho)
                                                    clear HO_9; clear HO_10; clear HL123_0; clear HO126; clear HO134; clear HO142; clear HB; clear HO137
                                                    have HO_9 := n0_
                                                    have HO_10 := n1_
                                                    have HL123_0 := n2_
                                                    have HO126 := n3_
                                                    have HO134 := n4_
                                                    have HO142 := n5_
                                                    have HB := n6_
                                                    have HO145 := n7_
                                                    clear n0_ n1_ n2_ n3_ n4_ n5_ n6_ n7_; clear ho hb hg hat
                                                    refine hK.out _ _ trivial (fun hHeld => ?_)
                                                    clear hK K
                                                    refine norm_ (a' := ?_) ?_ ?_
                                                    rotate_left
                                                    · show Act.put _ (some 103) _ = _
                                                      simp only [Act.put, List.setIfInBounds_toArray, List.set_cons_zero, List.set_cons_succ, i64_w, i32_w]
                                                      rfl
                                                    refine pure_ (i := 10) (N := some 10) (v := ?_) (a' := ?_) #[true, true, true, true, true, true, true, true, true, true, true] rfl rfl (any_of HT_.out (by kernel_rfl)) (fun _ _ _ h => h) (Or.inl ⟨by rfl, ?_⟩) ?_ ?_
                                                    rotate_left
                                                    · intro w'
                                                      go_simp
                                                      with_reducible rfl
                                                    rotate_left
                                                    · simp only [Act.put, List.setIfInBounds_toArray, List.set_cons_zero, List.set_cons_succ, i64_w, i32_w]
                                                      rfl
                                                    refine done_ (done_of HT_.out (by kernel_rfl)) ?_
                                                    try go_wp2
                                                    go_roundg k3
                                                    case measure => have := HJ3.out; have := HK2.out; have := HK3.out; omega
                                                    case rel => exact ⟨(y143), (y124), (wrap64 (x13_3 + 1)), (by first | rfl | (simp; done) | (simp [*]; done)), H', ⟨by have := HJ3.out; have := HK2.out; have := HK3.out; omega⟩, ⟨by (with_reducible repeat (first | apply Kd.N_alloc | apply Kd.N_drewN | apply Kd.N_drew)); exact Kd.N_mono HO_9.out (fun _ hk => ⟨hk.2, hk.1.2⟩)⟩, ⟨by (with_reducible repeat (first | apply Kd.R_alloc | apply Kd.R_drewN | apply Kd.R_drew)); exact Kd.R_mono HO145.out (fun _ hk => trivial)⟩, ⟨by (with_reducible repeat (first | apply Kd.N_alloc | apply Kd.N_drewN | apply Kd.N_drew)); exact Kd.N_mono HO126.out (fun _ hk => ⟨hk.1.1, hk.2⟩)⟩, ⟨by repeat (first | (with_reducible first | exact HB.out | apply below_alloc | apply pw_below_drewN | apply below_drew1) | exact HB.out)⟩⟩
                                                  · rw [if_neg c45] at H
                                                    exact absurd H (by simp)
                                                · rw [if_neg c44] at H
                                                  exact absurd H (by simp)
                                              · rw [if_neg c43] at H
                                                exact absurd H (by simp)
                                            · rw [if_neg c41] at H
                                              exact absurd H (by simp)
                                          · rw [if_neg c40] at H
                                            exact absurd H (by simp)
                                        · rw [if_neg c38] at H
                                          exact absurd H (by simp)
                                      · rw [if_neg c37] at H
                                        exact absurd H (by simp)
                                    · rw [if_neg c36] at H
                                      exact absurd H (by simp)
                                  · rw [if_neg c35] at H
                                    exact absurd H (by simp)
                                · rw [if_neg c34] at H
                                  exact absurd H (by simp)
                            · rw [if_neg c31] at H
                              exact absurd H (by simp)
                          · rw [if_neg c30] at H
                            have c30b0 : decide (x13_3 < (l2.length : Int)) = false := decide_eq_false c30
                            clear c30
                            by_cases c55 : 0 < (x10_3.length : Int)
                            · rw [if_pos c55] at H
                              have c55b0 : decide (0 < (x10_3.length : Int)) = true := decide_eq_true c55
                              have c55b1 : decide (0 < x10_3.length) = true := decide_eq_true (by omega)
                              clear c55
                              by_cases c56 : 0 ≤ (rd x10_3 0)
                              · rw [if_pos c56] at H
                                have c56b0 : decide (0 ≤ (rd x10_3 0)) = true := decide_eq_true c56
                                clear c56
                                by_cases c57 : (rd x10_3 0) < (y109.length : Int)
                                · rw [if_pos c57] at H
                                  have c57b0 : decide ((rd x10_3 0) < (y109.length : Int)) = true := decide_eq_true c57
                                  clear c57
                                  by_cases c58 : x11_3.length < 5864062014805
                                  · rw [if_pos c58] at H
                                    have LMc58 := Aside0.mk c58
                                    clear c58
                                    obtain ⟨y148, hy148⟩ : ∃ y_ : List (List Int), y_ = (x11_3 ++ [rd_L1 y109 (rd x10_3 0)]) := ⟨_, rfl⟩
                                    replace H : ((some (([] : List Int) : List Int)).bind fun y151 => (if 0 ≤ (x10_3.length : Int) then ((some (x10_3.take 0 : List Int)).bind fun y154 => (if y151.length + y154.length < 17592186044416 then ((some (y151 ++ y154 : List Int)).bind fun y159 => (if 0 ≤ ((0 : Int) + 1) then (if (0 + 1) ≤ (x10_3.length : Int) then ((some (x10_3.drop ((0 + 1) : Int).toNat : List Int)).bind fun y162 => (if y159.length + y162.length < 17592186044416 then (kinkeeplaw04_MatrixAnyRows.l1 k3 a0 l2 y109 (y159 ++ y162) y148 (wrap64 (x13_3 + 1))) else (none))) else (none)) else (none))) else (none))) else (none))) = some r := by first | (rw [hy148]; with_reducible exact H) | (have H2_ := (Option.bind_some _ _).symm.trans H; rw [hy148]; with_reducible exact H2_) | (have H2_ := (Option.bind_some _ _).symm.trans H; with_reducible exact H2_) | with_reducible exact H | (rw [hy148]; exact H) | exact H
                                    have Ny148 := Aside0.mk hy148
                                    clear hy148
                                    obtain ⟨y151, hy151⟩ : ∃ y_ : List Int, y_ = (([] : List Int)) := ⟨_, rfl⟩
                                    replace H : (if 0 ≤ (x10_3.length : Int) then ((some (x10_3.take 0 : List Int)).bind fun y154 => (if y151.length + y154.length < 17592186044416 then ((some (y151 ++ y154 : List Int)).bind fun y159 => (if 0 ≤ ((0 : Int) + 1) then (if (0 + 1) ≤ (x10_3.length : Int) then ((some (x10_3.drop ((0 + 1) : Int).toNat : List Int)).bind fun y162 => (if y159.length + y162.length < 17592186044416 then (kinkeeplaw04_MatrixAnyRows.l1 k3 a0 l2 y109 (y159 ++ y162) y148 (wrap64 (x13_3 + 1))) else (none))) else (none)) else (none))) else (none))) else (none)) = some r := by first | (rw [hy151]; with_reducible exact H) | (have H2_ := (Option.bind_some _ _).symm.trans H; rw [hy151]; with_reducible exact H2_) | (have H2_ := (Option.bind_some _ _).symm.trans H; with_reducible exact H2_) | with_reducible exact H | (rw [hy151]; exact H) | exact H
                                    have Ny151 := Aside0.mk hy151
                                    clear hy151
                                    by_cases c59 : 0 ≤ (x10_3.length : Int)
                                    · rw [if_pos c59] at H
                                      have c59b0 := eq_true c59
                                      have c59b1 : decide (0 ≤ (x10_3.length : Int)) = true := decide_eq_true c59
                                      clear c59
                                      obtain ⟨y154, hy154⟩ : ∃ y_ : List Int, y_ = (x10_3.take 0) := ⟨_, rfl⟩
                                      replace H : (if y151.length + y154.length < 17592186044416 then ((some (y151 ++ y154 : List Int)).bind fun y159 => (if 0 ≤ ((0 : Int) + 1) then (if (0 + 1) ≤ (x10_3.length : Int) then ((some (x10_3.drop ((0 + 1) : Int).toNat : List Int)).bind fun y162 => (if y159.length + y162.length < 17592186044416 then (kinkeeplaw04_MatrixAnyRows.l1 k3 a0 l2 y109 (y159 ++ y162) y148 (wrap64 (x13_3 + 1))) else (none))) else (none)) else (none))) else (none)) = some r := by first | (rw [hy154]; with_reducible exact H) | (have H2_ := (Option.bind_some _ _).symm.trans H; rw [hy154]; with_reducible exact H2_) | (have H2_ := (Option.bind_some _ _).symm.trans H; with_reducible exact H2_) | with_reducible exact H | (rw [hy154]; exact H) | exact H
                                      have Ny154 := Aside0.mk hy154
                                      clear hy154
                                      by_cases c60 : y151.length + y154.length < 17592186044416
                                      · rw [if_pos c60] at H
                                        have LMc60 := Aside0.mk c60
                                        clear c60
                                        obtain ⟨y159, hy159⟩ : ∃ y_ : List Int, y_ = (y151 ++ y154) := ⟨_, rfl⟩
                                        replace H : (if 0 ≤ ((0 : Int) + 1) then (if (0 + 1) ≤ (x10_3.length : Int) then ((some (x10_3.drop ((0 + 1) : Int).toNat : List Int)).bind fun y162 => (if y159.length + y162.length < 17592186044416 then (kinkeeplaw04_MatrixAnyRows.l1 k3 a0 l2 y109 (y159 ++ y162) y148 (wrap64 (x13_3 + 1))) else (none))) else (none)) else (none)) = some r := by first | (rw [hy159]; with_reducible exact H) | (have H2_ := (Option.bind_some _ _).symm.trans H; rw [hy159]; with_reducible exact H2_) | (have H2_ := (Option.bind_some _ _).symm.trans H; with_reducible exact H2_) | with_reducible exact H | (rw [hy159]; exact H) | exact H
                                        have Ny159 := Aside0.mk hy159
                                        clear hy159
                                        obtain ⟨ji61, hji61⟩ : ∃ j_ : Int, (0 + 1) = j_ := ⟨_, rfl⟩
                                        have wji61 : wrap64 ji61 = ji61 := by rw [← hji61]; unfold wrap64; omega
                                        replace H : (if 0 ≤ (ji61) then (if (ji61) ≤ (x10_3.length : Int) then ((some (x10_3.drop ((ji61) : Int).toNat : List Int)).bind fun y162 => (if y159.length + y162.length < 17592186044416 then (kinkeeplaw04_MatrixAnyRows.l1 k3 a0 l2 y109 (y159 ++ y162) y148 (wrap64 (x13_3 + 1))) else (none))) else (none)) else (none)) = some r := by first | (rw [hji61] at H; exact H) | (simp only [hji61] at H ⊢; exact H)
                                        by_cases c62 : 0 ≤ (ji61)
                                        · rw [if_pos c62] at H
                                          have c62b0 := eq_true c62
                                          have c62b1 : decide (0 ≤ (ji61)) = true := decide_eq_true c62
                                          clear c62
                                          by_cases c63 : (ji61) ≤ (x10_3.length : Int)
                                          · rw [if_pos c63] at H
                                            have c63b0 := eq_true c63
                                            have c63b1 : decide ((ji61) ≤ (x10_3.length : Int)) = true := decide_eq_true c63
                                            clear c63
                                            obtain ⟨y162, hy162⟩ : ∃ y_ : List Int, y_ = (x10_3.drop ((ji61) : Int).toNat) := ⟨_, rfl⟩
                                            replace H : (if y159.length + y162.length < 17592186044416 then (kinkeeplaw04_MatrixAnyRows.l1 k3 a0 l2 y109 (y159 ++ y162) y148 (wrap64 (x13_3 + 1))) else (none)) = some r := by first | (rw [hy162]; with_reducible exact H) | (have H2_ := (Option.bind_some _ _).symm.trans H; rw [hy162]; with_reducible exact H2_) | (have H2_ := (Option.bind_some _ _).symm.trans H; with_reducible exact H2_) | with_reducible exact H | (rw [hy162]; exact H) | exact H
                                            have Ny162 := Aside0.mk hy162
                                            clear hy162
                                            by_cases c64 : y159.length + y162.length < 17592186044416
                                            · rw [if_pos c64] at H
                                              have LMc64 := Aside0.mk c64
                                              clear c64
                                              obtain ⟨y167, hy167⟩ : ∃ y_ : List Int, y_ = (y159 ++ y162) := ⟨_, rfl⟩
                                              replace H : (kinkeeplaw04_MatrixAnyRows.l1 k3 a0 l2 y109 y167 y148 (wrap64 (x13_3 + 1))) = some r := by first | (rw [hy167]; with_reducible exact H) | (have H2_ := (Option.bind_some _ _).symm.trans H; rw [hy167]; with_reducible exact H2_) | (have H2_ := (Option.bind_some _ _).symm.trans H; with_reducible exact H2_) | with_reducible exact H | (rw [hy167]; exact H) | exact H
                                              have Ny167 := Aside0.mk hy167
                                              clear hy167
                                              have H' := Aside0.mk H
                                              clear H
                                              obtain ⟨Ao65, co65, eo65⟩ := Kd.R_slice HO_10.out
                                              subst eo65
                                              have p146 : 0 ≤ (0 : Int) := (by omega)
                                              have q146 : 0 < (x10_3.length : Int) := of_decide_eq_true (by first | (with_reducible assumption) | assumption)
                                              obtain ⟨ad146, e146, hx146_0⟩ := Kd.at_int (Kd.R_reads' HO_10.out).2.2 0 p146 q146
                                              cases e146
                                              have qi146 : (0 < x10_3.length) = True := eq_true (by omega)
                                              (try rw [show ((0 : Int)).toNat = 0 from rfl] at hx146_0)
                                              (try rw [Addr.add_zero'] at hx146_0)
                                              replace p146 := eq_true p146
                                              replace q146 := eq_true q146
                                              have p147 : 0 ≤ ((rd x10_3 0) : Int) := of_decide_eq_true (by first | (with_reducible assumption) | assumption)
                                              have q147 : (rd x10_3 0) < (y109.length : Int) := of_decide_eq_true (by first | (with_reducible assumption) | assumption)
                                              obtain ⟨ad147, A147_0, c147_0, e147, hx147_0, hl147_0, hi147_0⟩ := at_L1 (Kd.N_reads' HO_9.out).2.2 (rd x10_3 0) p147 q147
                                              cases e147
                                              obtain ⟨ce147, hce147, hMe147, hcc147⟩ := Kd.N_get HO_9.out [] (rd x10_3 0) p147 (by first | exact q147 | exact of_decide_eq_true (by first | (with_reducible assumption) | assumption) | (have e_ := (Kd.N_reads' HO_9.out).1; omega))
                                              obtain ⟨ua147_0, uc147_0, rfl, ul147_0, ge147_0⟩ := Kd.FK_slice_open hMe147
                                              have hv147_0 := hcc147 0 _ rfl
                                              rw [Nat.add_zero, show ((Kd.slice 5 (Kd.int .u8))).sz = 1 from rfl, Nat.mul_one] at hv147_0
                                              replace hv147_0 := Option.some.inj (hv147_0.symm.trans hx147_0)
                                              injection hv147_0 with hva_ hvn_ hvc_
                                              rw [hva_] at ge147_0
                                              rw [hvc_] at ul147_0
                                              have HL147_0 := Aside0.mk (show Kd.V (Kd.int .u8) 5 _ w.heap.size _ _ (rd_L1 y109 (rd x10_3 0)) from Kd.V_mk ul147_0 ge147_0)
                                              clear hva_ hvn_ hvc_ ge147_0 ul147_0; clear hcc147 hce147
                                              have HR147_0 := Aside0.mk hi147_0
                                              have HC147_0 := Aside0.mk hl147_0
                                              clear hi147_0 hl147_0
                                              replace p147 := eq_true p147
                                              replace q147 := eq_true q147
                                              try go_wp2_with (first | ((with_reducible refine gate_builtin (b := .append) (xs := #[.tmp 84, .tmp 92]) rfl ?_); (try (refine gate_guard (by rfl) ?_; dsimp only)); at_builtin; refine Kd.N_append (Kd.slice 5 (Kd.int .u8)) (w0 := w) w.heap.size rfl (.tmp 84) (.tmp 92) 22 34 (.slice none 0 0) 24 rfl Try.underlying22 info34 rfl (by decide) (by omega) u11 x11_3 (rd_L1 y109 (rd x10_3 0)) [.slice A147_0 (rd_L1 y109 (rd x10_3 0)).length c147_0] (fun k_ => some k_ ≠ (.slice (some ad147) y109.length co21 : Value).ownBlock ∧ some k_ ≠ (.slice (some ad146) x10_3.length co65 : Value).ownBlock) (fun k_ => ((fun k_ => some k_ ≠ (.slice (some ad147) y109.length co21 : Value).ownBlock ∧ some k_ ≠ (.slice (some ad146) x10_3.length co65 : Value).ownBlock)) k_ ∧ some k_ ≠ (u11 : Value).ownBlock) rfl rfl ?aP (fun _ hk => hk) ?aF ?aO ?aB ?aS ?aL ?_; (case aP => exact (Kd.FK_slice_mk (Kd.V_reads' (Kd.V_mono (ok' := (fun k_ => ((fun k_ => some k_ ≠ (.slice (some ad147) y109.length co21 : Value).ownBlock ∧ some k_ ≠ (.slice (some ad146) x10_3.length co65 : Value).ownBlock)) k_ ∧ some k_ ≠ (u11 : Value).ownBlock)) (HL147_0.out) (fun k_ hk => ⟨⟨hk.2, hk.1.1⟩, hk.1.2⟩))).2.1 (Kd.V_F (Kd.V_mono (ok' := (fun k_ => ((fun k_ => some k_ ≠ (.slice (some ad147) y109.length co21 : Value).ownBlock ∧ some k_ ≠ (.slice (some ad146) x10_3.length co65 : Value).ownBlock)) k_ ∧ some k_ ≠ (u11 : Value).ownBlock)) (HL147_0.out) (fun k_ hk => ⟨⟨hk.2, hk.1.1⟩, hk.1.2⟩))))); (case aB => exact (by repeat (first | (with_reducible first | exact HB.out | apply below_alloc | apply pw_below_drewN | apply below_drew1) | exact HB.out))); (case aF => exact (fun k_ hk => ⟨Kd.fresh' (Kd.N_lt (by (with_reducible repeat (first | apply Kd.N_alloc | apply Kd.N_drewN | apply Kd.N_drew)); exact HO_9.out)) k_ hk, Kd.fresh' (Kd.R_lt (by (with_reducible repeat (first | apply Kd.R_alloc | apply Kd.R_drewN | apply Kd.R_drew)); exact HO_10.out)) k_ hk⟩)); (case aO => exact (by (with_reducible repeat (first | apply Kd.N_alloc | apply Kd.N_drewN | apply Kd.N_drew)); exact HO_11.out)); (case aS => exact (below_size (by repeat (first | (with_reducible first | exact HB.out | apply below_alloc | apply pw_below_drewN | apply below_drew1) | exact HB.out)))); (case aL => have := LMc58.out; omega); intro v149 w66 ho hb hg hat; rw [← Ny148.out] at ho; have n0_ := Aside0.mk (Kd.N_afterv (ok := (fun k_ => some k_ ≠ (.slice (some ad146) x10_3.length co65 : Value).ownBlock)) (by (with_reducible repeat (first | apply Kd.N_alloc | apply Kd.N_drewN | apply Kd.N_drew)); exact HO_9.out) hg hat); have n1_ := Aside0.mk (Kd.R_over' (by (with_reducible repeat (first | apply Kd.R_alloc | apply Kd.R_drewN | apply Kd.R_drew)); exact HO_10.out) (Kd.N_typed (by (with_reducible repeat (first | apply Kd.N_alloc | apply Kd.N_drewN | apply Kd.N_drew)); exact HO_11.out)) (by decide) hg); have n2_ := Aside0.mk (Kd.V_afterv (ok := (fun k_ => some k_ ≠ (.slice (some ad147) y109.length co21 : Value).ownBlock ∧ some k_ ≠ (.slice (some ad146) x10_3.length co65 : Value).ownBlock)) (by (with_reducible repeat (first | apply Kd.V_alloc | apply Kd.V_drewN | apply Kd.V_drew)); exact Kd.V_mono HL147_0.out (fun _ hk => ⟨⟨hk.2, hk.1.1⟩, hk.1.2⟩)) hg hat); have n3_ := Aside0.mk (hb); have n4_ := Aside0.mk (ho); clear HO_9; clear HO_10; clear HL147_0; clear HB; clear HO_11; have HO_9 := n0_; have HO_10 := n1_; have HL147_0 := n2_; have HB := n3_; have HO150 := n4_; clear n0_ n1_ n2_ n3_ n4_; clear ho hb hg hat))
                                              have n0_ := Aside0.mk (Kd.N_drew HO_9.out)
                                              have n1_ := Aside0.mk (Kd.R_drew HO_10.out)
                                              have n2_ := Aside0.mk (Kd.V_drew HL147_0.out)
                                              have n3_ := Aside0.mk (Kd.N_drew HO150.out)
                                              have n4_ := Aside0.mk (below_drew1 HB.out)
                                              clear HO_9; clear HO_10; clear HL147_0; clear HO150; clear HB
                                              have HO_9 := n0_
                                              have HO_10 := n1_
                                              have HL147_0 := n2_
                                              have HO150 := n3_
                                              have HB := n4_
                                              clear n0_ n1_ n2_ n3_ n4_
                                              have q68 : (0 : Int) ≤ ((x10_3.length : Int) : Int) := of_decide_eq_true (by first | (with_reducible assumption) | assumption)
                                              obtain ⟨i068, hi068, _, hsz68, _⟩ := info_parts info3
                                              have hroom68 : x10_3.length ≤ co65 := (Kd.R_reads' HO_10.out).2.1
                                              have hC68 : Kd.F (Kd.int .i64) _ _ (some ad146) x10_3.length x10_3 := (Kd.V_at (base := w.heap.size) (Kd.R_V (Kd.R_apart' (Kd.R_apart' (HO_10.out) (Kd.N_typed HO_9.out) (by decide)) (Kd.N_typed HO150.out) (by decide)))).2.2
                                              have hcut68 := cut_to (P := Try.prog) 29 3 .i64 Try.underlying29 hi068 (some ad146) x10_3.length co65 0 (by omega) q68 hroom68
                                              have hr68 := Kd.F_take (m := 0) hC68 (by omega)
                                              have hy68 : y154.length = (0 : Int).toNat := (by rw [Ny154.out, List.length_take]; omega)
                                              rw [← Ny154.out] at hr68
                                              rw [← hy68] at hcut68
                                              have HO158 := Aside0.mk (show Kd.V (Kd.int .i64) 3 _ w.heap.size _ (.slice (some ad146) y154.length co65) y154 from Kd.V_mk (by omega) hr68)
                                              have HC158 := Aside0.mk (show y154.length ≤ co65 from by omega)
                                              clear hr68 hC68 hroom68 hi068 hsz68
                                              have KY68 := Aside0.mk hy68
                                              clear hy68
                                              replace q68 := eq_true q68
                                              have q69 : ((ji61) : Int) ≤ ((x10_3.length : Int) : Int) := of_decide_eq_true (by first | (with_reducible assumption) | assumption)
                                              obtain ⟨i069, hi069, _, hsz69, _⟩ := info_parts info3
                                              have hroom69 : x10_3.length ≤ co65 := (Kd.R_reads' HO_10.out).2.1
                                              have hC69 : Kd.F (Kd.int .i64) _ _ (some ad146) x10_3.length x10_3 := (Kd.V_at (base := w.heap.size) (Kd.R_V (Kd.R_apart' (Kd.R_apart' (HO_10.out) (Kd.N_typed HO_9.out) (by decide)) (Kd.N_typed HO150.out) (by decide)))).2.2
                                              have q069 : (0 : Int) ≤ ((ji61) : Int) := of_decide_eq_true (by first | (with_reducible assumption) | assumption)
                                              have hcut69 := cut_from (P := Try.prog) 29 3 .i64 Try.underlying29 hi069 1 hsz69 (some ad146) x10_3.length co65 (ji61) q069 q69
                                              have hr69 := Kd.F_cut (m := ((ji61) : Int).toNat) (c := co65) hC69 (by omega) hroom69
                                              obtain ⟨A69, hA69⟩ : ∃ A1, A1 = (if co65 = ((ji61) : Int).toNat then (some ad146) else ((some ad146) : Option Addr).map (·.add (((ji61) : Int).toNat * 1))) := ⟨_, rfl⟩
                                              obtain ⟨c69, hc69⟩ : ∃ c1, c1 = co65 - ((ji61) : Int).toNat := ⟨_, rfl⟩
                                              have hy69 : y162.length = x10_3.length - ((ji61) : Int).toNat := (by rw [Ny162.out, List.length_drop] <;> omega)
                                              rw [show (x10_3).drop ((ji61) : Int).toNat = y162 from Ny162.out.symm] at hr69
                                              replace hr69 : Kd.F (Kd.int .i64) _ _ A69 y162.length y162 := (by rw [hA69]; exact hr69)
                                              rw [← hy69, ← hA69, ← hc69] at hcut69
                                              have HO166 := Aside0.mk (show Kd.V (Kd.int .i64) 3 _ w.heap.size _ (.slice A69 y162.length c69) y162 from Kd.V_mk (by rw [hy69, hc69]; exact Nat.sub_le_sub_right hroom69 _) hr69)
                                              have HC166 := Aside0.mk (show y162.length ≤ c69 from by rw [hy69, hc69]; exact Nat.sub_le_sub_right hroom69 _)
                                              clear hr69 hC69 hroom69 hi069 hsz69 hc69
                                              have KY69 := Aside0.mk hy69
                                              have KA69 := Aside0.mk hA69
                                              clear hy69 hA69
                                              replace q69 := eq_true q69
                                              refine start_ (n := 11) (S := fun w' => True) (ds := []) #[false, false, false, false, false, false, false, false, false, false, false] (by kernel_rfl) rfl rfl trivial (fun hHeld => ?_); refine with_tabW kinkeeplaw04_MatrixAnyRows.tab21 kinkeeplaw04_MatrixAnyRows.bits21 (fun HT_ HW_ => ?_)
                                              generalize w66.drew = w67 at HO_9 HO_10 HL147_0 HO150 HB HO158 HO166 hHeld ⊢
                                              refine pure_ (i := 1) (N := some 95) (v := ?_) (a' := ?_) #[false, true, false, false, false, false, false, false, false, false, false] rfl rfl (any_of HT_.out (by kernel_rfl)) (fun _ _ _ h => h) (Or.inl ⟨by rfl, ?_⟩) ?_ ?_
                                              rotate_left
                                              · intro w'
                                                go_simp
                                                with_reducible rfl
                                              rotate_left
                                              · simp only [Act.put, List.setIfInBounds_toArray, List.set_cons_zero, List.set_cons_succ, i64_w, i32_w]
                                                rfl
                                              refine pure_ (i := 2) (N := some 96) (v := ?_) (a' := ?_) #[false, true, true, false, false, false, false, false, false, false, false] rfl rfl (any_of HT_.out (by kernel_rfl)) (fun _ _ _ h => h) (Or.inl ⟨by rfl, ?_⟩) ?_ ?_
                                              rotate_left
                                              · intro w'
                                                go_simp
                                                with_reducible rfl
                                              rotate_left
                                              · simp only [Act.put, List.setIfInBounds_toArray, List.set_cons_zero, List.set_cons_succ, i64_w, i32_w]
                                                rfl
                                              refine pure_ (i := 3) (N := some 97) (v := ?_) (a' := ?_) #[false, true, true, true, false, false, false, false, false, false, false] rfl rfl (any_of HT_.out (by kernel_rfl)) (fun _ _ _ h => h) (Or.inl ⟨by rfl, ?_⟩) ?_ ?_
                                              rotate_left
                                              · intro w'
                                                go_simp
                                                with_reducible rfl
                                              rotate_left
                                              · simp only [Act.put, List.setIfInBounds_toArray, List.set_cons_zero, List.set_cons_succ, i64_w, i32_w]
                                                rfl
                                              refine pure_ (i := 5) (N := some 99) (v := ?_) (a' := ?_) #[false, true, true, true, false, true, false, false, false, false, false] rfl rfl (any_of HT_.out (by kernel_rfl)) (fun _ _ _ h => h) (Or.inl ⟨by rfl, ?_⟩) ?_ ?_
                                              rotate_left
                                              · intro w'
                                                go_simp
                                                with_reducible rfl
                                              rotate_left
                                              · simp only [Act.put, List.setIfInBounds_toArray, List.set_cons_zero, List.set_cons_succ, i64_w, i32_w]
                                                rfl
                                              refine pure_ (i := 6) (N := some 100) (v := ?_) (a' := ?_) #[false, true, true, true, false, true, true, false, false, false, false] rfl rfl (any_of HT_.out (by kernel_rfl)) (fun _ _ _ h => h) (Or.inl ⟨by rfl, ?_⟩) ?_ ?_
                                              rotate_left
                                              · intro w'
                                                go_simp
                                                with_reducible rfl
                                              rotate_left
                                              · simp only [Act.put, List.setIfInBounds_toArray, List.set_cons_zero, List.set_cons_succ, i64_w, i32_w]
                                                rfl
                                              refine pure_ (i := 7) (N := some 101) (v := ?_) (a' := ?_) #[false, true, true, true, false, true, true, true, false, false, false] rfl rfl (any_of HT_.out (by kernel_rfl)) (fun _ _ _ h => h) (Or.inl ⟨by rfl, ?_⟩) ?_ ?_
                                              rotate_left
                                              · intro w'
                                                go_simp
                                                with_reducible rfl
                                              rotate_left
                                              · simp only [Act.put, List.setIfInBounds_toArray, List.set_cons_zero, List.set_cons_succ, i64_w, i32_w]
                                                rfl
                                              refine pure_ (i := 8) (N := some 102) (v := ?_) (a' := ?_) #[false, true, true, true, false, true, true, true, true, false, false] rfl rfl (any_of HT_.out (by kernel_rfl)) (fun _ _ _ h => h) (Or.inl ⟨by rfl, ?_⟩) ?_ ?_
                                              rotate_left
                                              · intro w'
                                                go_simp
                                                with_reducible rfl
                                              rotate_left
                                              · simp only [Act.put, List.setIfInBounds_toArray, List.set_cons_zero, List.set_cons_succ, i64_w, i32_w]
                                                rfl
                                              refine one_ (i := 0) (N := some 94) #[true, true, true, true, false, true, true, true, true, false, false] rfl rfl (one_of HT_.out (by kernel_rfl)) (by decide) (fun K hK => ?_)
                                              refine Kd.R_lit_step (Kd.int .i64) _ 3 ?hg (N := 94) ?hd (xs := ([] : List Int)) (inner := []) (ok := fun _ => True) (okp := fun _ => True) ?hr ?hp (fun _ hk => hk) trivial (Below.refl _ _) (Nat.le_refl _) (by simp) ?_; (case hd => rfl); (case hg => rfl); (case hr => first | (go_simp; done) | (go_simp; rfl)); (case hp => exact (Reps.none _ _))
                                              intro v152 w70 ho71 hb hg_ hnew_
                                              clear hg_ hnew_
                                              (first | rw [← Ny151.out] at ho71 | (simp only [Int.reduceToNat] at ho71; rw [← Ny151.out] at ho71))
                                              have n0_ := Aside0.mk (Kd.N_elder' (by (with_reducible repeat (first | apply Kd.N_alloc | apply Kd.N_drewN | apply Kd.N_drew)); exact HO_9.out) (Kd.R_base ho71) hb)
                                              have n1_ := Aside0.mk (Kd.R_elder' (by (with_reducible repeat (first | apply Kd.R_alloc | apply Kd.R_drewN | apply Kd.R_drew)); exact HO_10.out) (Kd.R_base ho71) hb)
                                              have n2_ := Aside0.mk (Kd.V_elder' (by (with_reducible repeat (first | apply Kd.V_alloc | apply Kd.V_drewN | apply Kd.V_drew)); exact HL147_0.out) (Kd.R_base ho71) hb)
                                              have n3_ := Aside0.mk (Kd.N_elder' (by (with_reducible repeat (first | apply Kd.N_alloc | apply Kd.N_drewN | apply Kd.N_drew)); exact HO150.out) (Kd.R_base ho71) hb)
                                              have n4_ := Aside0.mk (Kd.V_elder' (by (with_reducible repeat (first | apply Kd.V_alloc | apply Kd.V_drewN | apply Kd.V_drew)); exact HO158.out) (Kd.R_base ho71) hb)
                                              have n5_ := Aside0.mk (Kd.V_elder' (by (with_reducible repeat (first | apply Kd.V_alloc | apply Kd.V_drewN | apply Kd.V_drew)); exact HO166.out) (Kd.R_base ho71) hb)
                                              have n6_ := Aside0.mk (Kd.R_lower (Kd.R_new' ho71 (Kd.R_lt (by (with_reducible repeat (first | apply Kd.R_alloc | apply Kd.R_drewN | apply Kd.R_drew)); exact HO_10.out))) (below_size (by repeat (first | (with_reducible first | exact HB.out | apply below_alloc | apply pw_below_drewN | apply below_drew1) | exact HB.out))))
                                              have n7_ := Aside0.mk (below_step (by repeat (first | (with_reducible first | exact HB.out | apply below_alloc | apply pw_below_drewN | apply below_drew1) | exact HB.out)) hb)
                                              clear HO_9; clear HO_10; clear HL147_0; clear HO150; clear HO158; clear HO166; clear HB
                                              have HO_9 := n0_
                                              have HO_10 := n1_
                                              have HL147_0 := n2_
                                              have HO150 := n3_
                                              have HO158 := n4_
                                              have HO166 := n5_
                                              have HO153 := n6_
                                              have HB := n7_
                                              clear n0_ n1_ n2_ n3_ n4_ n5_ n6_ n7_; clear hb ho71
                                              refine hK.out _ _ trivial (fun hHeld => ?_)
                                              clear hK K
                                              refine norm_ (a' := ?_) ?_ ?_
                                              rotate_left
                                              · show Act.put _ (some 94) _ = _
                                                simp only [Act.put, List.setIfInBounds_toArray, List.set_cons_zero, List.set_cons_succ, i64_w, i32_w]
                                                rfl
                                              refine one_ (i := 4) (N := some 98) #[true, true, true, true, true, true, true, true, true, false, false] rfl rfl (one_of HT_.out (by kernel_rfl)) (by decide) (fun K hK => ?_)
                                              refine Kd.R_append_rows_step (Kd.int .i64) (w0 := w) w.heap.size (by rfl) (.tmp 94) (.tmp 97) 29 3 (.int .i64 0) 8 rfl Try.underlying29 info3 rfl (by decide) (by omega) v152 y151 y154 _ _ _ (fun k_ => some k_ ≠ (.slice (some ad146) x10_3.length co65 : Value).ownBlock) (fun _ => False) rfl rfl ?aO ?aR (fun _ _ h => h) (fun _ h => h.elim) ?aF ?aB ?aS ?aL ?_
                                              (case aR => repeat (first | exact (Kd.V_reads' HO158.out).2.2 | (with_reducible refine Kd.C_alloc ?_ _) | (with_reducible refine Kd.C_drewN ?_ _) | (with_reducible refine Kd.C_drew ?_)))
                                              (case aB => exact (by repeat (first | (with_reducible first | exact HB.out | apply below_alloc | apply pw_below_drewN | apply below_drew1) | exact HB.out)))
                                              (case aF => exact (fun k_ hk => Kd.fresh' (Kd.R_lt (by (with_reducible repeat (first | apply Kd.R_alloc | apply Kd.R_drewN | apply Kd.R_drew)); exact HO_10.out)) k_ hk))
                                              (case aO => exact (by (with_reducible repeat (first | apply Kd.R_alloc | apply Kd.R_drewN | apply Kd.R_drew)); exact Kd.R_mono HO153.out (fun _ hk => hk.2)))
                                              (case aS => exact (below_size (by repeat (first | (with_reducible first | exact HB.out | apply below_alloc | apply pw_below_drewN | apply below_drew1) | exact HB.out))))
                                              (case aL => have := LMc60.out; omega)
                                              intro v160 w72 ho hb hg hat
                                              rw [← Ny159.out] at ho
                                              have n0_ := Aside0.mk (Kd.N_afterv (ok := (fun k_ => some k_ ≠ (.slice (some ad146) x10_3.length co65 : Value).ownBlock ∧ some k_ ≠ (v149 : Value).ownBlock)) (by (with_reducible repeat (first | apply Kd.N_alloc | apply Kd.N_drewN | apply Kd.N_drew)); exact HO_9.out) hg hat)
                                              have n1_ := Aside0.mk (Kd.R_after (ok := (fun _ => True)) (by (with_reducible repeat (first | apply Kd.R_alloc | apply Kd.R_drewN | apply Kd.R_drew)); exact HO_10.out) hg hat)
                                              have n2_ := Aside0.mk (Kd.V_afterv (ok := (fun k_ => some k_ ≠ (.slice (some ad147) y109.length co21 : Value).ownBlock ∧ some k_ ≠ (.slice (some ad146) x10_3.length co65 : Value).ownBlock ∧ some k_ ≠ (v149 : Value).ownBlock)) (by (with_reducible repeat (first | apply Kd.V_alloc | apply Kd.V_drewN | apply Kd.V_drew)); exact Kd.V_mono HL147_0.out (fun _ hk => ⟨⟨hk.1.1.1, ⟨hk.1.1.2, hk.1.2⟩⟩, hk.2⟩)) hg hat)
                                              have n3_ := Aside0.mk (Kd.N_afterv (ok := (fun k_ => some k_ ≠ (.slice (some ad147) y109.length co21 : Value).ownBlock ∧ some k_ ≠ (.slice (some ad146) x10_3.length co65 : Value).ownBlock)) (by (with_reducible repeat (first | apply Kd.N_alloc | apply Kd.N_drewN | apply Kd.N_drew)); exact HO150.out) hg hat)
                                              have n4_ := Aside0.mk (Kd.V_afterv (ok := (fun k_ => some k_ ≠ (.slice (some ad147) y109.length co21 : Value).ownBlock ∧ some k_ ≠ (v149 : Value).ownBlock)) (by (with_reducible repeat (first | apply Kd.V_alloc | apply Kd.V_drewN | apply Kd.V_drew)); exact Kd.V_mono HO158.out (fun _ hk => ⟨⟨hk.1.1.2, hk.1.2⟩, hk.2⟩)) hg hat)
                                              have n5_ := Aside0.mk (Kd.V_afterv (ok := (fun k_ => some k_ ≠ (.slice (some ad147) y109.length co21 : Value).ownBlock ∧ some k_ ≠ (v149 : Value).ownBlock)) (by (with_reducible repeat (first | apply Kd.V_alloc | apply Kd.V_drewN | apply Kd.V_drew)); exact Kd.V_mono HO166.out (fun _ hk => ⟨⟨hk.1.1.2, hk.1.2⟩, hk.2⟩)) hg hat)
                                              have n6_ := Aside0.mk (hb)
                                              have n7_ := Aside0.mk (ho)
                                              clear HO_9; clear HO_10; clear HL147_0; clear HO150; clear HO158; clear HO166; clear HB; clear HO153
                                              have HO_9 := n0_
                                              have HO_10 := n1_
                                              have HL147_0 := n2_
                                              have HO150 := n3_
                                              have HO158 := n4_
                                              have HO166 := n5_
                                              have HB := n6_
                                              have HO161 := n7_
                                              clear n0_ n1_ n2_ n3_ n4_ n5_ n6_ n7_; clear ho hb hg hat
                                              refine hK.out _ _ trivial (fun hHeld => ?_)
                                              clear hK K
                                              refine norm_ (a' := ?_) ?_ ?_
                                              rotate_left
                                              · show Act.put _ (some 98) _ = _
                                                simp only [Act.put, List.setIfInBounds_toArray, List.set_cons_zero, List.set_cons_succ, i64_w, i32_w]
                                                rfl
                                              refine one_ (i := 9) (N := some 103) #[true, true, true, true, true, true, true, true, true, true, false] rfl rfl (one_of HT_.out (by kernel_rfl)) (by decide) (fun K hK => ?_)
                                              refine Kd.R_append_rows_step (Kd.int .i64) (w0 := w) w.heap.size (by rfl) (.tmp 98) (.tmp 102) 29 3 (.int .i64 0) 8 rfl Try.underlying29 info3 rfl (by decide) (by omega) v160 y159 y162 _ _ _ (fun k_ => some k_ ≠ (.slice (some ad146) x10_3.length co65 : Value).ownBlock) (fun _ => False) rfl rfl ?aO ?aR (fun _ _ h => h) (fun _ h => h.elim) ?aF ?aB ?aS ?aL ?_
                                              (case aR => repeat (first | exact (Kd.V_reads' HO166.out).2.2 | (with_reducible refine Kd.C_alloc ?_ _) | (with_reducible refine Kd.C_drewN ?_ _) | (with_reducible refine Kd.C_drew ?_)))
                                              (case aB => exact (by repeat (first | (with_reducible first | exact HB.out | apply below_alloc | apply pw_below_drewN | apply below_drew1) | exact HB.out)))
                                              (case aF => exact (fun k_ hk => Kd.fresh' (Kd.R_lt (by (with_reducible repeat (first | apply Kd.R_alloc | apply Kd.R_drewN | apply Kd.R_drew)); exact HO_10.out)) k_ hk))
                                              (case aO => exact (by (with_reducible repeat (first | apply Kd.R_alloc | apply Kd.R_drewN | apply Kd.R_drew)); exact HO161.out))
                                              (case aS => exact (below_size (by repeat (first | (with_reducible first | exact HB.out | apply below_alloc | apply pw_below_drewN | apply below_drew1) | exact HB.out))))
                                              (case aL => have := LMc64.out; omega)
                                              intro v168 w73 ho hb hg hat
                                              rw [← Ny167.out] at ho
                                              have n0_ := Aside0.mk (Kd.N_afterv (ok := (fun k_ => some k_ ≠ (.slice (some ad146) x10_3.length co65 : Value).ownBlock ∧ some k_ ≠ (v149 : Value).ownBlock)) (by (with_reducible repeat (first | apply Kd.N_alloc | apply Kd.N_drewN | apply Kd.N_drew)); exact HO_9.out) hg hat)
                                              have n1_ := Aside0.mk (Kd.R_after (ok := (fun _ => True)) (by (with_reducible repeat (first | apply Kd.R_alloc | apply Kd.R_drewN | apply Kd.R_drew)); exact HO_10.out) hg hat)
                                              have n2_ := Aside0.mk (Kd.V_afterv (ok := (fun k_ => some k_ ≠ (.slice (some ad147) y109.length co21 : Value).ownBlock ∧ some k_ ≠ (.slice (some ad146) x10_3.length co65 : Value).ownBlock ∧ some k_ ≠ (v149 : Value).ownBlock)) (by (with_reducible repeat (first | apply Kd.V_alloc | apply Kd.V_drewN | apply Kd.V_drew)); exact HL147_0.out) hg hat)
                                              have n3_ := Aside0.mk (Kd.N_afterv (ok := (fun k_ => some k_ ≠ (.slice (some ad147) y109.length co21 : Value).ownBlock ∧ some k_ ≠ (.slice (some ad146) x10_3.length co65 : Value).ownBlock)) (by (with_reducible repeat (first | apply Kd.N_alloc | apply Kd.N_drewN | apply Kd.N_drew)); exact HO150.out) hg hat)
                                              have n4_ := Aside0.mk (Kd.V_afterv (ok := (fun k_ => some k_ ≠ (.slice (some ad147) y109.length co21 : Value).ownBlock ∧ some k_ ≠ (v149 : Value).ownBlock)) (by (with_reducible repeat (first | apply Kd.V_alloc | apply Kd.V_drewN | apply Kd.V_drew)); exact HO158.out) hg hat)
                                              have n5_ := Aside0.mk (Kd.V_afterv (ok := (fun k_ => some k_ ≠ (.slice (some ad147) y109.length co21 : Value).ownBlock ∧ some k_ ≠ (v149 : Value).ownBlock)) (by (with_reducible repeat (first | apply Kd.V_alloc | apply Kd.V_drewN | apply Kd.V_drew)); exact HO166.out) hg hat)
                                              have n6_ := Aside0.mk (hb)
                                              have n7_ := Aside0.mk (ho)
                                              clear HO_9; clear HO_10; clear HL147_0; clear HO150; clear HO158; clear HO166; clear HB; clear HO161
                                              have HO_9 := n0_
                                              have HO_10 := n1_
                                              have HL147_0 := n2_
                                              have HO150 := n3_
                                              have HO158 := n4_
                                              have HO166 := n5_
                                              have HB := n6_
                                              have HO169 := n7_
                                              clear n0_ n1_ n2_ n3_ n4_ n5_ n6_ n7_; clear ho hb hg hat
                                              refine hK.out _ _ trivial (fun hHeld => ?_)
                                              clear hK K
                                              refine norm_ (a' := ?_) ?_ ?_
                                              rotate_left
                                              · show Act.put _ (some 103) _ = _
                                                simp only [Act.put, List.setIfInBounds_toArray, List.set_cons_zero, List.set_cons_succ, i64_w, i32_w]
                                                rfl
                                              refine pure_ (i := 10) (N := some 10) (v := ?_) (a' := ?_) #[true, true, true, true, true, true, true, true, true, true, true] rfl rfl (any_of HT_.out (by kernel_rfl)) (fun _ _ _ h => h) (Or.inl ⟨by rfl, ?_⟩) ?_ ?_
                                              rotate_left
                                              · intro w'
                                                go_simp
                                                with_reducible rfl
                                              rotate_left
                                              · simp only [Act.put, List.setIfInBounds_toArray, List.set_cons_zero, List.set_cons_succ, i64_w, i32_w]
                                                rfl
                                              refine done_ (done_of HT_.out (by kernel_rfl)) ?_
                                              try go_wp2
                                              go_roundg k3
                                              case measure => have := HJ3.out; have := HK2.out; have := HK3.out; omega
                                              case rel => exact ⟨(y167), (y148), (wrap64 (x13_3 + 1)), (by first | rfl | (simp; done) | (simp [*]; done)), H', ⟨by have := HJ3.out; have := HK2.out; have := HK3.out; omega⟩, ⟨by (with_reducible repeat (first | apply Kd.N_alloc | apply Kd.N_drewN | apply Kd.N_drew)); exact Kd.N_mono HO_9.out (fun _ hk => ⟨hk.2, hk.1.2⟩)⟩, ⟨by (with_reducible repeat (first | apply Kd.R_alloc | apply Kd.R_drewN | apply Kd.R_drew)); exact Kd.R_mono HO169.out (fun _ hk => trivial)⟩, ⟨by (with_reducible repeat (first | apply Kd.N_alloc | apply Kd.N_drewN | apply Kd.N_drew)); exact Kd.N_mono HO150.out (fun _ hk => ⟨hk.1.1, hk.2⟩)⟩, ⟨by repeat (first | (with_reducible first | exact HB.out | apply below_alloc | apply pw_below_drewN | apply below_drew1) | exact HB.out)⟩⟩
                                            · rw [if_neg c64] at H
                                              exact absurd H (by simp)
                                          · rw [if_neg c63] at H
                                            exact absurd H (by simp)
                                        · rw [if_neg c62] at H
                                          exact absurd H (by simp)
                                      · rw [if_neg c60] at H
                                        exact absurd H (by simp)
                                    · rw [if_neg c59] at H
                                      exact absurd H (by simp)
                                  · rw [if_neg c58] at H
                                    exact absurd H (by simp)
                                · rw [if_neg c57] at H
                                  exact absurd H (by simp)
                              · rw [if_neg c56] at H
                                exact absurd H (by simp)
                            · rw [if_neg c55] at H
                              exact absurd H (by simp)
                        · rw [if_neg c29] at H
                          have c29b0 : decide (x13_3 < a0) = false := decide_eq_false c29
                          clear c29
                          replace H := Option.bind_eq_some_iff.mp H
                          obtain ⟨⟨t170, t171⟩, A740, H⟩ := H
                          replace H : ((kinkeeplaw04_awake.f).bind fun t174 => (if t174 = true then (if t171 = 0 then ((kinkeepref04_Product.f k3 x11_3 t170).bind fun t175 => ((kinkeepref04_Identity.f k3 a0).bind fun t178 => ((kinkeepref04_Same.f k3 t175 t178).bind fun t181 => (some t181)))) else (some false)) else (some false))) = some r := H
                          have A74 := Aside0.mk A740
                          clear A740
                          replace H := Option.bind_eq_some_iff.mp H
                          obtain ⟨t174, A750, H⟩ := H
                          replace H : (if t174 = true then (if t171 = 0 then ((kinkeepref04_Product.f k3 x11_3 t170).bind fun t175 => ((kinkeepref04_Identity.f k3 a0).bind fun t178 => ((kinkeepref04_Same.f k3 t175 t178).bind fun t181 => (some t181)))) else (some false)) else (some false)) = some r := H
                          have A75 := Aside0.mk A750
                          clear A750
                          by_cases c76 : t174 = true
                          · subst c76
                            have H1 : (if t171 = 0 then ((kinkeepref04_Product.f k3 x11_3 t170).bind fun t175 => ((kinkeepref04_Identity.f k3 a0).bind fun t178 => ((kinkeepref04_Same.f k3 t175 t178).bind fun t181 => (some t181)))) else (some false)) = some r := by rw [if_pos rfl] at H; exact H
                            clear H
                            have H := H1
                            clear H1
                            by_cases c77 : t171 = 0
                            · rw [if_pos c77] at H
                              have c77b0 : (t171 == 0) = true := beq_iff_eq.mpr c77
                              have c77b1 : (t171 != 0) = false := bne_eq_false_iff_eq.mpr c77
                              clear c77
                              replace H := Option.bind_eq_some_iff.mp H
                              obtain ⟨t175, A780, H⟩ := H
                              replace H : ((kinkeepref04_Identity.f k3 a0).bind fun t178 => ((kinkeepref04_Same.f k3 t175 t178).bind fun t181 => (some t181))) = some r := H
                              have A78 := Aside0.mk A780
                              clear A780
                              replace H := Option.bind_eq_some_iff.mp H
                              obtain ⟨t178, A790, H⟩ := H
                              replace H : ((kinkeepref04_Same.f k3 t175 t178).bind fun t181 => (some t181)) = some r := H
                              have A79 := Aside0.mk A790
                              clear A790
                              replace H := Option.bind_eq_some_iff.mp H
                              obtain ⟨t181, A800, H⟩ := H
                              replace H : (some t181) = some r := H
                              have A80 := Aside0.mk A800
                              clear A800
                              obtain rfl := Option.some.inj H
                              obtain ⟨Ao81, co81, eo81⟩ := Kd.N_slice HO_11.out
                              subst eo81
                              go_wp2_with (first | ((with_reducible refine gate_callee (f := 42) rfl ?_); refine goesL_ (some 106) rfl rfl Try.func42 (by kernel_rfl) rfl #[.slice Ao81 x11_3.length co81] rfl (by (try simp only [List.map_toArray, List.map_cons, List.map_nil]); first | done | rfl | (simp only [List.length_drop, List.length_take]; rfl)) ?_; (with_reducible refine (matrix_Inverse.calls _ _ x11_3 t170 t171 _ ?side1 ?side2 A74.out).mono ?_); (case side1 => repeat (first | exact (Kd.N_reads' HO_11.out).2.2 | (with_reducible refine Kd.C_alloc ?_ _) | (with_reducible refine Kd.C_drewN ?_ _) | (with_reducible refine Kd.C_drew ?_))); (case side2 => exact (Kd.N_reads' HO_11.out).2.1); rintro e w82 ⟨v172, rfl, ho0, hb⟩; refine ⟨_, rfl, ?_⟩; have n0_ := Aside0.mk (Kd.N_elder' (by (with_reducible repeat (first | apply Kd.N_alloc | apply Kd.N_drewN | apply Kd.N_drew)); exact HO_9.out) (by first | exact Kd.N_base ho0 | exact Kd.S_base ho0) hb); have n1_ := Aside0.mk (Kd.R_below (by (with_reducible repeat (first | apply Kd.R_alloc | apply Kd.R_drewN | apply Kd.R_drew)); exact HO_10.out) hb); have n2_ := Aside0.mk (Kd.N_elder' (by (with_reducible repeat (first | apply Kd.N_alloc | apply Kd.N_drewN | apply Kd.N_drew)); exact HO_11.out) (by first | exact Kd.N_base ho0 | exact Kd.S_base ho0) hb); have n3_ := Aside0.mk (Kd.N_lower (Kd.N_mono (ok' := fun k_ => some k_ ≠ (.slice Ao21 y109.length co21 : Value).ownBlock ∧ some k_ ≠ (u10 : Value).ownBlock ∧ some k_ ≠ (.slice Ao81 x11_3.length co81 : Value).ownBlock) (Kd.S_N (Kd.S_bound ho0)) (fun k_ hk_ => ⟨(Kd.fresh' (Kd.N_lt (by (with_reducible repeat (first | apply Kd.N_alloc | apply Kd.N_drewN | apply Kd.N_drew)); exact HO_9.out)) k_ hk_.2.1), (Kd.fresh' (Kd.R_lt (by (with_reducible repeat (first | apply Kd.R_alloc | apply Kd.R_drewN | apply Kd.R_drew)); exact HO_10.out)) k_ hk_.2.1), (Kd.fresh' (Kd.N_lt (by (with_reducible repeat (first | apply Kd.N_alloc | apply Kd.N_drewN | apply Kd.N_drew)); exact HO_11.out)) k_ hk_.2.1)⟩)) (below_size (by repeat (first | (with_reducible first | exact HB.out | apply below_alloc | apply pw_below_drewN | apply below_drew1) | exact HB.out)))); have n4_ := Aside0.mk (below_step (by repeat (first | (with_reducible first | exact HB.out | apply below_alloc | apply pw_below_drewN | apply below_drew1) | exact HB.out)) hb); clear HO_9; clear HO_10; clear HO_11; clear HB; have HO_9 := n0_; have HO_10 := n1_; have HO_11 := n2_; have HO173 := n3_; have HB := n4_; clear n0_ n1_ n2_ n3_ n4_; (try clear hb); (try clear hb2); (try clear hk); (try clear hi); (try clear ho0)) | ((with_reducible refine gate_callee (f := 16) rfl ?_); refine goesL_ (some 109) rfl rfl Try.func16 (by kernel_rfl) rfl #[] rfl (by (try simp only [List.map_toArray, List.map_cons, List.map_nil]); first | done | rfl | (simp only [List.length_drop, List.length_take]; rfl)) ?_; (with_reducible refine (kinkeeplaw04_awake.calls  true _ A75.out).mono ?_); rintro e w83 ⟨rfl, hb⟩; refine ⟨_, rfl, ?_⟩; have n0_ := Aside0.mk (Kd.N_below (by (with_reducible repeat (first | apply Kd.N_alloc | apply Kd.N_drewN | apply Kd.N_drew)); exact HO_9.out) hb); have n1_ := Aside0.mk (Kd.R_below (by (with_reducible repeat (first | apply Kd.R_alloc | apply Kd.R_drewN | apply Kd.R_drew)); exact HO_10.out) hb); have n2_ := Aside0.mk (Kd.N_below (by (with_reducible repeat (first | apply Kd.N_alloc | apply Kd.N_drewN | apply Kd.N_drew)); exact HO_11.out) hb); have n3_ := Aside0.mk (Kd.N_below (by (with_reducible repeat (first | apply Kd.N_alloc | apply Kd.N_drewN | apply Kd.N_drew)); exact HO173.out) hb); have n4_ := Aside0.mk (below_step (by repeat (first | (with_reducible first | exact HB.out | apply below_alloc | apply pw_below_drewN | apply below_drew1) | exact HB.out)) hb); clear HO_9; clear HO_10; clear HO_11; clear HO173; clear HB; have HO_9 := n0_; have HO_10 := n1_; have HO_11 := n2_; have HO173 := n3_; have HB := n4_; clear n0_ n1_ n2_ n3_ n4_; (try clear hb); (try clear hb2); (try clear hk); (try clear hi); obtain ⟨Ao84, co84, eo84⟩ := Kd.N_slice HO173.out; subst eo84) | (go_at_call 24; (with_reducible refine (kinkeepref04_Product.calls k3 _ _ x11_3 _ _ t170 t175 _ ?side1 ?side2 ?side3 ?side4 A78.out).mono ?_); (case side1 => repeat (first | exact (Kd.N_reads' HO_11.out).2.2 | (with_reducible refine Kd.C_alloc ?_ _) | (with_reducible refine Kd.C_drewN ?_ _) | (with_reducible refine Kd.C_drew ?_))); (case side2 => exact (Kd.N_reads' HO_11.out).2.1); (case side3 => repeat (first | exact (Kd.N_reads' HO173.out).2.2 | (with_reducible refine Kd.C_alloc ?_ _) | (with_reducible refine Kd.C_drewN ?_ _) | (with_reducible refine Kd.C_drew ?_))); (case side4 => exact (Kd.N_reads' HO173.out).2.1); rintro e w85 ⟨v176, rfl, ho0, hb⟩; have n0_ := Aside0.mk (Kd.N_elder' (by (with_reducible repeat (first | apply Kd.N_alloc | apply Kd.N_drewN | apply Kd.N_drew)); exact HO_9.out) (by first | exact Kd.N_base ho0 | exact Kd.S_base ho0) hb); have n1_ := Aside0.mk (Kd.R_below (by (with_reducible repeat (first | apply Kd.R_alloc | apply Kd.R_drewN | apply Kd.R_drew)); exact HO_10.out) hb); have n2_ := Aside0.mk (Kd.N_elder' (by (with_reducible repeat (first | apply Kd.N_alloc | apply Kd.N_drewN | apply Kd.N_drew)); exact HO_11.out) (by first | exact Kd.N_base ho0 | exact Kd.S_base ho0) hb); have n3_ := Aside0.mk (Kd.N_elder' (by (with_reducible repeat (first | apply Kd.N_alloc | apply Kd.N_drewN | apply Kd.N_drew)); exact HO173.out) (by first | exact Kd.N_base ho0 | exact Kd.S_base ho0) hb); have n4_ := Aside0.mk (Kd.N_lower (Kd.N_mono (ok' := fun k_ => some k_ ≠ (.slice Ao21 y109.length co21 : Value).ownBlock ∧ some k_ ≠ (u10 : Value).ownBlock ∧ some k_ ≠ (.slice Ao81 x11_3.length co81 : Value).ownBlock ∧ some k_ ≠ (.slice Ao84 t170.length co84 : Value).ownBlock) (Kd.S_N (Kd.S_bound ho0)) (fun k_ hk_ => ⟨(Kd.fresh' (Kd.N_lt (by (with_reducible repeat (first | apply Kd.N_alloc | apply Kd.N_drewN | apply Kd.N_drew)); exact HO_9.out)) k_ hk_.2.1), (Kd.fresh' (Kd.R_lt (by (with_reducible repeat (first | apply Kd.R_alloc | apply Kd.R_drewN | apply Kd.R_drew)); exact HO_10.out)) k_ hk_.2.1), (Kd.fresh' (Kd.N_lt (by (with_reducible repeat (first | apply Kd.N_alloc | apply Kd.N_drewN | apply Kd.N_drew)); exact HO_11.out)) k_ hk_.2.1), (Kd.fresh' (Kd.N_lt (by (with_reducible repeat (first | apply Kd.N_alloc | apply Kd.N_drewN | apply Kd.N_drew)); exact HO173.out)) k_ hk_.2.1)⟩)) (below_size (by repeat (first | (with_reducible first | exact HB.out | apply below_alloc | apply pw_below_drewN | apply below_drew1) | exact HB.out)))); have n5_ := Aside0.mk (below_step (by repeat (first | (with_reducible first | exact HB.out | apply below_alloc | apply pw_below_drewN | apply below_drew1) | exact HB.out)) hb); clear HO_9; clear HO_10; clear HO_11; clear HO173; clear HB; have HO_9 := n0_; have HO_10 := n1_; have HO_11 := n2_; have HO173 := n3_; have HO177 := n4_; have HB := n5_; clear n0_ n1_ n2_ n3_ n4_ n5_; (try clear hb); (try clear hb2); (try clear hk); (try clear hi); (try clear ho0)) | (go_at_call 51; (with_reducible refine (kinkeepref04_Identity.calls k3 a0 t178 _ A79.out).mono ?_); rintro e w86 ⟨v179, rfl, ho0, hb⟩; have n0_ := Aside0.mk (Kd.N_elder' (by (with_reducible repeat (first | apply Kd.N_alloc | apply Kd.N_drewN | apply Kd.N_drew)); exact HO_9.out) (by first | exact Kd.N_base ho0 | exact Kd.S_base ho0) hb); have n1_ := Aside0.mk (Kd.R_below (by (with_reducible repeat (first | apply Kd.R_alloc | apply Kd.R_drewN | apply Kd.R_drew)); exact HO_10.out) hb); have n2_ := Aside0.mk (Kd.N_elder' (by (with_reducible repeat (first | apply Kd.N_alloc | apply Kd.N_drewN | apply Kd.N_drew)); exact HO_11.out) (by first | exact Kd.N_base ho0 | exact Kd.S_base ho0) hb); have n3_ := Aside0.mk (Kd.N_elder' (by (with_reducible repeat (first | apply Kd.N_alloc | apply Kd.N_drewN | apply Kd.N_drew)); exact HO173.out) (by first | exact Kd.N_base ho0 | exact Kd.S_base ho0) hb); have n4_ := Aside0.mk (Kd.N_elder' (by (with_reducible repeat (first | apply Kd.N_alloc | apply Kd.N_drewN | apply Kd.N_drew)); exact HO177.out) (by first | exact Kd.N_base ho0 | exact Kd.S_base ho0) hb); have n5_ := Aside0.mk (Kd.N_lower (Kd.N_mono (ok' := fun k_ => some k_ ≠ (.slice Ao21 y109.length co21 : Value).ownBlock ∧ some k_ ≠ (u10 : Value).ownBlock ∧ some k_ ≠ (.slice Ao81 x11_3.length co81 : Value).ownBlock ∧ some k_ ≠ (.slice Ao84 t170.length co84 : Value).ownBlock ∧ some k_ ≠ (v176 : Value).ownBlock) (Kd.S_N (Kd.S_bound ho0)) (fun k_ hk_ => ⟨(Kd.fresh' (Kd.N_lt (by (with_reducible repeat (first | apply Kd.N_alloc | apply Kd.N_drewN | apply Kd.N_drew)); exact HO_9.out)) k_ hk_.2.1), (Kd.fresh' (Kd.R_lt (by (with_reducible repeat (first | apply Kd.R_alloc | apply Kd.R_drewN | apply Kd.R_drew)); exact HO_10.out)) k_ hk_.2.1), (Kd.fresh' (Kd.N_lt (by (with_reducible repeat (first | apply Kd.N_alloc | apply Kd.N_drewN | apply Kd.N_drew)); exact HO_11.out)) k_ hk_.2.1), (Kd.fresh' (Kd.N_lt (by (with_reducible repeat (first | apply Kd.N_alloc | apply Kd.N_drewN | apply Kd.N_drew)); exact HO173.out)) k_ hk_.2.1), (Kd.fresh' (Kd.N_lt (by (with_reducible repeat (first | apply Kd.N_alloc | apply Kd.N_drewN | apply Kd.N_drew)); exact HO177.out)) k_ hk_.2.1)⟩)) (below_size (by repeat (first | (with_reducible first | exact HB.out | apply below_alloc | apply pw_below_drewN | apply below_drew1) | exact HB.out)))); have n6_ := Aside0.mk (below_step (by repeat (first | (with_reducible first | exact HB.out | apply below_alloc | apply pw_below_drewN | apply below_drew1) | exact HB.out)) hb); clear HO_9; clear HO_10; clear HO_11; clear HO173; clear HO177; clear HB; have HO_9 := n0_; have HO_10 := n1_; have HO_11 := n2_; have HO173 := n3_; have HO177 := n4_; have HO180 := n5_; have HB := n6_; clear n0_ n1_ n2_ n3_ n4_ n5_ n6_; (try clear hb); (try clear hb2); (try clear hk); (try clear hi); (try clear ho0); obtain ⟨Ao87, co87, eo87⟩ := Kd.N_slice HO177.out; subst eo87; obtain ⟨Ao88, co88, eo88⟩ := Kd.N_slice HO180.out; subst eo88) | (go_at_call 23; (with_reducible refine (kinkeepref04_Same.calls k3 _ _ t175 _ _ t178 t181 _ ?side1 ?side2 ?side3 ?side4 A80.out).mono ?_); (case side1 => repeat (first | exact (Kd.N_reads' HO177.out).2.2 | (with_reducible refine Kd.C_alloc ?_ _) | (with_reducible refine Kd.C_drewN ?_ _) | (with_reducible refine Kd.C_drew ?_))); (case side2 => exact (Kd.N_reads' HO177.out).2.1); (case side3 => repeat (first | exact (Kd.N_reads' HO180.out).2.2 | (with_reducible refine Kd.C_alloc ?_ _) | (with_reducible refine Kd.C_drewN ?_ _) | (with_reducible refine Kd.C_drew ?_))); (case side4 => exact (Kd.N_reads' HO180.out).2.1); rintro e w' ⟨rfl, ⟨nd, rfl⟩⟩))
                              go_ret
                              exact ⟨by first | rfl | (simp [errW_none, errW_some] <;> rfl) | (simp [*, errW_none, errW_some] <;> rfl), by repeat (first | (with_reducible first | exact HB.out | apply below_alloc | apply pw_below_drewN | apply below_drew1) | exact HB.out)⟩
                            · rw [if_neg c77] at H
                              have c77b0 : (t171 == 0) = false := beq_eq_false_iff_ne.mpr c77
                              have c77b1 : (t171 != 0) = true := bne_iff_ne.mpr c77
                              obtain rfl := Option.some.inj H
                              obtain ⟨Ao89, co89, eo89⟩ := Kd.N_slice HO_11.out
                              subst eo89
                              go_wp2_with (first | ((with_reducible refine gate_callee (f := 42) rfl ?_); refine goesL_ (some 106) rfl rfl Try.func42 (by kernel_rfl) rfl #[.slice Ao89 x11_3.length co89] rfl (by (try simp only [List.map_toArray, List.map_cons, List.map_nil]); first | done | rfl | (simp only [List.length_drop, List.length_take]; rfl)) ?_; (with_reducible refine (matrix_Inverse.calls _ _ x11_3 t170 t171 _ ?side1 ?side2 A74.out).mono ?_); (case side1 => repeat (first | exact (Kd.N_reads' HO_11.out).2.2 | (with_reducible refine Kd.C_alloc ?_ _) | (with_reducible refine Kd.C_drewN ?_ _) | (with_reducible refine Kd.C_drew ?_))); (case side2 => exact (Kd.N_reads' HO_11.out).2.1); rintro e w90 ⟨v172, rfl, ho0, hb⟩; refine ⟨_, rfl, ?_⟩; have n0_ := Aside0.mk (Kd.N_elder' (by (with_reducible repeat (first | apply Kd.N_alloc | apply Kd.N_drewN | apply Kd.N_drew)); exact HO_9.out) (by first | exact Kd.N_base ho0 | exact Kd.S_base ho0) hb); have n1_ := Aside0.mk (Kd.R_below (by (with_reducible repeat (first | apply Kd.R_alloc | apply Kd.R_drewN | apply Kd.R_drew)); exact HO_10.out) hb); have n2_ := Aside0.mk (Kd.N_elder' (by (with_reducible repeat (first | apply Kd.N_alloc | apply Kd.N_drewN | apply Kd.N_drew)); exact HO_11.out) (by first | exact Kd.N_base ho0 | exact Kd.S_base ho0) hb); have n3_ := Aside0.mk (Kd.N_lower (Kd.N_mono (ok' := fun k_ => some k_ ≠ (.slice Ao21 y109.length co21 : Value).ownBlock ∧ some k_ ≠ (u10 : Value).ownBlock ∧ some k_ ≠ (.slice Ao89 x11_3.length co89 : Value).ownBlock) (Kd.S_N (Kd.S_bound ho0)) (fun k_ hk_ => ⟨(Kd.fresh' (Kd.N_lt (by (with_reducible repeat (first | apply Kd.N_alloc | apply Kd.N_drewN | apply Kd.N_drew)); exact HO_9.out)) k_ hk_.2.1), (Kd.fresh' (Kd.R_lt (by (with_reducible repeat (first | apply Kd.R_alloc | apply Kd.R_drewN | apply Kd.R_drew)); exact HO_10.out)) k_ hk_.2.1), (Kd.fresh' (Kd.N_lt (by (with_reducible repeat (first | apply Kd.N_alloc | apply Kd.N_drewN | apply Kd.N_drew)); exact HO_11.out)) k_ hk_.2.1)⟩)) (below_size (by repeat (first | (with_reducible first | exact HB.out | apply below_alloc | apply pw_below_drewN | apply below_drew1) | exact HB.out)))); have n4_ := Aside0.mk (below_step (by repeat (first | (with_reducible first | exact HB.out | apply below_alloc | apply pw_below_drewN | apply below_drew1) | exact HB.out)) hb); clear HO_9; clear HO_10; clear HO_11; clear HB; have HO_9 := n0_; have HO_10 := n1_; have HO_11 := n2_; have HO173 := n3_; have HB := n4_; clear n0_ n1_ n2_ n3_ n4_; (try clear hb); (try clear hb2); (try clear hk); (try clear hi); (try clear ho0)) | ((with_reducible refine gate_callee (f := 16) rfl ?_); refine goesL_ (some 109) rfl rfl Try.func16 (by kernel_rfl) rfl #[] rfl (by (try simp only [List.map_toArray, List.map_cons, List.map_nil]); first | done | rfl | (simp only [List.length_drop, List.length_take]; rfl)) ?_; (with_reducible refine (kinkeeplaw04_awake.calls  true _ A75.out).mono ?_); rintro e w91 ⟨rfl, hb⟩; refine ⟨_, rfl, ?_⟩; have n0_ := Aside0.mk (Kd.N_below (by (with_reducible repeat (first | apply Kd.N_alloc | apply Kd.N_drewN | apply Kd.N_drew)); exact HO_9.out) hb); have n1_ := Aside0.mk (Kd.R_below (by (with_reducible repeat (first | apply Kd.R_alloc | apply Kd.R_drewN | apply Kd.R_drew)); exact HO_10.out) hb); have n2_ := Aside0.mk (Kd.N_below (by (with_reducible repeat (first | apply Kd.N_alloc | apply Kd.N_drewN | apply Kd.N_drew)); exact HO_11.out) hb); have n3_ := Aside0.mk (Kd.N_below (by (with_reducible repeat (first | apply Kd.N_alloc | apply Kd.N_drewN | apply Kd.N_drew)); exact HO173.out) hb); have n4_ := Aside0.mk (below_step (by repeat (first | (with_reducible first | exact HB.out | apply below_alloc | apply pw_below_drewN | apply below_drew1) | exact HB.out)) hb); clear HO_9; clear HO_10; clear HO_11; clear HO173; clear HB; have HO_9 := n0_; have HO_10 := n1_; have HO_11 := n2_; have HO173 := n3_; have HB := n4_; clear n0_ n1_ n2_ n3_ n4_; (try clear hb); (try clear hb2); (try clear hk); (try clear hi)))
                              go_ret
                              exact ⟨by first | rfl | (simp [errW_none, errW_some] <;> rfl) | (simp [*, errW_none, errW_some] <;> rfl), by repeat (first | (with_reducible first | exact HB.out | apply below_alloc | apply pw_below_drewN | apply below_drew1) | exact HB.out)⟩
                          · replace c76 := Bool.eq_false_iff.mpr c76
                            subst c76
                            have H1 : (some false) = some r := by rw [if_neg (show ¬ (false = true) by decide)] at H; exact H
                            clear H
                            have H := H1
                            clear H1
                            obtain rfl := Option.some.inj H
                            obtain ⟨Ao92, co92, eo92⟩ := Kd.N_slice HO_11.out
                            subst eo92
                            go_wp2_with (first | ((with_reducible refine gate_callee (f := 42) rfl ?_); refine goesL_ (some 106) rfl rfl Try.func42 (by kernel_rfl) rfl #[.slice Ao92 x11_3.length co92] rfl (by (try simp only [List.map_toArray, List.map_cons, List.map_nil]); first | done | rfl | (simp only [List.length_drop, List.length_take]; rfl)) ?_; (with_reducible refine (matrix_Inverse.calls _ _ x11_3 t170 t171 _ ?side1 ?side2 A74.out).mono ?_); (case side1 => repeat (first | exact (Kd.N_reads' HO_11.out).2.2 | (with_reducible refine Kd.C_alloc ?_ _) | (with_reducible refine Kd.C_drewN ?_ _) | (with_reducible refine Kd.C_drew ?_))); (case side2 => exact (Kd.N_reads' HO_11.out).2.1); rintro e w93 ⟨v172, rfl, ho0, hb⟩; refine ⟨_, rfl, ?_⟩; have n0_ := Aside0.mk (Kd.N_elder' (by (with_reducible repeat (first | apply Kd.N_alloc | apply Kd.N_drewN | apply Kd.N_drew)); exact HO_9.out) (by first | exact Kd.N_base ho0 | exact Kd.S_base ho0) hb); have n1_ := Aside0.mk (Kd.R_below (by (with_reducible repeat (first | apply Kd.R_alloc | apply Kd.R_drewN | apply Kd.R_drew)); exact HO_10.out) hb); have n2_ := Aside0.mk (Kd.N_elder' (by (with_reducible repeat (first | apply Kd.N_alloc | apply Kd.N_drewN | apply Kd.N_drew)); exact HO_11.out) (by first | exact Kd.N_base ho0 | exact Kd.S_base ho0) hb); have n3_ := Aside0.mk (Kd.N_lower (Kd.N_mono (ok' := fun k_ => some k_ ≠ (.slice Ao21 y109.length co21 : Value).ownBlock ∧ some k_ ≠ (u10 : Value).ownBlock ∧ some k_ ≠ (.slice Ao92 x11_3.length co92 : Value).ownBlock) (Kd.S_N (Kd.S_bound ho0)) (fun k_ hk_ => ⟨(Kd.fresh' (Kd.N_lt (by (with_reducible repeat (first | apply Kd.N_alloc | apply Kd.N_drewN | apply Kd.N_drew)); exact HO_9.out)) k_ hk_.2.1), (Kd.fresh' (Kd.R_lt (by (with_reducible repeat (first | apply Kd.R_alloc | apply Kd.R_drewN | apply Kd.R_drew)); exact HO_10.out)) k_ hk_.2.1), (Kd.fresh' (Kd.N_lt (by (with_reducible repeat (first | apply Kd.N_alloc | apply Kd.N_drewN | apply Kd.N_drew)); exact HO_11.out)) k_ hk_.2.1)⟩)) (below_size (by repeat (first | (with_reducible first | exact HB.out | apply below_alloc | apply pw_below_drewN | apply below_drew1) | exact HB.out)))); have n4_ := Aside0.mk (below_step (by repeat (first | (with_reducible first | exact HB.out | apply below_alloc | apply pw_below_drewN | apply below_drew1) | exact HB.out)) hb); clear HO_9; clear HO_10; clear HO_11; clear HB; have HO_9 := n0_; have HO_10 := n1_; have HO_11 := n2_; have HO173 := n3_; have HB := n4_; clear n0_ n1_ n2_ n3_ n4_; (try clear hb); (try clear hb2); (try clear hk); (try clear hi); (try clear ho0)) | ((with_reducible refine gate_callee (f := 16) rfl ?_); refine goesL_ (some 109) rfl rfl Try.func16 (by kernel_rfl) rfl #[] rfl (by (try simp only [List.map_toArray, List.map_cons, List.map_nil]); first | done | rfl | (simp only [List.length_drop, List.length_take]; rfl)) ?_; (with_reducible refine (kinkeeplaw04_awake.calls  false _ A75.out).mono ?_); rintro e w94 ⟨rfl, hb⟩; refine ⟨_, rfl, ?_⟩; have n0_ := Aside0.mk (Kd.N_below (by (with_reducible repeat (first | apply Kd.N_alloc | apply Kd.N_drewN | apply Kd.N_drew)); exact HO_9.out) hb); have n1_ := Aside0.mk (Kd.R_below (by (with_reducible repeat (first | apply Kd.R_alloc | apply Kd.R_drewN | apply Kd.R_drew)); exact HO_10.out) hb); have n2_ := Aside0.mk (Kd.N_below (by (with_reducible repeat (first | apply Kd.N_alloc | apply Kd.N_drewN | apply Kd.N_drew)); exact HO_11.out) hb); have n3_ := Aside0.mk (Kd.N_below (by (with_reducible repeat (first | apply Kd.N_alloc | apply Kd.N_drewN | apply Kd.N_drew)); exact HO173.out) hb); have n4_ := Aside0.mk (below_step (by repeat (first | (with_reducible first | exact HB.out | apply below_alloc | apply pw_below_drewN | apply below_drew1) | exact HB.out)) hb); clear HO_9; clear HO_10; clear HO_11; clear HO173; clear HB; have HO_9 := n0_; have HO_10 := n1_; have HO_11 := n2_; have HO173 := n3_; have HB := n4_; clear n0_ n1_ n2_ n3_ n4_; (try clear hb); (try clear hb2); (try clear hk); (try clear hi)))
                            go_ret
                            exact ⟨by first | rfl | (simp [errW_none, errW_some] <;> rfl) | (simp [*, errW_none, errW_some] <;> rfl), by repeat (first | (with_reducible first | exact HB.out | apply below_alloc | apply pw_below_drewN | apply below_drew1) | exact HB.out)⟩
            · rw [if_neg c16] at H
              have c16b0 : ((y109.length : Int) == (wrap64 (a1 + a0))) = false := beq_eq_false_iff_ne.mpr c16
              have c16b1 : ((y109.length : Int) != (wrap64 (a1 + a0))) = true := bne_iff_ne.mpr c16
              obtain rfl := Option.some.inj H
              go_wp2_with (first | ((with_reducible refine gate_callee (f := 49) rfl ?_); refine goesL_ (some 40) rfl rfl Try.func49 (by kernel_rfl) rfl #[.int .i64 a1, .int .i64 a0] rfl (by (try simp only [List.map_toArray, List.map_cons, List.map_nil]); first | done | rfl | (simp only [List.length_drop, List.length_take]; rfl)) ?_; (with_reducible refine (matrix_Cauchy.calls a1 a0 t102 t103 _ A12.out).mono ?_); rintro e w95 ⟨v104, rfl, ho0, hb⟩; refine ⟨_, rfl, ?_⟩; have n0_ := Aside0.mk (Kd.N_lower (Kd.N_mono (ok' := fun k_ => True) (Kd.S_N (Kd.S_bound ho0)) (fun k_ hk_ => trivial)) (below_size (by repeat (first | (with_reducible first | exact HB.out | apply below_alloc | apply pw_below_drewN | apply below_drew1) | exact HB.out)))); have n1_ := Aside0.mk (below_step (by repeat (first | (with_reducible first | exact HB.out | apply below_alloc | apply pw_below_drewN | apply below_drew1) | exact HB.out)) hb); clear HB; have HO105 := n0_; have HB := n1_; clear n0_ n1_; (try clear hb); (try clear hb2); (try clear hk); (try clear hi); (try clear ho0)) | ((with_reducible refine gate_callee (f := 48) rfl ?_); refine goesL_ (some 46) rfl rfl Try.func48 (by kernel_rfl) rfl #[.int .i64 a0] rfl (by (try simp only [List.map_toArray, List.map_cons, List.map_nil]); first | done | rfl | (simp only [List.length_drop, List.length_take]; rfl)) ?_; (with_reducible refine (matrix_Identity.calls kj3 a0 t106 _ A14.out).mono ?_); rintro e w96 ⟨v107, rfl, ho0, hb⟩; refine ⟨_, rfl, ?_⟩; have n0_ := Aside0.mk (Kd.N_elder' (by (with_reducible repeat (first | apply Kd.N_alloc | apply Kd.N_drewN | apply Kd.N_drew)); exact HO105.out) (by first | exact Kd.N_base ho0 | exact Kd.S_base ho0) hb); have n1_ := Aside0.mk (Kd.N_lower (Kd.N_mono (ok' := fun k_ => some k_ ≠ (v104 : Value).ownBlock) (Kd.S_N (Kd.S_bound ho0)) (fun k_ hk_ => (Kd.fresh' (Kd.N_lt (by (with_reducible repeat (first | apply Kd.N_alloc | apply Kd.N_drewN | apply Kd.N_drew)); exact HO105.out)) k_ hk_.2.1))) (below_size (by repeat (first | (with_reducible first | exact HB.out | apply below_alloc | apply pw_below_drewN | apply below_drew1) | exact HB.out)))); have n2_ := Aside0.mk (below_step (by repeat (first | (with_reducible first | exact HB.out | apply below_alloc | apply pw_below_drewN | apply below_drew1) | exact HB.out)) hb); clear HO105; clear HB; have HO105 := n0_; have HO108 := n1_; have HB := n2_; clear n0_ n1_ n2_; (try clear hb); (try clear hb2); (try clear hk); (try clear hi); (try clear ho0); obtain ⟨Ao98, co98, eo98⟩ := Kd.N_slice HO105.out; subst eo98) | ((with_reducible refine gate_builtin (b := .append) (xs := #[.tmp 46, .tmp 47]) rfl ?_); (try (refine gate_guard (by rfl) ?_; dsimp only)); at_builtin; refine Kd.N_append_rows (Kd.slice 5 (Kd.int .u8)) (w0 := w) w.heap.size rfl (.tmp 46) (.tmp 47) 22 34 (.slice none 0 0) 24 rfl Try.underlying22 info34 rfl (by decide) (by omega) v107 t106 t102 _ _ _ (fun _ => True) (fun k_ => ((fun _ => True)) k_ ∧ some k_ ≠ (v107 : Value).ownBlock) rfl rfl ?aO ?aR (fun _ hk => hk) ?aF ?aB ?aS ?aL ?_; (case aR => exact (by skip; exact Kd.N_F (Kd.N_mono (ok' := (fun k_ => ((fun _ => True)) k_ ∧ some k_ ≠ (v107 : Value).ownBlock)) (HO105.out) (fun k_ hk => ⟨trivial, hk.2⟩)))); (case aB => exact (by repeat (first | (with_reducible first | exact HB.out | apply below_alloc | apply pw_below_drewN | apply below_drew1) | exact HB.out))); (case aF => exact (fun _ _ => trivial)); (case aO => exact (by (with_reducible repeat (first | apply Kd.N_alloc | apply Kd.N_drewN | apply Kd.N_drew)); exact Kd.N_mono HO108.out (fun _ hk => trivial))); (case aS => exact (below_size (by repeat (first | (with_reducible first | exact HB.out | apply below_alloc | apply pw_below_drewN | apply below_drew1) | exact HB.out)))); (case aL => have := LMc15.out; omega); intro v110 w97 ho hb hg hat; rw [← Ny109.out] at ho; have n0_ := Aside0.mk (Kd.N_afterv (ok := (fun _ => True)) (by (with_reducible repeat (first | apply Kd.N_alloc | apply Kd.N_drewN | apply Kd.N_drew)); exact HO105.out) hg hat); have n1_ := Aside0.mk (hb); have n2_ := Aside0.mk (ho); clear HO105; clear HB; clear HO108; have HO105 := n0_; have HB := n1_; have HO111 := n2_; clear n0_ n1_ n2_; clear ho hb hg hat; obtain ⟨Ao99, co99, eo99⟩ := Kd.N_slice HO111.out; subst eo99))
              go_ret
              exact ⟨by first | rfl | (simp [errW_none, errW_some] <;> rfl) | (simp [*, errW_none, errW_some] <;> rfl), by repeat (first | (with_reducible first | exact HB.out | apply below_alloc | apply pw_below_drewN | apply below_drew1) | exact HB.out)⟩
          · rw [if_neg c15] at H
            exact absurd H (by simp)
        · rw [if_neg c13] at H
          have c13b0 : (t103 == 0) = false := beq_eq_false_iff_ne.mpr c13
          have c13b1 : (t103 != 0) = true := bne_iff_ne.mpr c13
          obtain rfl := Option.some.inj H
          go_wp2_with (first | ((with_reducible refine gate_callee (f := 49) rfl ?_); refine goesL_ (some 40) rfl rfl Try.func49 (by kernel_rfl) rfl #[.int .i64 a1, .int .i64 a0] rfl (by (try simp only [List.map_toArray, List.map_cons, List.map_nil]); first | done | rfl | (simp only [List.length_drop, List.length_take]; rfl)) ?_; (with_reducible refine (matrix_Cauchy.calls a1 a0 t102 t103 _ A12.out).mono ?_); rintro e w100 ⟨v104, rfl, ho0, hb⟩; refine ⟨_, rfl, ?_⟩; have n0_ := Aside0.mk (Kd.N_lower (Kd.N_mono (ok' := fun k_ => True) (Kd.S_N (Kd.S_bound ho0)) (fun k_ hk_ => trivial)) (below_size (by repeat (first | (with_reducible first | exact HB.out | apply below_alloc | apply pw_below_drewN | apply below_drew1) | exact HB.out)))); have n1_ := Aside0.mk (below_step (by repeat (first | (with_reducible first | exact HB.out | apply below_alloc | apply pw_below_drewN | apply below_drew1) | exact HB.out)) hb); clear HB; have HO105 := n0_; have HB := n1_; clear n0_ n1_; (try clear hb); (try clear hb2); (try clear hk); (try clear hi); (try clear ho0)))
          go_ret
          exact ⟨by first | rfl | (simp [errW_none, errW_some] <;> rfl) | (simp [*, errW_none, errW_some] <;> rfl), by repeat (first | (with_reducible first | exact HB.out | apply below_alloc | apply pw_below_drewN | apply below_drew1) | exact HB.out)⟩
end Go.Proofs.Ytpkghpljgjlmjaa.K
/- The kernel, plain: its vectors, and that they vanish. -/
namespace Go.Proofs.Ytpkghpljgjlmjaa.K
open Go.RowKit Go.Proofs.YtpkghpljgjlmjaaW.PrintWords Go.Proofs.YtpkghpljgjlmjaaW.PrintLast Go.Proofs.YtpkghpljgjlmjaaW.PrintMore Kin
set_option linter.unusedVariables false
theorem setg_eq (r : List B) (k : Nat) (x : B) (j : Nat) : (r.set k x).getD j 0 = if j = k ∧ k < r.length then x else r.getD j 0 := by
  rw [List.getD_eq_getElem?_getD, List.getElem?_set]
  by_cases h : k = j
  · subst h
    rw [if_pos rfl]
    by_cases h2 : k < r.length
    · rw [if_pos h2, if_pos ⟨rfl, h2⟩]; rfl
    · rw [if_neg h2, if_neg (by omega), List.getD_eq_getElem?_getD, List.getElem?_eq_none (by omega)]
  · rw [if_neg h, if_neg (by omega), List.getD_eq_getElem?_getD]
def dot (n : Nat) (f : Nat → B) (v : List B) : B := bsum n fun d => gmul (f d) (v.getD d 0)
theorem dot_set {n : Nat} (f : Nat → B) {v : List B} {p : Nat} (hp : p < n) (hv : v.length = n) (x : B) (h0 : v.getD p 0 = 0) : dot n f (v.set p x) = dot n f v ^^^ gmul (f p) x := by
  have e : dot n f (v.set p x) = bsum n (fun d => gmul (f d) (v.getD d 0) ^^^ if d = p then gmul (f p) x else 0) := by
    refine bsum_congr fun d hd => ?_
    rw [setg_eq]
    by_cases h : d = p
    · subst h
      rw [if_pos ⟨rfl, by omega⟩, if_pos rfl, h0, gmul_zero, zero_bx]
    · rw [if_neg (by omega), if_neg h, bx_zero]
  rw [e, bsum_add, bsum_one (f := fun d => if d = p then gmul (f p) x else 0) hp (fun j _ hne => if_neg hne), if_pos rfl]
  rfl
theorem dot_zeros (n m : Nat) (f : Nat → B) : dot n f (List.replicate m 0) = 0 := by
  refine bsum_zero fun j hj => ?_
  have : (List.replicate m (0 : B)).getD j 0 = 0 := by
    rw [List.getD_eq_getElem?_getD, List.getElem?_replicate]
    split <;> rfl
  rw [this, gmul_zero]
/-- The first t pivots' elements set. -/
def setPivs (R : List (List B)) (piv : List Nat) (c : Nat) (v0 : List B) (t : Nat) : List B := (List.range t).foldl (fun o i => o.set (piv.getD i 0) ((R.getD i []).getD c 0)) v0
theorem setPivs_succ (R : List (List B)) (piv : List Nat) (c : Nat) (v0 : List B) (t : Nat) : setPivs R piv c v0 (t + 1) = (setPivs R piv c v0 t).set (piv.getD t 0) ((R.getD t []).getD c 0) := by
  unfold setPivs
  rw [List.range_succ, List.foldl_append]
  rfl
theorem setPivs_length (R : List (List B)) (piv : List Nat) (c : Nat) (v0 : List B) (t : Nat) : (setPivs R piv c v0 t).length = v0.length := by
  induction t with
  | zero => rfl
  | succ t ih => rw [setPivs_succ, List.length_set, ih]
theorem setPivs_free (R : List (List B)) (piv : List Nat) (c : Nat) (v0 : List B) (d : Nat) : ∀ t, (∀ i, i < t → piv.getD i 0 ≠ d) → (setPivs R piv c v0 t).getD d 0 = v0.getD d 0 := by
  intro t
  induction t with
  | zero => intro _; rfl
  | succ t ih =>
    intro h
    rw [setPivs_succ, setg_eq, if_neg (fun e => h t (by omega) e.1.symm), ih (fun i hi => h i (by omega))]
theorem setPivs_dot {A : Mx} {len cols : Nat} {piv : List Nat} (hF : Form A len cols piv) {R : List (List B)} (hA : fn R = A) {n c : Nat} (hn : cols ≤ n) {v0 : List B} (hv : v0.length = n) (h0 : ∀ i, i < piv.length → v0.getD (piv.getD i 0) 0 = 0) {i : Nat} (hi : i < len) :
    ∀ t, t ≤ piv.length → dot n (A i) (setPivs R piv c v0 t) = dot n (A i) v0 ^^^ if i < t then A i c else 0 := by
  intro t
  induction t with
  | zero => intro _; rw [if_neg (by omega), bx_zero]; rfl
  | succ t ih =>
    intro ht
    have hpt := hF.lt t (by omega)
    rw [setPivs_succ, dot_set (A i) (by omega) (by rw [setPivs_length, hv]) _ (by
      rw [setPivs_free R piv c v0 _ t (fun j hj => by have := hF.inc j t hj (by omega); omega)]
      exact h0 t (by omega)), ih (by omega), hF.unit t (by omega) i hi, show (R.getD t []).getD c 0 = A t c by rw [← hA]; rfl]
    by_cases e : i = t
    · subst e
      rw [if_pos rfl, one_gmul, if_neg (by omega), bx_zero, if_pos (by omega)]
    · rw [if_neg e, zero_gmul, bx_zero]
      by_cases h : i < t
      · rw [if_pos h, if_pos (by omega)]
      · rw [if_neg h, if_neg (by omega)]
/-- The vector of a free column. -/
def kvec (R : List (List B)) (piv : List Nat) (n c : Nat) : List B := setPivs R piv c ((List.replicate n 0).set c 1) piv.length
theorem mem_piv {piv : List Nat} {d : Nat} : d ∈ piv ↔ ∃ i, i < piv.length ∧ piv.getD i 0 = d := by
  constructor
  · intro h
    obtain ⟨i, hi, rfl⟩ := List.mem_iff_getElem.1 h
    exact ⟨i, hi, by rw [List.getD_eq_getElem?_getD, List.getElem?_eq_getElem hi]; rfl⟩
  · rintro ⟨i, hi, rfl⟩
    rw [List.getD_eq_getElem?_getD, List.getElem?_eq_getElem hi]
    exact List.getElem_mem hi
theorem e_getD {n c d : Nat} (hc : c < n) : ((List.replicate n (0 : B)).set c 1).getD d 0 = if d = c then 1 else 0 := by
  rw [setg_eq, List.length_replicate]
  by_cases h : d = c
  · rw [if_pos ⟨h, hc⟩, if_pos h]
  · rw [if_neg (by omega), if_neg h, List.getD_eq_getElem?_getD, List.getElem?_replicate]
    split <;> rfl
theorem kvec_free {R : List (List B)} {piv : List Nat} {n c d : Nat} (hc : c < n) (hd : d ∉ piv) : (kvec R piv n c).getD d 0 = if d = c then 1 else 0 := by
  unfold kvec
  rw [setPivs_free _ _ _ _ _ _ (fun i hi e => hd (mem_piv.2 ⟨i, hi, e⟩)), e_getD hc]
theorem kvec_dot {M : List (List B)} {n : Nat} (hM : ∀ r ∈ M, r.length = n) {c : Nat} (hc : c < n) (hfree : c ∉ (elimRun M n).2.1) {i : Nat} (hi : i < M.length) : dot n (fn M i) (kvec (elimRun M n).1 (elimRun M n).2.1 n c) = 0 := by
  obtain ⟨F, hF, hf⟩ := elim_ops hM n
  have hform := elim_form hM n
  have hz := hF.zero (mulF n (fn M) (fun t _ => (kvec (elimRun M n).1 (elimRun M n).2.1 n c).getD t 0)) 0 (fun a ha => ?_) i hi
  · exact hz
  · rw [hF.mul, ← hf]
    have e := setPivs_dot hform rfl (c := c) (Nat.le_refl n) (v0 := (List.replicate n 0).set c 1) (by simp) (fun j hj => by
      rw [e_getD hc, if_neg]
      intro e
      exact hfree (mem_piv.2 ⟨j, hj, e⟩)) ha (elimRun M n).2.1.length (Nat.le_refl _)
    show dot n (fn (elimRun M n).1 a) (kvec (elimRun M n).1 (elimRun M n).2.1 n c) = 0
    unfold kvec
    rw [e, dot_set _ hc (by simp) _ (by rw [List.getD_eq_getElem?_getD, List.getElem?_replicate]; split <;> rfl), dot_zeros, zero_bx, gmul_one]
    by_cases h : a < (elimRun M n).2.1.length
    · rw [if_pos h, bx_self]
    · rw [if_neg h, bx_zero]
      exact hform.zero a (by omega) ha c hc
theorem rd_nat {l : List Int} {i : Nat} (h : i < l.length) : rd l (i : Int) = l[i] := by
  unfold rd
  rw [Int.toNat_natCast, List.getD_eq_getElem?_getD, List.getElem?_eq_getElem h]; rfl
section
variable {M R : List (List B)} {piv : List Nat} {n : Nat}
end
end Go.Proofs.Ytpkghpljgjlmjaa.K
/- Linear equations, plain: solved by elimination. -/
namespace Go.Proofs.Ytpkghpljgjlmjaa.K
open Go.RowKit Go.Proofs.YtpkghpljgjlmjaaW.PrintWords Go.Proofs.YtpkghpljgjlmjaaW.PrintLast Go.Proofs.YtpkghpljgjlmjaaW.PrintMore Kin
set_option linter.unusedVariables false
theorem findRow_agree {R1 R2 : List (List B)} (hl : R1.length = R2.length) {c : Nat} (h : ∀ i, fn R1 i c = fn R2 i c) (k : Nat) : findRow R1 k c = findRow R2 k c := by
  unfold findRow
  rw [hl]
  congr 1
  funext i
  have := h i
  unfold fn at this
  rw [this]
/-- Two matrices that agree in the first n columns are eliminated alike there. -/
theorem elim_agree {R1 R2 : List (List B)} {m1 m2 n : Nat} (h1 : ∀ r ∈ R1, r.length = m1) (h2 : ∀ r ∈ R2, r.length = m2) (hl : R1.length = R2.length) (h : ∀ i j, j < n → fn R1 i j = fn R2 i j) :
    ∀ c, c ≤ n → (elimRun R1 c).2.1 = (elimRun R2 c).2.1 ∧ ∀ i j, j < n → fn (elimRun R1 c).1 i j = fn (elimRun R2 c).1 i j := by
  intro c
  induction c with
  | zero => intro _; exact ⟨rfl, h⟩
  | succ c ih =>
    intro hc
    obtain ⟨ih1, ih2⟩ := ih (by omega)
    have g1 := elimRun_rows h1 c
    have g2 := elimRun_rows h2 c
    have l1 := elimRun_length R1 c
    have l2 := elimRun_length R2 c
    rw [elimRun_succ, elimRun_succ]
    generalize elimRun R1 c = s1 at *
    generalize elimRun R2 c = s2 at *
    have hf := findRow_agree (R1 := s1.1) (R2 := s2.1) (by omega) (c := c) (fun i => ih2 i c (by omega)) s1.2.1.length
    cases hfind : findRow s1.1 s1.2.1.length c with
    | none =>
      have e1 : elimStep s1 c = s1 := by unfold elimStep; rw [hfind]
      have e2 : elimStep s2 c = s2 := by unfold elimStep; rw [← ih1, ← hf, hfind]
      rw [e1, e2]
      exact ⟨ih1, ih2⟩
    | some q =>
      have hfind2 : findRow s2.1 s2.2.1.length c = some q := by rw [← ih1, ← hf, hfind]
      obtain ⟨a1, a2, _⟩ := elimStep_fn g1 hfind
      obtain ⟨b1, b2, _⟩ := elimStep_fn g2 hfind2
      rw [a1, a2, b1, b2, ← ih1]
      refine ⟨rfl, fun i j hj => ?_⟩
      unfold rowop
      simp only [swp_row]
      rw [ih2 _ j hj, ih2 _ j hj, ih2 _ c (by omega), ih2 _ c (by omega)]
end Go.Proofs.Ytpkghpljgjlmjaa.K
/- Determinants, plain: the elimination's is the one by expansion; determinants multiply. -/
namespace Go.Proofs.Ytpkghpljgjlmjaa.K
open Go.RowKit Go.Proofs.YtpkghpljgjlmjaaW.PrintWords Go.Proofs.YtpkghpljgjlmjaaW.PrintLast Go.Proofs.YtpkghpljgjlmjaaW.PrintMore Kin
set_option linter.unusedVariables false
theorem inc_id {A : Mx} {n : Nat} {piv : List Nat} (h : Form A n n piv) (hl : piv.length = n) : ∀ a, a < n → piv.getD a 0 = a := by
  have lo : ∀ a, a < n → a ≤ piv.getD a 0 := by
    intro a
    induction a with
    | zero => intro _; exact Nat.zero_le _
    | succ a ih =>
      intro ha
      have := ih (by omega)
      have := h.inc a (a + 1) (by omega) (by omega)
      omega
  have hi : ∀ m a, a + m + 1 = n → piv.getD a 0 ≤ a := by
    intro m
    induction m with
    | zero =>
      intro a ha
      have := h.lt a (by omega)
      omega
    | succ m ih =>
      intro a ha
      have h1 := ih (a + 1) (by omega)
      have h2 := h.inc a (a + 1) (by omega) (by omega)
      omega
  intro a ha
  have := lo a ha
  have := hi (n - 1 - a) a (by omega)
  omega
theorem colsN_rows {M : List (List B)} {c : Nat} (h : ∀ r ∈ M, r.length = c) (h0 : 0 < M.length) : colsN M = c := by
  cases M with
  | nil => simp at h0
  | cons a t => exact h a List.mem_cons_self
theorem validB_tab {M : List (List B)} {c : Nat} (h : ∀ r ∈ M, r.length = c) (h1 : M.length ≤ 64) (h2 : c ≤ 64) : validB M = true := by
  by_cases h0 : 0 < M.length
  · have := colsN_rows h h0
    simp only [validB, Bool.and_eq_true, decide_eq_true_eq, List.all_eq_true]
    exact ⟨h1, by omega, fun r hr => by rw [h r hr, this]⟩
  · have : M = [] := List.eq_nil_of_length_eq_zero (by omega)
    subst this
    rfl
end Go.Proofs.Ytpkghpljgjlmjaa.K
/- Rows of identity above Cauchy: any of them, as many as there are columns, have no kernel. Plain. -/
namespace Kin
def lsum {α : Type} : List α → (α → B) → B
  | [], _ => 0
  | a :: l, f => f a ^^^ lsum l f
theorem lsum_congr {α : Type} {l : List α} {f g : α → B} (h : ∀ a ∈ l, f a = g a) : lsum l f = lsum l g := by
  induction l with
  | nil => rfl
  | cons a l ih => simp only [lsum]; rw [h a (List.mem_cons_self ..), ih fun b hb => h b (List.mem_cons_of_mem _ hb)]
theorem lsum_add {α : Type} (l : List α) (f g : α → B) : lsum l (fun a => f a ^^^ g a) = lsum l f ^^^ lsum l g := by
  induction l with
  | nil => simp [lsum]
  | cons a l ih => simp only [lsum]; rw [ih, bx_swap4]
theorem lsum_mul {α : Type} (l : List α) (c : B) (f : α → B) : lsum l (fun a => gmul c (f a)) = gmul c (lsum l f) := by
  induction l with
  | nil => simp [lsum, gmul_zero]
  | cons a l ih => simp only [lsum]; rw [ih, gmul_add_right]
theorem lsum_zero {α : Type} {l : List α} {f : α → B} (h : ∀ a ∈ l, f a = 0) : lsum l f = 0 := by
  induction l with
  | nil => rfl
  | cons a l ih => simp only [lsum]; rw [h a (List.mem_cons_self ..), ih fun b hb => h b (List.mem_cons_of_mem _ hb), bx_zero]
theorem lsum_append {α : Type} (l k : List α) (f : α → B) : lsum (l ++ k) f = lsum l f ^^^ lsum k f := by
  induction l with
  | nil => simp [lsum]
  | cons a l ih => simp only [lsum, List.cons_append]; rw [ih, bx_assoc]
theorem lsum_range (n : Nat) (f : Nat → B) : lsum (List.range n) f = bsum n f := by
  induction n with
  | zero => rfl
  | succ n ih => rw [List.range_succ, lsum_append, ih]; simp [lsum, bsum]
theorem lsum_filter {α : Type} (p : α → Bool) (l : List α) (f : α → B) (h : ∀ a ∈ l, p a = false → f a = 0) : lsum (l.filter p) f = lsum l f := by
  induction l with
  | nil => rfl
  | cons a l ih =>
    have ih := ih fun b hb => h b (List.mem_cons_of_mem _ hb)
    cases hp : p a with
    | true => rw [List.filter_cons_of_pos (by simpa using hp)]; simp only [lsum]; rw [ih]
    | false => rw [List.filter_cons_of_neg (by simp [hp])]; simp only [lsum]; rw [ih, h a (List.mem_cons_self ..) hp, zero_bx]
/-- Both quotients of two values at c, put together. -/
theorem cauchy_part {a b d : B} (ha : a ≠ 0) (hb : b ≠ 0) : gmul (a ^^^ d) (ginv a) ^^^ gmul (b ^^^ d) (ginv b) = gmul (a ^^^ b) (gmul (gmul d (ginv b)) (ginv a)) := by
  rw [gmul_add_left, gmul_add_left, gmul_ginv a ha, gmul_ginv b hb, bx_swap4, bx_self, zero_bx, gmul_add_left]
  have e1 : gmul a (gmul (gmul d (ginv b)) (ginv a)) = gmul d (ginv b) := by
    rw [gmul_left_comm, gmul_ginv a ha, gmul_one]
  have e2 : gmul b (gmul (gmul d (ginv b)) (ginv a)) = gmul d (ginv a) := by
    rw [gmul_comm d, gmul_assoc, ← gmul_assoc b, gmul_ginv b hb, one_gmul]
  rw [e1, e2, bx_comm]
theorem cauchy_zero : ∀ (xs ys : List B) (v : B → B), xs.Nodup → ys.Nodup → (∀ x ∈ xs, ∀ y ∈ ys, x ≠ y) → ys.length ≤ xs.length → (∀ x ∈ xs, lsum ys (fun y => gmul (v y) (ginv (x ^^^ y))) = 0) → ∀ y ∈ ys, v y = 0
  | _, [], _, _, _, _, _, _ => fun y hy => nomatch hy
  | [], _ :: _, _, _, _, _, hl, _ => by simp at hl
  | x0 :: xs, y0 :: ys, v, hx, hy, hd, hl, he => by
    obtain ⟨hx0, hx⟩ := List.nodup_cons.1 hx
    obtain ⟨hy0, hy⟩ := List.nodup_cons.1 hy
    have nz : ∀ x ∈ x0 :: xs, ∀ y ∈ y0 :: ys, x ^^^ y ≠ 0 := fun x h1 y h2 e => hd x h1 y h2 (bx_eq_zero.1 e)
    have m0 : x0 ∈ x0 :: xs := List.mem_cons_self ..
    have n0 : y0 ∈ y0 :: ys := List.mem_cons_self ..
    -- what each equation says of v y0
    have key : ∀ x ∈ x0 :: xs, lsum ys (fun y => gmul (x ^^^ y0) (gmul (v y) (ginv (x ^^^ y)))) = v y0 := by
      intro x hxm
      have h := he x hxm
      simp only [lsum] at h
      rw [lsum_mul]
      have h2 := bx_eq_zero.1 h
      rw [← h2, gmul_left_comm, gmul_ginv _ (nz x hxm y0 n0), gmul_one]
    have small : ∀ y ∈ ys, gmul (v y) (gmul (y0 ^^^ y) (ginv (x0 ^^^ y))) = 0 := by
      refine cauchy_zero xs ys _ hx hy (fun x h1 y h2 => hd x (List.mem_cons_of_mem _ h1) y (List.mem_cons_of_mem _ h2)) (by simpa using hl) ?_
      intro x hxm
      have hxm' : x ∈ x0 :: xs := List.mem_cons_of_mem _ hxm
      have hne : x ^^^ x0 ≠ 0 := fun e => hx0 (bx_eq_zero.1 e ▸ hxm)
      have h := (key x hxm').trans (key x0 m0).symm
      have h2 := bx_eq_zero.2 h
      rw [← lsum_add] at h2
      have h3 : lsum ys (fun y => gmul (x ^^^ x0) (gmul (gmul (v y) (gmul (y0 ^^^ y) (ginv (x0 ^^^ y)))) (ginv (x ^^^ y)))) = 0 := by
        rw [← h2]
        refine lsum_congr fun y hym => ?_
        have a1 := nz x hxm' y (List.mem_cons_of_mem _ hym)
        have a2 := nz x0 m0 y (List.mem_cons_of_mem _ hym)
        have e := cauchy_part (d := y0 ^^^ y) a1 a2
        have s1 : x ^^^ y ^^^ (y0 ^^^ y) = x ^^^ y0 := by rw [bx_comm y0, bx_assoc, bx_cancel_left]
        have s2 : x0 ^^^ y ^^^ (y0 ^^^ y) = x0 ^^^ y0 := by rw [bx_comm y0, bx_assoc, bx_cancel_left]
        have s3 : x ^^^ y ^^^ (x0 ^^^ y) = x ^^^ x0 := by rw [bx_comm x0, bx_assoc, bx_cancel_left]
        rw [s1, s2, s3] at e
        rw [gmul_left_comm (x ^^^ y0), gmul_left_comm (x0 ^^^ y0), ← gmul_add_right, e]
        rw [gmul_assoc (v y), gmul_left_comm (x ^^^ x0)]
      rw [lsum_mul] at h3
      exact (gmul_eq_zero.1 h3).resolve_left hne
    have zs : ∀ y ∈ ys, v y = 0 := by
      intro y hym
      have h := small y hym
      have hne : y0 ^^^ y ≠ 0 := fun e => hy0 (bx_eq_zero.1 e ▸ hym)
      exact (gmul_eq_zero.1 h).resolve_right (gmul_ne_zero hne (ginv_ne_zero (nz x0 m0 y (List.mem_cons_of_mem _ hym))))
    intro y hym
    rcases List.mem_cons.1 hym with rfl | hym
    · rw [← key x0 m0]
      exact lsum_zero fun z hz => by rw [zs z hz, zero_gmul, gmul_zero]
    · exact zs y hym
/-- The row with the number p: of the identity, or of Cauchy's matrix below it. -/
def rowEl (n p c : Nat) : B := if p < n then (if p = c then 1 else 0) else ginv (UInt8.ofNat p ^^^ UInt8.ofNat c)
theorem ofNat_inj {a b : Nat} (ha : a < 256) (hb : b < 256) (h : UInt8.ofNat a = UInt8.ofNat b) : a = b := by
  have := congrArg UInt8.toNat h
  rw [UInt8.toNat_ofNat', UInt8.toNat_ofNat'] at this
  omega
theorem nodup_ofNat : ∀ {l : List Nat}, l.Nodup → (∀ a ∈ l, a < 256) → (l.map UInt8.ofNat).Nodup
  | [], _, _ => List.nodup_nil
  | a :: l, h, hb => by
    obtain ⟨h1, h2⟩ := List.nodup_cons.1 h
    rw [List.map_cons, List.nodup_cons]
    refine ⟨fun hm => ?_, nodup_ofNat h2 fun b hb' => hb b (List.mem_cons_of_mem _ hb')⟩
    obtain ⟨b, hb1, hb2⟩ := List.mem_map.1 hm
    have := ofNat_inj (hb b (List.mem_cons_of_mem _ hb1)) (hb a (List.mem_cons_self ..)) hb2
    exact h1 (this ▸ hb1)
theorem nodup_filter {α : Type} (p : α → Bool) : ∀ {l : List α}, l.Nodup → (l.filter p).Nodup
  | [], _ => List.nodup_nil
  | a :: l, h => by
    obtain ⟨h1, h2⟩ := List.nodup_cons.1 h
    cases hp : p a with
    | true => rw [List.filter_cons_of_pos (by simpa using hp), List.nodup_cons]; exact ⟨fun hm => h1 (List.mem_filter.1 hm).1, nodup_filter p h2⟩
    | false => rw [List.filter_cons_of_neg (by simp [hp])]; exact nodup_filter p h2
theorem nodup_range (n : Nat) : (List.range n).Nodup := List.nodup_range
/-- A list without repetition whose members lie in another is not longer. -/
theorem nodup_le : ∀ {l k : List Nat}, l.Nodup → (∀ a ∈ l, a ∈ k) → l.length ≤ k.length
  | [], _, _, _ => Nat.zero_le _
  | a :: l, k, h, hs => by
    obtain ⟨h1, h2⟩ := List.nodup_cons.1 h
    have hk : a ∈ k := hs a (List.mem_cons_self ..)
    have := nodup_le (k := k.erase a) h2 fun b hb => (List.mem_erase_of_ne (by rintro rfl; exact h1 hb)).2 (hs b (List.mem_cons_of_mem _ hb))
    rw [List.length_erase_of_mem hk] at this
    have : 0 < k.length := List.length_pos_of_mem hk
    simp only [List.length_cons]
    omega
theorem filter_split {α : Type} (p : α → Bool) : ∀ l : List α, (l.filter p).length + (l.filter fun a => !p a).length = l.length
  | [] => rfl
  | a :: l => by
    have := filter_split p l
    cases hp : p a
    · rw [List.filter_cons_of_neg (by simp [hp]), List.filter_cons_of_pos (by simp [hp])]; simp only [List.length_cons]; omega
    · rw [List.filter_cons_of_pos (by simpa using hp), List.filter_cons_of_neg (by simp [hp])]; simp only [List.length_cons]; omega
theorem any_rows {n : Nat} (hn : n ≤ 256) {P : List Nat} (hP : P.Nodup) (hl : n ≤ P.length) (hb : ∀ p ∈ P, p < 256) (v : Nat → B)
    (he : ∀ p ∈ P, bsum n (fun c => gmul (rowEl n p c) (v c)) = 0) : ∀ c, c < n → v c = 0 := by
  have hS : ∀ c, c < n → c ∈ P → v c = 0 := by
    intro c hc hm
    have h := he c hm
    rw [bsum_one (p := c) hc] at h
    · rwa [rowEl, if_pos hc, if_pos rfl, one_gmul] at h
    · intro j _ hj
      rw [rowEl, if_pos hc, if_neg (Ne.symm hj), zero_gmul]
  -- the columns that no row of the identity names, and the rows of Cauchy's matrix
  let ys := (List.range n).filter fun c => !decide (c ∈ P)
  let xs := P.filter fun p => !decide (p < n)
  have hys : ∀ c, c ∈ ys ↔ c < n ∧ c ∉ P := fun c => by simp [ys, List.mem_filter]
  have hxs : ∀ p, p ∈ xs ↔ p ∈ P ∧ ¬ p < n := fun p => by simp [xs, List.mem_filter]
  have hlen : ys.length ≤ xs.length := by
    have h1 := filter_split (fun c => decide (c ∈ P)) (List.range n)
    have h2 := filter_split (fun p => decide (p < n)) P
    have h3 : (P.filter fun p => decide (p < n)).length ≤ ((List.range n).filter fun c => decide (c ∈ P)).length :=
      nodup_le (nodup_filter _ hP) fun a ha => by
        obtain ⟨ha1, ha2⟩ := List.mem_filter.1 ha
        exact List.mem_filter.2 ⟨List.mem_range.2 (by simpa using ha2), by simpa using ha1⟩
    have h4 : ((List.range n).filter fun c => decide (c ∈ P)).length ≤ (P.filter fun p => decide (p < n)).length :=
      nodup_le (nodup_filter _ (nodup_range n)) fun a ha => by
        obtain ⟨ha1, ha2⟩ := List.mem_filter.1 ha
        exact List.mem_filter.2 ⟨by simpa using ha2, by simpa using ha1⟩
    rw [List.length_range] at h1
    show ((List.range n).filter fun c => !decide (c ∈ P)).length ≤ (P.filter fun p => !decide (p < n)).length
    omega
  have hz := cauchy_zero (xs.map UInt8.ofNat) (ys.map UInt8.ofNat) (fun y => v y.toNat)
    (nodup_ofNat (nodup_filter _ hP) fun a ha => hb a ((hxs a).1 ha).1)
    (nodup_ofNat (nodup_filter _ (nodup_range n)) fun a ha => by have := ((hys a).1 ha).1; omega)
    (by
      intro x hx y hy e
      obtain ⟨p, hp, rfl⟩ := List.mem_map.1 hx
      obtain ⟨c, hc, rfl⟩ := List.mem_map.1 hy
      have h1 := (hxs p).1 hp
      have h2 := (hys c).1 hc
      have := ofNat_inj (hb p h1.1) (by omega) e
      omega)
    (by rw [List.length_map, List.length_map]; exact hlen)
    (by
      intro x hx
      obtain ⟨p, hp, rfl⟩ := List.mem_map.1 hx
      have h1 := (hxs p).1 hp
      have h := he p h1.1
      rw [← lsum_range, ← lsum_filter (fun c => !decide (c ∈ P))] at h
      · rw [← h]
        clear h
        show lsum (ys.map UInt8.ofNat) _ = lsum ys _
        have hyb : ∀ c ∈ ys, c < 256 := fun c hc => by have := ((hys c).1 hc).1; omega
        generalize ys = ys at hyb
        induction ys with
        | nil => rfl
        | cons c l ih =>
          simp only [List.map_cons, lsum]
          rw [ih fun c hc => hyb c (List.mem_cons_of_mem _ hc), rowEl, if_neg h1.2, gmul_comm]
          have : (UInt8.ofNat c).toNat = c := by rw [UInt8.toNat_ofNat']; exact Nat.mod_eq_of_lt (hyb c (List.mem_cons_self ..))
          rw [this]
      · intro c hc hp
        rw [hS c (by simpa using hc) (by simpa using hp), gmul_zero])
  intro c hc
  by_cases hm : c ∈ P
  · exact hS c hc hm
  · have := hz (UInt8.ofNat c) (List.mem_map.2 ⟨c, (hys c).2 ⟨hc, hm⟩, rfl⟩)
    have e : (UInt8.ofNat c).toNat = c := by rw [UInt8.toNat_ofNat']; exact Nat.mod_eq_of_lt (by omega)
    rwa [e] at this
end Kin
/- Inverses in plain Lean; a square matrix without a kernel has one; rows of identity above Cauchy. -/
namespace Go.Proofs.Ytpkghpljgjlmjaa.K
open Go.RowKit Kin
set_option linter.unusedVariables false
theorem idM_fn' {n i j : Nat} (hi : i < n) (hj : j < n) : fn (idM n) i j = idF i j := by
  have : idM n = tabM n n (fun a b => if a = b then 1 else 0) := rfl
  rw [this, tabM_fn _ hi hj]
  rfl
theorem wideI_row' {M : List (List B)} {n i : Nat} (hi : i < n) : (wideI M n).getD i [] = M.getD i [] ++ (idM n).getD i [] := by
  unfold wideI
  rw [List.getD_eq_getElem?_getD, List.getElem?_map, List.getElem?_range hi]
  rfl
section
variable {M : List (List B)} {n : Nat}
theorem wideI_left' (hl : M.length = n) (hM : ∀ r ∈ M, r.length = n) {i j : Nat} (hj : j < n) : fn (wideI M n) i j = fn M i j := by
  by_cases hi : i < n
  · unfold fn
    rw [wideI_row' hi, List.getD_eq_getElem?_getD, List.getElem?_append_left (by rw [hM _ (getD_mem' (by omega))]; exact hj), ← List.getD_eq_getElem?_getD]
  · rw [fn_out (by simp [wideI]; omega), fn_out (by omega)]
theorem wideI_right' (hl : M.length = n) (hM : ∀ r ∈ M, r.length = n) {i j : Nat} (hi : i < n) : fn (wideI M n) i (n + j) = fn (idM n) i j := by
  unfold fn
  have lr := hM _ (getD_mem' (l := M) (i := i) (by omega))
  rw [wideI_row' hi, List.getD_eq_getElem?_getD, List.getElem?_append_right (by omega), lr, show n + j - n = j by omega, ← List.getD_eq_getElem?_getD]
theorem wideI_piv' (hl : M.length = n) (hM : ∀ r ∈ M, r.length = n) : (elimRun (wideI M n) n).2.1 = (elimRun M n).2.1 :=
  (elim_agree (wideI_rows hl hM) hM (by simp [wideI, hl]) (fun i j hj => wideI_left' hl hM hj) n (Nat.le_refl n)).1
theorem inv_fn' (hl : M.length = n) (hM : ∀ r ∈ M, r.length = n) (hfull : ¬ (elimRun M n).2.1.length < n) :
    (∀ i j, i < n → j < n → mulF n (fn M) (fn (invU (elimRun (wideI M n) n).1 n n)) i j = idF i j) ∧ (∀ i j, i < n → j < n → mulF n (fn (invU (elimRun (wideI M n) n).1 n n)) (fn M) i j = idF i j) := by
  have hW := wideI_rows hl hM
  have hWl : (wideI M n).length = n := by simp [wideI]
  obtain ⟨F, hF, hf⟩ := elim_ops hW n
  have hform := elim_form hW n
  rw [hWl] at hF hform
  have hlen : (elimRun (wideI M n) n).2.1.length = n := by
    have := hform.le
    rw [wideI_piv' hl hM] at this ⊢
    omega
  have hRl := elimRun_length (wideI M n) n
  have hI : ∀ i j, i < n → j < n → F (fn M) i j = idF i j := by
    intro i j hi hj
    rw [hF.col (C := fn (wideI M n)) (j' := j) (fun a ha => (wideI_left' hl hM hj).symm) i hi, ← hf]
    have := hform.unit j (by omega) i hi
    rw [inc_id hform hlen j hj] at this
    exact this
  have hX : ∀ i j, i < n → j < n → F idF i j = fn (invU (elimRun (wideI M n) n).1 n n) i j := by
    intro i j hi hj
    rw [hF.col (C := fn (wideI M n)) (j' := n + j) (fun a ha => by rw [wideI_right' hl hM ha, idM_fn' ha hj]) i hi, ← hf]
    unfold fn
    rw [invU_get _ _ _ (by omega), if_pos hi, List.getD_eq_getElem?_getD (l := List.drop _ _), List.getElem?_drop, ← List.getD_eq_getElem?_getD]
  refine ⟨fun i j hi hj => ?_, fun i j hi hj => ?_⟩
  · rw [← hF.inv_right hI i j hi hj]
    exact mulF_congr (fun t _ => rfl) (fun t ht => (hX t j ht hj).symm)
  · rw [← hF.inv_left hI i j hi hj]
    exact mulF_congr (fun t ht => (hX i t hi ht).symm) (fun t _ => rfl)
end
theorem full_rank {M : List (List B)} {n : Nat} (hl : M.length = n) (hM : ∀ r ∈ M, r.length = n) (hk : ∀ v : Nat → B, (∀ i, i < n → bsum n (fun c => gmul (fn M i c) (v c)) = 0) → ∀ c, c < n → v c = 0) : ¬ (elimRun M n).2.1.length < n := by
  intro hlt
  obtain ⟨c, hc, hm⟩ : ∃ c, c < n ∧ c ∉ (elimRun M n).2.1 := by
    by_cases h : ∃ c, c < n ∧ c ∉ (elimRun M n).2.1
    · exact h
    · have := nodup_le (nodup_range n) (k := (elimRun M n).2.1) fun a ha => by
        by_cases hm : a ∈ (elimRun M n).2.1
        · exact hm
        · exact absurd ⟨a, by simpa using ha, hm⟩ h
      rw [List.length_range] at this
      omega
  have h := hk (fun d => (kvec (elimRun M n).1 (elimRun M n).2.1 n c).getD d 0) (fun i hi => kvec_dot hM hc hm (by omega)) c hc
  rw [kvec_free hc hm, if_pos rfl] at h
  exact absurd h (by decide)
/-- All rows: identity above Cauchy. -/
def allM (n rows : Nat) : List (List B) := idM n ++ cauchyM rows n
theorem allM_length (n rows : Nat) : (allM n rows).length = n + rows := by simp [allM, idM, cauchyM]
theorem allM_fn {n rows p c : Nat} (hp : p < n + rows) (hc : c < n) : fn (allM n rows) p c = rowEl n p c := by
  unfold rowEl
  by_cases h : p < n
  · rw [if_pos h]
    have : fn (allM n rows) p c = fn (idM n) p c := by
      unfold fn allM
      congr 1
      rw [List.getD_eq_getElem?_getD, List.getElem?_append_left (by rw [idM_length]; exact h), ← List.getD_eq_getElem?_getD]
    rw [this, idM_fn' h hc]
    rfl
  · rw [if_neg h]
    have e : fn (allM n rows) p c = fn (cauchyM rows n) (p - n) c := by
      unfold fn allM
      congr 1
      rw [List.getD_eq_getElem?_getD, List.getElem?_append_right (by rw [idM_length]; omega), idM_length, ← List.getD_eq_getElem?_getD]
    have e2 : cauchyM rows n = tabM rows n (cauchyEl n) := rfl
    rw [e, e2, tabM_fn _ (by omega) hc]
    unfold cauchyEl
    rw [show n + (p - n) = p by omega]
theorem allM_rows (n rows : Nat) : ∀ r ∈ allM n rows, r.length = n := by
  intro r hr
  rcases List.mem_append.1 hr with h | h
  · exact idM_rows n r h
  · obtain ⟨a, _, rfl⟩ := List.mem_map.1 h
    simp
def someM (n rows : Nat) (P : List Nat) : List (List B) := P.map fun p => (allM n rows).getD p []
theorem someM_length (n rows : Nat) (P : List Nat) : (someM n rows P).length = P.length := by simp [someM]
theorem someM_rows {n rows : Nat} {P : List Nat} (hb : ∀ p ∈ P, p < n + rows) : ∀ r ∈ someM n rows P, r.length = n := by
  intro r hr
  obtain ⟨p, hp, rfl⟩ := List.mem_map.1 hr
  exact allM_rows n rows _ (getD_mem' (by rw [allM_length]; exact hb p hp))
theorem someM_fn {n rows : Nat} {P : List Nat} {i : Nat} (hi : i < P.length) (c : Nat) : fn (someM n rows P) i c = fn (allM n rows) P[i] c := by
  unfold fn someM
  rw [List.getD_eq_getElem?_getD (l := List.map _ _), List.getElem?_map, List.getElem?_eq_getElem hi]
  rfl
theorem some_full {n rows : Nat} {P : List Nat} (hP : P.Nodup) (hl : P.length = n) (hb : ∀ p ∈ P, p < n + rows) (hn : n + rows ≤ 256) : ¬ (elimRun (someM n rows P) n).2.1.length < n := by
  refine full_rank (by rw [someM_length, hl]) (someM_rows hb) fun v hv => ?_
  refine any_rows (by omega) hP (by omega) (fun p hp => by have := hb p hp; omega) v fun p hp => ?_
  obtain ⟨i, hi, rfl⟩ := List.getElem_of_mem hp
  rw [← hv i (by omega)]
  exact bsum_congr fun c hc => by rw [someM_fn hi, allM_fn (hb _ hp) hc]
end Go.Proofs.Ytpkghpljgjlmjaa.K
-- Lines of this claim, written by the session's own program kprint.py (it runs print.py).
namespace Go.Proofs.Ytpkghpljgjlmjaa.K
open Go.RowKit Go.Proofs.YtpkghpljgjlmjaaW.PrintWords Go.Proofs.YtpkghpljgjlmjaaW.PrintLast Go.Proofs.YtpkghpljgjlmjaaW.PrintMore
attribute [local go_sem] max2_int min2_int max_two min_two max_three min_three max_four min_four   -- for this text's walks alone
set_option linter.unusedVariables false
set_option linter.unusedSimpArgs false
-- the values' own types



end Go.Proofs.Ytpkghpljgjlmjaa.K
/- Reduce of the reference: its walk (the print of all but two regions, those by hand). -/
namespace Go.Proofs.Ytpkghpljgjlmjaa.K
open Go.RowKit Go.Proofs.YtpkghpljgjlmjaaW.PrintWords Go.Proofs.YtpkghpljgjlmjaaW.PrintLast Go.Proofs.YtpkghpljgjlmjaaW.PrintMore
attribute [local go_sem] max2_int min2_int max_two min_two max_three min_three max_four min_four   -- for this text's walks alone
set_option linter.unusedVariables false
set_option linter.unusedSimpArgs false

/-! ### refred: function 20 -/
def cpOk (a b : List (List Int)) (i : Int) : Bool := decide (0 ≤ i) && (decide (i < (b.length : Int)) && decide ((rd_L1 b i).length = (rd_L1 a i).length))
def swOk (b : List (List Int)) (i j : Int) : Bool := decide (0 ≤ i) && (decide (i < (b.length : Int)) && (decide (0 ≤ j) && decide (j < (b.length : Int))))
def swL (b : List (List Int)) (i j : Int) : List (List Int) := (b.set i.toNat (rd_L1 b j)).set j.toNat (rd_L1 b i)
mutual
def refred.l0 : Nat → List (List Int) → List (List Int) → Int → Option ((List (List Int)) × List Int)
  | 0, _, _, _ => none
  | k + 1, x0, x4, x5 => if x5 < (x0.length : Int) then (if cpOk x0 x4 x5 = true then (refred.l0 k x0 (x4.set x5.toNat (rd_L1 x0 x5)) (wrap64 (x5 + 1))) else none) else (refred.l1 k x0 x4 (([] : List Int)) 0)
def refred.l1 : Nat → List (List Int) → List (List Int) → List Int → Int → Option ((List (List Int)) × List Int)
  | 0, _, _, _, _ => none
  | k + 1, x0, x4, x6, x7 => (kinkeepref04_Cols.f x0).bind fun t108 => (if x7 < t108 then (refred.l2 k x0 x4 x6 x7 (x6.length : Int) (x6.length : Int)) else (some (x4, x6)))
def refred.j3 : Nat → List (List Int) → List (List Int) → List Int → Int → Int → Int → Option ((List (List Int)) × List Int)
  | 0, _, _, _, _, _, _ => none
  | k + 1, x0, x4, x6, x7, x8, x9 => if x9 = (x4.length : Int) then (refred.l1 k x0 x4 x6 (wrap64 (x7 + 1))) else (if swOk x4 x8 x9 = true then (refred.j4 k x0 (swL x4 x8 x9) x6 x7 x8) else none)
def refred.j4 : Nat → List (List Int) → List (List Int) → List Int → Int → Int → Option ((List (List Int)) × List Int)
  | 0, _, _, _, _, _ => none
  | k + 1, x0, x4, x6, x7, x8 => if 0 ≤ x8 then (if x8 < (x4.length : Int) then (if 0 ≤ x7 then (if x7 < ((rd_L1 x4 x8).length : Int) then ((kinkeepref04_Inv.f k (rd (rd_L1 x4 x8) x7)).bind fun t113 => (refred.l3 k x0 x4 x6 x7 x8 t113 0)) else (none)) else (none)) else (none)) else (none)
def refred.l3 : Nat → List (List Int) → List (List Int) → List Int → Int → Int → Int → Int → Option ((List (List Int)) × List Int)
  | 0, _, _, _, _, _, _, _ => none
  | k + 1, x0, x4, x6, x7, x8, x10, x11 => if 0 ≤ x8 then (if x8 < (x4.length : Int) then (if x11 < ((rd_L1 x4 x8).length : Int) then (if 0 ≤ x11 then ((kinkeepref04_Mul.f k (rd (rd_L1 x4 x8) x11) x10).bind fun t118 => (refred.l3 k x0 (x4.set (x8 : Int).toNat ((rd_L1 x4 x8).set (x11 : Int).toNat t118)) x6 x7 x8 x10 (wrap64 (x11 + 1)))) else (none)) else (refred.l4 k x0 x4 x6 x7 x8 0)) else (none)) else (none)
def refred.l4 : Nat → List (List Int) → List (List Int) → List Int → Int → Int → Int → Option ((List (List Int)) × List Int)
  | 0, _, _, _, _, _, _ => none
  | k + 1, x0, x4, x6, x7, x8, x12 => if x12 < (x4.length : Int) then (if 0 ≤ x12 then (if 0 ≤ x7 then (if x7 < ((rd_L1 x4 x12).length : Int) then (refred.l5 k x0 x4 x6 x7 x8 x12 (rd (rd_L1 x4 x12) x7) 0) else (none)) else (none)) else (none)) else (if x6.length < 17592186044416 then (refred.l1 k x0 x4 (x6 ++ [x7]) (wrap64 (x7 + 1))) else (none))
def refred.l5 : Nat → List (List Int) → List (List Int) → List Int → Int → Int → Int → Int → Int → Option ((List (List Int)) × List Int)
  | 0, _, _, _, _, _, _, _, _ => none
  | k + 1, x0, x4, x6, x7, x8, x12, x13, x14 => if x12 = x8 then (refred.l4 k x0 x4 x6 x7 x8 (wrap64 (x12 + 1))) else (if 0 ≤ x12 then (if x12 < (x4.length : Int) then (if x14 < ((rd_L1 x4 x12).length : Int) then (if 0 ≤ x14 then (if 0 ≤ x8 then (if x8 < (x4.length : Int) then (if x14 < ((rd_L1 x4 x8).length : Int) then ((kinkeepref04_Mul.f k x13 (rd (rd_L1 x4 x8) x14)).bind fun t133 => (refred.l5 k x0 (x4.set (x12 : Int).toNat ((rd_L1 x4 x12).set (x14 : Int).toNat (Go.bits .xor .u8 (rd (rd_L1 x4 x12) x14) t133))) x6 x7 x8 x12 x13 (wrap64 (x14 + 1)))) else (none)) else (none)) else (none)) else (none)) else (refred.l4 k x0 x4 x6 x7 x8 (wrap64 (x12 + 1)))) else (none)) else (none))
def refred.l2 : Nat → List (List Int) → List (List Int) → List Int → Int → Int → Int → Option ((List (List Int)) × List Int)
  | 0, _, _, _, _, _, _ => none
  | k + 1, x0, x4, x6, x7, x8, x9 => if x9 < (x4.length : Int) then (if 0 ≤ x9 then (if 0 ≤ x7 then (if x7 < ((rd_L1 x4 x9).length : Int) then (if (rd (rd_L1 x4 x9) x7) = 0 then (refred.l2 k x0 x4 x6 x7 x8 (wrap64 (x9 + 1))) else (refred.j3 k x0 x4 x6 x7 x8 x9)) else (none)) else (none)) else (none)) else (refred.j3 k x0 x4 x6 x7 x8 x9)
end
def refred.f (k : Nat) (l0 : List (List Int)) : Option ((List (List Int)) × List Int) := (kinkeepref04_Cols.f l0).bind fun t101 => ((kinkeepref04_Zero.f k (l0.length : Int) t101).bind fun t102 => (refred.l0 k l0 t102 0))
end Go.Proofs.Ytpkghpljgjlmjaa.K
/- Reduce of the reference, plain: it computes the elimination. -/
namespace Go.Proofs.Ytpkghpljgjlmjaa.K
open Go.RowKit Go.Proofs.YtpkghpljgjlmjaaW.PrintWords Go.Proofs.YtpkghpljgjlmjaaW.PrintLast Go.Proofs.YtpkghpljgjlmjaaW.PrintMore Kin
set_option linter.unusedVariables false
theorem natInts_length (l : List Nat) : (natInts l).length = l.length := by simp [natInts]
section
variable {X0 : List (List Int)} {R : List (List Int) × List Int} {m : Nat} {piv : List Nat} {c : Nat}
end
end Go.Proofs.Ytpkghpljgjlmjaa.K
/- The plain law of MatrixAnyRows: what the printed function computes is true. -/
namespace Go.Proofs.Ytpkghpljgjlmjaa.Pure
open Go.RowKit Go.Proofs.Ytpkghpljgjlmjaa.K Kin
open Go.Proofs.YtpkghpljgjlmjaaW.PrintWords (rd)
set_option linter.unusedVariables false
theorem anyrows_l0 (n : Nat) (p : List Int) (Y : List (List Int)) (N : Nat) (hY : Y.length = N) (hN : N ≤ 1000) (m : Nat) :
    ∀ i k, i + m = N → m < k → kinkeeplaw04_MatrixAnyRows.l0 k (n : Int) p Y (natInts (List.range i)) [] (i : Int) = kinkeeplaw04_MatrixAnyRows.l1 (k - m - 1) (n : Int) p Y (natInts (List.range N)) [] 0 := by
  induction m with
  | zero =>
    intro i k hi hk
    obtain ⟨k, rfl⟩ : ∃ j, k = j + 1 := ⟨k - 1, by omega⟩
    obtain rfl : i = N := by omega
    simp only [kinkeeplaw04_MatrixAnyRows.l0]
    rw [if_neg (by omega)]
    rfl
  | succ m ih =>
    intro i k hi hk
    obtain ⟨k, rfl⟩ : ∃ j, k = j + 1 := ⟨k - 1, by omega⟩
    simp only [kinkeeplaw04_MatrixAnyRows.l0]
    rw [if_pos (by omega), if_pos (by rw [natInts_length, List.length_range]; omega), wrap_nx _ (by omega)]
    have e : natInts (List.range i) ++ [(i : Int)] = natInts (List.range (i + 1)) := by rw [List.range_succ]; simp [natInts]
    rw [e, ih (i + 1) k (by omega) (by omega)]
    congr 1
    omega
theorem rd_natInts (L : List Nat) (t : Nat) (h : t < L.length) : rd (natInts L) (t : Int) = ((L.getD t 0 : Nat) : Int) := by
  rw [rd_nat (by rw [natInts_length]; exact h)]
  simp [natInts, List.getD_eq_getElem?_getD, List.getElem?_eq_getElem h]
/-- Which of the rows that are left is taken. -/
def takeAt (pk : List B) (L : List Nat) (i : Nat) : Nat := if i < pk.length then (pk.getD i 0).toNat % L.length else 0
theorem takeAt_lt {pk : List B} {L : List Nat} {i : Nat} (h : 0 < L.length) : takeAt pk L i < L.length := by
  unfold takeAt
  split
  · exact Nat.mod_lt _ h
  · exact h
theorem anyrows_step (n : Nat) (pk : List B) (A S : List (List B)) (L : List Nat) (i k : Nat) (hi : i < n) (hn : n ≤ 64) (hL : 0 < L.length) (hL2 : L.length ≤ 1000) (hA : ∀ a ∈ L, a < A.length) (hS : S.length ≤ 1000) :
    kinkeeplaw04_MatrixAnyRows.l1 (k + 1) (n : Int) (up pk) (up2 A) (natInts L) (up2 S) (i : Int) =
      kinkeeplaw04_MatrixAnyRows.l1 k (n : Int) (up pk) (up2 A) (natInts (L.take (takeAt pk L i) ++ L.drop (takeAt pk L i + 1))) (up2 (S ++ [A.getD (L.getD (takeAt pk L i) 0) []])) ((i + 1 : Nat) : Int) := by
  have ht := takeAt_lt (pk := pk) (i := i) hL
  have hm : ∀ t, t < L.length → L.getD t 0 < A.length := fun t h => hA _ (by rw [List.getD_eq_getElem?_getD, List.getElem?_eq_getElem h]; exact List.getElem_mem h)
  have nl : (natInts L).length = L.length := natInts_length L
  have fin : ∀ t : Nat, t < L.length → (natInts L).take t = natInts (L.take t) := fun t _ => by simp [natInts, List.map_take]
  have dr : ∀ t : Nat, (natInts L).drop t = natInts (L.drop t) := fun t => by simp [natInts, List.map_drop]
  have ap : ∀ X Y : List Nat, natInts X ++ natInts Y = natInts (X ++ Y) := fun X Y => by simp [natInts]
  simp only [kinkeeplaw04_MatrixAnyRows.l1]
  rw [if_pos (by omega)]
  by_cases hp : i < pk.length
  · have ev : takeAt pk L i = (pk.getD i 0).toNat % L.length := if_pos hp
    have eT : Int.tmod (wrap64 (rd (up pk) (i : Int))) ((natInts L).length : Int) = ((takeAt pk L i : Nat) : Int) := by
      rw [getD_up, nl, K.wrap_small _ (by have := b2i_nonneg (pk.getD i 0); omega) (by have := b2i_lt (pk.getD i 0); omega), ev]
      exact (Int.ofNat_tmod _ _).symm
    rw [eT]
    generalize takeAt pk L i = t at ht
    have h1 := hm t ht
    rw [if_pos (by rw [up_length]; omega), if_pos (by omega), if_neg (by omega), if_pos (by omega), if_pos (by omega), rd_natInts _ _ ht, if_pos (by omega), if_pos (by rw [up2_length]; omega), if_pos (by rw [up2_length]; omega)]
    have b1 : ([] : List Int).length + ((natInts L).take ((t : Nat) : Int).toNat).length < 17592186044416 := by
      rw [Int.toNat_natCast, List.length_take, nl, List.length_nil]; omega
    have b2 : (([] : List Int) ++ (natInts L).take ((t : Nat) : Int).toNat).length + ((natInts L).drop (((t + 1 : Nat) : Int)).toNat).length < 17592186044416 := by
      rw [List.length_append, Int.toNat_natCast, Int.toNat_natCast, List.length_take, List.length_drop, nl, List.length_nil]; omega
    rw [Option.bind_some, if_pos (by omega), Option.bind_some, if_pos b1, Option.bind_some, wrap_nx t (by omega), if_pos (by omega), if_pos (by omega), Option.bind_some, if_pos b2, Int.toNat_natCast, Int.toNat_natCast, fin t ht, dr, List.nil_append, ap, rd_L1_up2, wrap_nx i (by omega), up2_append]
    rfl
  · have ev : takeAt pk L i = 0 := if_neg hp
    rw [ev]
    have h1 := hm 0 hL
    have r0 : rd (natInts L) 0 = ((L.getD 0 0 : Nat) : Int) := rd_natInts L 0 hL
    rw [if_neg (by rw [up_length]; omega), if_pos (by omega), r0, if_pos (by omega), if_pos (by rw [up2_length]; omega), if_pos (by rw [up2_length]; omega)]
    have b1 : ([] : List Int).length + ((natInts L).take 0).length < 17592186044416 := by
      rw [List.length_take, List.length_nil]; omega
    have b2 : (([] : List Int) ++ (natInts L).take 0).length + ((natInts L).drop ((0 : Int) + 1).toNat).length < 17592186044416 := by
      rw [List.length_append, List.length_take, List.length_drop, nl, List.length_nil]; omega
    have e1 : ((0 : Int) + 1).toNat = 0 + 1 := rfl
    rw [Option.bind_some, if_pos (by omega), Option.bind_some, if_pos b1, Option.bind_some, if_pos (by omega), if_pos (by omega), Option.bind_some, if_pos b2, e1, List.take_zero, dr, List.nil_append, rd_L1_up2, wrap_nx i (by omega), up2_append, List.take_zero, List.nil_append]
    rfl
theorem anyrows_l1 (n rows : Nat) (pk : List B) (hn1 : 1 ≤ n) (hn : n ≤ 8) (hr : rows ≤ 8) (m : Nat) :
    ∀ (i : Nat) (P L : List Nat), i + m = n → P.length = i → (P ++ L).Nodup → (∀ a ∈ P ++ L, a < n + rows) → (P ++ L).length = n + rows →
      Evt (fun k => kinkeeplaw04_MatrixAnyRows.l1 k (n : Int) (up pk) (up2 (allM n rows)) (natInts L) (up2 (someM n rows P)) (i : Int)) true := by
  induction m with
  | zero =>
    intro i P L hi hP hnd hb hlen
    have hPn : P.Nodup := (List.nodup_append.1 hnd).1
    have hPb : ∀ p ∈ P, p < n + rows := fun p hp => hb p (List.mem_append_left _ hp)
    have hSl : (someM n rows P).length = n := by rw [someM_length]; omega
    have hSr := someM_rows hPb
    have hfull := some_full hPn (by omega) hPb (by omega)
    have hsq : squareB (someM n rows P) = true := by
      simp only [squareB, Bool.and_eq_true, decide_eq_true_eq]
      exact ⟨validB_tab hSr (by omega) (by omega), by rw [colsN_rows hSr (by omega), hSl]⟩
    have hinv : matrix_Inverse.f (up2 (someM n rows P)) = some (up2 (invU (elimRun (wideI (someM n rows P) n) n).1 n n), 0) := by
      rw [inverse_up _ hsq (by omega)]
      unfold invM
      rw [hSl, wideI_piv' hSl hSr, if_neg hfull]
    have hX := (inv_fn' hSl hSr hfull).1
    have hXl : (invU (elimRun (wideI (someM n rows P) n) n).1 n n).length = n := by rw [invU_length, elimRun_length]; simp [wideI]
    have hXr : ∀ r ∈ invU (elimRun (wideI (someM n rows P) n) n).1 n n, r.length = n := by
      intro r hr
      obtain ⟨a, ha, rfl⟩ := List.mem_map.1 hr
      rw [List.mem_range] at ha
      have hal : a < n := by rw [elimRun_length] at ha; simpa [wideI] using ha
      have := elimRun_rows (wideI_rows hSl hSr) n _ (getD_mem' ha)
      rw [if_pos hal, List.length_drop, this]
      omega
    obtain ⟨K1, h1⟩ := refproduct_b (A := someM n rows P) (C := invU (elimRun (wideI (someM n rows P) n) n).1 n n) (fun r hr => by rw [hSr r hr, hXl]) (fun r hr => by rw [colsN_rows hXr (by omega)]; exact hXr r hr) (by omega) (by rw [colsN_rows hXr (by omega)]; omega) (by omega)
    simp only at h1
    refine ⟨K1 + n + 300, fun k hk => ?_⟩
    obtain ⟨k, rfl⟩ : ∃ j, k = j + 1 := ⟨k - 1, by omega⟩
    simp only [kinkeeplaw04_MatrixAnyRows.l1]
    rw [if_neg (by omega), hinv, kinkeeplaw04_awake.f]
    simp only [Option.bind_some, if_true]
    rw [h1 k (by omega), refidentity_b n (by omega) (by omega), colsN_rows hXr (by omega)]
    have e1 : mulM (someM n rows P) (invU (elimRun (wideI (someM n rows P) n) n).1 n n) n = idM n :=
      mat_ext (r := n) (c := n) (by rw [mulM, tabM_length, hSl]) (idM_length _) (tabM_rows _ _ _) (idM_rows _) (fun i j hi hj => by rw [mulM, tabM_fn _ (by omega) hj, hXl, hX i j hi hj, idM_fn' hi hj])
    rw [e1]
    simp only [Option.bind_some]
    rw [same_self _ (by rw [up2_length, idM_length]; omega) (by rw [up2_length, idM_length]; omega)]
    rfl
  | succ m ih =>
    intro i P L hi hP hnd hb hlen
    rw [List.length_append] at hlen
    have hL : 0 < L.length := by omega
    have ht := takeAt_lt (pk := pk) (i := i) hL
    generalize hte : takeAt pk L i = t at ht
    have eL : L.getD t 0 = L[t] := by rw [List.getD_eq_getElem?_getD, List.getElem?_eq_getElem ht]; rfl
    have perm : (P ++ [L.getD t 0] ++ (L.take t ++ L.drop (t + 1))).Perm (P ++ L) := by
      rw [List.append_assoc]
      refine List.Perm.append_left P ?_
      have e : L.take t ++ L.getD t 0 :: L.drop (t + 1) = L := by
        rw [eL, ← List.drop_eq_getElem_cons ht, List.take_append_drop]
      have := (List.perm_middle (a := L.getD t 0) (l₁ := L.take t) (l₂ := L.drop (t + 1))).symm
      rw [e] at this
      exact this
    have hs : someM n rows (P ++ [L.getD t 0]) = someM n rows P ++ [(allM n rows).getD (L.getD t 0) []] := by simp [someM]
    refine Evt.succ (ih (i + 1) (P ++ [L.getD t 0]) (L.take t ++ L.drop (t + 1)) (by omega) (by simp; omega) (perm.nodup_iff.2 hnd) (fun a ha => hb a (perm.mem_iff.1 ha)) (by rw [perm.length_eq, List.length_append]; omega)) fun k hk => ?_
    rw [hs]
    have st := anyrows_step n pk (allM n rows) (someM n rows P) L i k (by omega) (by omega) hL (by omega) (fun a ha => by rw [allM_length]; exact hb a (List.mem_append_right _ ha)) (by rw [someM_length]; omega)
    rw [hte] at st
    exact st
theorem MatrixAnyRows (a0 : Int) (ha0 : (Lit.int .i64 a0).wf = true) (a1 : Int) (ha1 : (Lit.int .i64 a1).wf = true) (pk : List B) (hp : (up pk).length ≤ 9223372036854775807) : ∃ k, kinkeeplaw04_MatrixAnyRows.f k a0 a1 (up pk) = some true := by
  have aw : ∀ k, kinkeeplaw04_MatrixAnyRows.j0 (k + 1) a0 a1 (up pk) true = some true := by
    intro k
    simp only [kinkeeplaw04_MatrixAnyRows.j0, if_true, kinkeeplaw04_awake.f]
    rfl
  by_cases h1 : a0 < 1
  · exact ⟨1, by unfold kinkeeplaw04_MatrixAnyRows.f; rw [if_pos h1]; exact aw 0⟩
  by_cases h2 : a0 > 8
  · exact ⟨1, by unfold kinkeeplaw04_MatrixAnyRows.f; rw [if_neg h1, if_pos h2]; exact aw 0⟩
  by_cases h3 : a1 < 0
  · exact ⟨1, by unfold kinkeeplaw04_MatrixAnyRows.f; rw [if_neg h1, if_neg h2, if_pos h3]; exact aw 0⟩
  by_cases h4 : a1 > 8
  · exact ⟨1, by unfold kinkeeplaw04_MatrixAnyRows.f; rw [if_neg h1, if_neg h2, if_neg h3, if_pos h4]; exact aw 0⟩
  by_cases h5 : ((up pk).length : Int) > 64
  · exact ⟨1, by unfold kinkeeplaw04_MatrixAnyRows.f; rw [if_neg h1, if_neg h2, if_neg h3, if_neg h4, decide_eq_true h5]; exact aw 0⟩
  obtain ⟨n, rfl⟩ := Int.eq_ofNat_of_zero_le (show 0 ≤ a0 by omega)
  obtain ⟨rows, rfl⟩ := Int.eq_ofNat_of_zero_le (show 0 ≤ a1 by omega)
  obtain ⟨K, hK⟩ := anyrows_l1 n rows pk (by omega) (by omega) (by omega) n 0 [] (List.range (n + rows)) (by omega) rfl (nodup_range _) (fun a ha => by simpa using ha) (by simp)
  have hK' : ∀ q, K ≤ q → kinkeeplaw04_MatrixAnyRows.l1 q (n : Int) (up pk) (up2 (allM n rows)) (natInts (List.range (n + rows))) [] 0 = some true := fun q hq => hK q hq
  clear hK
  obtain ⟨k, hk⟩ : ∃ k, K + n + rows + 300 ≤ k := ⟨_, Nat.le_refl _⟩
  have h0 := anyrows_l0 n (up pk) (up2 (allM n rows)) (n + rows) (by rw [up2_length, allM_length]) (by omega) (n + rows) 0 k (by omega) (by omega)
  obtain ⟨q, hq⟩ : ∃ q, q = k - (n + rows) - 1 := ⟨_, rfl⟩
  rw [← hq, hK' q (by omega)] at h0
  have h0' : kinkeeplaw04_MatrixAnyRows.l0 k (n : Int) (up pk) (up2 (allM n rows)) [] [] 0 = some true := h0
  have hc : matrix_Cauchy.f (rows : Int) (n : Int) = some (up2 (cauchyM rows n), 0) := by
    unfold matrix_Cauchy.f
    rw [if_pos ⟨by omega, by omega⟩, Int.toNat_natCast, Int.toNat_natCast]
  have hl : (up2 (idM n)).length + (up2 (cauchyM rows n)).length = n + rows := by simp [up2_length, idM, cauchyM]
  have e : up2 (idM n) ++ up2 (cauchyM rows n) = up2 (allM n rows) := (up2_append _ _).symm
  have hid := identity_b n (by omega) (k := k) (by omega)
  refine ⟨k + 1, ?_⟩
  unfold kinkeeplaw04_MatrixAnyRows.f
  rw [if_neg h1, if_neg h2, if_neg h3, if_neg h4, decide_eq_false h5]
  simp only [kinkeeplaw04_MatrixAnyRows.j0]
  rw [if_neg (by simp), hc, Option.bind_some, if_pos rfl, hid, Option.bind_some, if_pos (show (up2 (idM n)).length + (up2 (cauchyM rows n)).length < 5864062014805 by omega), Option.bind_some, e, if_pos (by rw [up2_length, allM_length, Go.Proofs.Ytpkghpljgjlmjaa.K.wrap_small _ (by omega) (by omega)]; omega)]
  exact h0'
end Go.Proofs.Ytpkghpljgjlmjaa.Pure
