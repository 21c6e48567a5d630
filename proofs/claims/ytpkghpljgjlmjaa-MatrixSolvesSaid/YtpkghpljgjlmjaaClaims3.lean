/- Walks and plain facts behind the laws of package matrix. No conditions. -/
import Derived.Test.YtpkghpljgjlmjaaClaims2
import Derived.ProofKit
import Derived.ShutString
import Derived.ChangeOld
import Derived.SizedLaws
import Derived.OpenShut
-- Lines of this claim, written by the session's own program kprint.py (it runs print.py).
namespace Go.Proofs.Ytpkghpljgjlmjaa.K
open Go.RowKit Go.Proofs.YtpkghpljgjlmjaaW.PrintWords Go.Proofs.YtpkghpljgjlmjaaW.PrintLast Go.Proofs.YtpkghpljgjlmjaaW.PrintMore
attribute [local go_sem] max2_int min2_int max_two min_two max_three min_three max_four min_four   -- for this text's walks alone
set_option linter.unusedVariables false
set_option linter.unusedSimpArgs false

/-! ### kinkeeplaw04_MatrixSolves: function 6 -/
mutual
def kinkeeplaw04_MatrixSolves.j0 : Nat → List (List Int) → List Int → Bool → Option (Bool)
  | 0, _, _, _ => none
  | k + 1, x0, x1, x19 => if x19 = true then ((kinkeeplaw04_awake.f).bind fun t102 => (some t102)) else ((matrix_Solve.f x0 x1).bind fun bt103 => ((kinkeepref04_Valid.f k x0).bind fun t107 => (if t107 = true then (kinkeeplaw04_MatrixSolves.j1 k x0 x1 bt103.1 bt103.2 ((x1.length : Int) != (x0.length : Int))) else (kinkeeplaw04_MatrixSolves.j1 k x0 x1 bt103.1 bt103.2 true))))
def kinkeeplaw04_MatrixSolves.j1 : Nat → List (List Int) → List Int → List Int → Int → Bool → Option (Bool)
  | 0, _, _, _, _, _ => none
  | k + 1, x0, x1, x5, x6, x36 => if x36 = true then ((kinkeeplaw04_awake.f).bind fun t108 => (if t108 = true then (if x6 = 1 then (some ((x5.length : Int) == 0)) else (some false)) else (some false))) else (kinkeeplaw04_MatrixSolves.l0 k x0 x1 x5 x6 (([] : List (List Int))) 0)
def kinkeeplaw04_MatrixSolves.l0 : Nat → List (List Int) → List Int → List Int → Int → List (List Int) → Int → Option (Bool)
  | 0, _, _, _, _, _, _ => none
  | k + 1, x0, x1, x5, x6, x7, x8 => if x8 < (x0.length : Int) then ((some (([] : List Int) : List Int)).bind fun y112 => (if 0 ≤ x8 then (if y112.length + (rd_L1 x0 x8).length < 140737488355328 then ((some (y112 ++ (rd_L1 x0 x8) : List Int)).bind fun y116 => (if x8 < (x1.length : Int) then ((some (([rd x1 x8] : List Int) : List Int)).bind fun y120 => (if y116.length + y120.length < 140737488355328 then ((some (([(y116 ++ y120)] : List (List Int)) : List (List Int))).bind fun y126 => (if x7.length + y126.length < 5864062014805 then (kinkeeplaw04_MatrixSolves.l0 k x0 x1 x5 x6 (x7 ++ y126) (wrap64 (x8 + 1))) else (none))) else (none))) else (none))) else (none)) else (none))) else ((matrix_Rank.f x7).bind fun t132 => ((matrix_Rank.f x0).bind fun t133 => (if t132 = t133 then ((kinkeepref04_Reduce.f x0).bind fun bt135 => (if x6 = 0 then ((kinkeepref04_Cols.f x0).bind fun t141 => (kinkeeplaw04_MatrixSolves.j3 k x0 x1 x5 bt135.2 ((x5.length : Int) != t141))) else (kinkeeplaw04_MatrixSolves.j3 k x0 x1 x5 bt135.2 true))) else ((kinkeeplaw04_awake.f).bind fun t134 => (if t134 = true then (if x6 = 4 then (some ((x5.length : Int) == 0)) else (some false)) else (some false))))))
def kinkeeplaw04_MatrixSolves.j3 : Nat → List (List Int) → List Int → List Int → List Int → Bool → Option (Bool)
  | 0, _, _, _, _, _ => none
  | k + 1, x0, x1, x5, x10, x97 => if x97 = true then (some false) else (kinkeeplaw04_MatrixSolves.l1 k x0 x1 x5 x10 0)
def kinkeeplaw04_MatrixSolves.l1 : Nat → List (List Int) → List Int → List Int → List Int → Int → Option (Bool)
  | 0, _, _, _, _, _ => none
  | k + 1, x0, x1, x5, x10, x11 => if x11 < (x5.length : Int) then ((kinkeeplaw04_free.f k x10 x11).bind fun t142 => (if t142 = true then (if 0 ≤ x11 then (if (rd x5 x11) = 0 then (kinkeeplaw04_MatrixSolves.l1 k x0 x1 x5 x10 (wrap64 (x11 + 1))) else (some false)) else (none)) else (kinkeeplaw04_MatrixSolves.l1 k x0 x1 x5 x10 (wrap64 (x11 + 1))))) else ((kinkeeplaw04_awake.f).bind fun t144 => (if t144 = true then ((kinkeeplaw04_column.f k x5).bind fun t145 => ((kinkeepref04_Product.f k x0 t145).bind fun t148 => ((kinkeeplaw04_column.f k x1).bind fun t151 => ((kinkeepref04_Same.f k t148 t151).bind fun t154 => (if t154 = true then (some true) else ((kinkeeplaw04_awake.f).bind fun t155 => (if t155 = true then (if (x0.length : Int) > 0 then ((kinkeepref04_Cols.f x0).bind fun t156 => (if t156 = 0 then (some ((x5.length : Int) == 0)) else (some false))) else (some false)) else (some false)))))))) else ((kinkeeplaw04_awake.f).bind fun t157 => (if t157 = true then (if (x0.length : Int) > 0 then ((kinkeepref04_Cols.f x0).bind fun t158 => (if t158 = 0 then (some ((x5.length : Int) == 0)) else (some false))) else (some false)) else (some false)))))
end
def kinkeeplaw04_MatrixSolves.f (k : Nat) (l0 : List (List Int)) (l1 : List Int) : Option (Bool) := (kinkeeplaw04_few.f k l0 7).bind fun t101 => (if t101 = true then (kinkeeplaw04_MatrixSolves.j0 k l0 l1 (decide ((l1.length : Int) > 8))) else (kinkeeplaw04_MatrixSolves.j0 k l0 l1 true))
def kinkeeplaw04_MatrixSolves.T10 : Bool × List (List Nat × List Nat) := (true, [([], []), ([], []), ([], []), ([], []), ([2, 3], [2, 3]), ([4], [4]), ([1, 5], [1, 5]), ([], []), ([], []), ([7, 8], [7, 8]), ([9], [9]), ([10], [10]), ([6, 11, 6], [6, 11]), ([12], [12]), ([0, 13, 12], [0, 13]), ([14, 14, 0, 1, 2, 3, 4, 5, 6, 7, 8, 9, 10, 11, 12, 13, 14], [0, 14])])
def kinkeeplaw04_MatrixSolves.B10 : List Nat := [0, 0, 0, 0, 12, 28, 62, 0, 0, 384, 896, 1920, 4094, 8190, 16383, 32767]
theorem kinkeeplaw04_MatrixSolves.tab10 : rtab .any (opsOf Try.f6 10) = kinkeeplaw04_MatrixSolves.T10 := by kernel_rfl
theorem kinkeeplaw04_MatrixSolves.bits10 : waitsOk kinkeeplaw04_MatrixSolves.T10.2 kinkeeplaw04_MatrixSolves.B10 = true := by kernel_rfl
set_option maxHeartbeats 40000000 in
set_option maxRecDepth 100000 in
theorem kinkeeplaw04_MatrixSolves.calls (k : Nat) (A0 : Option Addr) (c0 : Nat) (l0 : List (List Int)) (A1 : Option Addr) (c1 : Nat) (l1 : List Int) (r : Bool) (hrt : r = true) (w : World) (hr0 : Kd.C (Kd.slice 5 (Kd.int .u8)) w A0 l0.length l0) (hc0 : l0.length ≤ c0) (hr1 : Kd.C (Kd.int .u8) w A1 l1.length l1) (hc1 : l1.length ≤ c1) (h : kinkeeplaw04_MatrixSolves.f k l0 l1 = some r) :
    Calls Try.prog 6 #[.slice A0 l0.length c0, .slice A1 l1.length c1] w fun e w' => e = .returned (.bool r) ∧ Below w.heap.size w w' := by
  have HR0 := Aside0.mk hr0
  have HRT := Aside0.mk hrt
  clear hrt
  have HC0 := Aside0.mk hc0
  clear hr0 hc0
  have HR1 := Aside0.mk hr1
  have HC1 := Aside0.mk hc1
  clear hr1 hc1
  have HB := Aside0.mk (Below.refl w.heap.size w)
  have H : ((kinkeeplaw04_few.f k l0 7).bind fun t101 => (if t101 = true then (kinkeeplaw04_MatrixSolves.j0 k l0 l1 (decide ((l1.length : Int) > 8))) else (kinkeeplaw04_MatrixSolves.j0 k l0 l1 true))) = some r := h
  clear h
  have HC3 := Aside0.mk H
  clear H
  go_enter Try.func6, Try.ntmps6
  go_upto_region 1 with (fail)
  go_cut [19] (fun v19 wc => ∃ (kq : Nat) (x19_2 : Bool), v19 = .bool x19_2 ∧ Aside0 (kinkeeplaw04_MatrixSolves.j0 kq l0 l1 x19_2 = some r) ∧ Aside0 (kq ≤ k) ∧ Aside0 (Below w.heap.size w wc))
  case first =>
    have H := HC3.out
    clear HC3
    replace H := Option.bind_eq_some_iff.mp H
    obtain ⟨t101, A40, H⟩ := H
    replace H : (if t101 = true then (kinkeeplaw04_MatrixSolves.j0 k l0 l1 (decide ((l1.length : Int) > 8))) else (kinkeeplaw04_MatrixSolves.j0 k l0 l1 true)) = some r := H
    have A4 := Aside0.mk A40
    clear A40
    by_cases c5 : t101 = true
    · subst c5
      have H1 : (kinkeeplaw04_MatrixSolves.j0 k l0 l1 (decide ((l1.length : Int) > 8))) = some r := by rw [if_pos rfl] at H; exact H
      clear H
      have H := H1
      clear H1
      have H' := Aside0.mk H
      clear H
      go_wp2_with (first | ((with_reducible refine gate_callee (f := 15) rfl ?_); refine goesL_ (some 13) rfl rfl Try.func15 (by kernel_rfl) rfl #[.slice A0 l0.length c0, .int .i64 7] rfl (by (try simp only [List.map_toArray, List.map_cons, List.map_nil]); first | done | rfl | (simp only [List.length_drop, List.length_take]; rfl)) ?_; (with_reducible refine (kinkeeplaw04_few.calls k _ _ l0 7 true _ ?side1 ?side2 A4.out).mono ?_); (case side1 => repeat (first | exact (Kd.C_below HR0.out HB.out) | (with_reducible refine Kd.C_alloc ?_ _) | (with_reducible refine Kd.C_drewN ?_ _) | (with_reducible refine Kd.C_drew ?_))); (case side2 => exact HC0.out); rintro e w' ⟨rfl, ⟨nd, rfl⟩⟩; refine ⟨_, rfl, ?_⟩))
      go_meet
      case rel => exact ⟨_, (decide ((l1.length : Int) > 8)), (by first | rfl | (simp; done) | (simp [*]; done)), H', ⟨by first | omega | exact Nat.le_refl _⟩, ⟨by repeat (first | (with_reducible first | exact HB.out | apply below_alloc | apply pw_below_drewN | apply below_drew1) | exact HB.out)⟩⟩
    · replace c5 := Bool.eq_false_iff.mpr c5
      subst c5
      have H1 : (kinkeeplaw04_MatrixSolves.j0 k l0 l1 true) = some r := by rw [if_neg (show ¬ (false = true) by decide)] at H; exact H
      clear H
      have H := H1
      clear H1
      have H' := Aside0.mk H
      clear H
      go_wp2_with (first | ((with_reducible refine gate_callee (f := 15) rfl ?_); refine goesL_ (some 13) rfl rfl Try.func15 (by kernel_rfl) rfl #[.slice A0 l0.length c0, .int .i64 7] rfl (by (try simp only [List.map_toArray, List.map_cons, List.map_nil]); first | done | rfl | (simp only [List.length_drop, List.length_take]; rfl)) ?_; (with_reducible refine (kinkeeplaw04_few.calls k _ _ l0 7 false _ ?side1 ?side2 A4.out).mono ?_); (case side1 => repeat (first | exact (Kd.C_below HR0.out HB.out) | (with_reducible refine Kd.C_alloc ?_ _) | (with_reducible refine Kd.C_drewN ?_ _) | (with_reducible refine Kd.C_drew ?_))); (case side2 => exact HC0.out); rintro e w' ⟨rfl, ⟨nd, rfl⟩⟩; refine ⟨_, rfl, ?_⟩))
      go_meet
      case rel => exact ⟨_, (true), (by first | rfl | (simp; done) | (simp [*]; done)), H', ⟨by first | omega | exact Nat.le_refl _⟩, ⟨by repeat (first | (with_reducible first | exact HB.out | apply below_alloc | apply pw_below_drewN | apply below_drew1) | exact HB.out)⟩⟩
  case rest =>
    clear HC3; (try clear c1); (try clear p2); (try clear c5)
    obtain ⟨kq, x19_2, rfl, HA, HJ2, HB⟩ := hcut
    cases kq with
    | zero => exact absurd HA.out (by simp [kinkeeplaw04_MatrixSolves.j0])
    | succ kj2 =>
      have H := HA.out
      clear HA
      simp only [kinkeeplaw04_MatrixSolves.j0] at H
      by_cases c6 : x19_2 = true
      · subst c6
        have H1 : ((kinkeeplaw04_awake.f).bind fun t102 => (some t102)) = some r := by rw [if_pos rfl] at H; exact H
        clear H
        have H := H1
        clear H1
        replace H := Option.bind_eq_some_iff.mp H
        obtain ⟨t102, A70, H⟩ := H
        replace H : (some t102) = some r := H
        have A7 := Aside0.mk A70
        clear A70
        obtain rfl := Option.some.inj H
        go_wp2_with (first | ((with_reducible refine gate_callee (f := 16) rfl ?_); refine goesL_ (some 20) rfl rfl Try.func16 (by kernel_rfl) rfl #[] rfl (by (try simp only [List.map_toArray, List.map_cons, List.map_nil]); first | done | rfl | (simp only [List.length_drop, List.length_take]; rfl)) ?_; (with_reducible refine (kinkeeplaw04_awake.calls  t102 _ A7.out).mono ?_); rintro e w8 ⟨rfl, hb⟩; refine ⟨_, rfl, ?_⟩; have n0_ := Aside0.mk (below_step (by repeat (first | (with_reducible first | exact HB.out | apply below_alloc | apply pw_below_drewN | apply below_drew1) | exact HB.out)) hb); clear HB; have HB := n0_; clear n0_; (try clear hb); (try clear hb2); (try clear hk); (try clear hi)))
        go_ret
        exact ⟨by first | rfl | (simp [errW_none, errW_some] <;> rfl) | (simp [*, errW_none, errW_some] <;> rfl), by repeat (first | (with_reducible first | exact HB.out | apply below_alloc | apply pw_below_drewN | apply below_drew1) | exact HB.out)⟩
      · replace c6 := Bool.eq_false_iff.mpr c6
        subst c6
        have H1 : ((matrix_Solve.f l0 l1).bind fun bt103 => ((kinkeepref04_Valid.f kj2 l0).bind fun t107 => (if t107 = true then (kinkeeplaw04_MatrixSolves.j1 kj2 l0 l1 bt103.1 bt103.2 ((l1.length : Int) != (l0.length : Int))) else (kinkeeplaw04_MatrixSolves.j1 kj2 l0 l1 bt103.1 bt103.2 true)))) = some r := by rw [if_neg (show ¬ (false = true) by decide)] at H; exact H
        clear H
        have H := H1
        clear H1
        replace H := Option.bind_eq_some_iff.mp H
        obtain ⟨⟨t103, t104⟩, A90, H⟩ := H
        replace H : ((kinkeepref04_Valid.f kj2 l0).bind fun t107 => (if t107 = true then (kinkeeplaw04_MatrixSolves.j1 kj2 l0 l1 t103 t104 ((l1.length : Int) != (l0.length : Int))) else (kinkeeplaw04_MatrixSolves.j1 kj2 l0 l1 t103 t104 true))) = some r := H
        have A9 := Aside0.mk A90
        clear A90
        have HC10 := Aside0.mk H
        clear H
        go_upto_region 4 with (first | ((with_reducible refine gate_callee (f := 30) rfl ?_); refine goesL_ (some 24) rfl rfl Try.func30 (by kernel_rfl) rfl #[.slice A0 l0.length c0, .slice A1 l1.length c1] rfl (by (try simp only [List.map_toArray, List.map_cons, List.map_nil]); first | done | rfl | (simp only [List.length_drop, List.length_take]; rfl)) ?_; (with_reducible refine (matrix_Solve.calls _ _ l0 _ _ l1 t103 t104 _ ?side1 ?side2 ?side3 ?side4 A9.out).mono ?_); (case side1 => repeat (first | exact (Kd.C_below HR0.out HB.out) | (with_reducible refine Kd.C_alloc ?_ _) | (with_reducible refine Kd.C_drewN ?_ _) | (with_reducible refine Kd.C_drew ?_))); (case side2 => exact HC0.out); (case side3 => repeat (first | exact (Kd.C_below HR1.out HB.out) | (with_reducible refine Kd.C_alloc ?_ _) | (with_reducible refine Kd.C_drewN ?_ _) | (with_reducible refine Kd.C_drew ?_))); (case side4 => exact HC1.out); rintro e w11 ⟨v105, rfl, ho0, hb⟩; refine ⟨_, rfl, ?_⟩; have n0_ := Aside0.mk (Kd.R_lower ho0 (below_size (by repeat (first | (with_reducible first | exact HB.out | apply below_alloc | apply pw_below_drewN | apply below_drew1) | exact HB.out)))); have n1_ := Aside0.mk (below_step (by repeat (first | (with_reducible first | exact HB.out | apply below_alloc | apply pw_below_drewN | apply below_drew1) | exact HB.out)) hb); clear HB; have HO106 := n0_; have HB := n1_; clear n0_ n1_; (try clear hb); (try clear hb2); (try clear hk); (try clear hi); (try clear ho0)))
        (try simp only [Act.put, List.setIfInBounds_toArray, List.set_cons_zero, List.set_cons_succ])
        go_cut [36] (fun v36 wc => ∃ (kq : Nat) (x36_9 : Bool), v36 = .bool x36_9 ∧ Aside0 (kinkeeplaw04_MatrixSolves.j1 kq l0 l1 t103 t104 x36_9 = some r) ∧ Aside0 (kq ≤ kj2) ∧ Aside0 (Kd.R (Kd.int .u8) 5 wc w.heap.size (fun _ => True) v105 t103) ∧ Aside0 (Below w.heap.size w wc))
        case first =>
          have H := HC10.out
          clear HC10
          replace H := Option.bind_eq_some_iff.mp H
          obtain ⟨t107, A120, H⟩ := H
          replace H : (if t107 = true then (kinkeeplaw04_MatrixSolves.j1 kj2 l0 l1 t103 t104 ((l1.length : Int) != (l0.length : Int))) else (kinkeeplaw04_MatrixSolves.j1 kj2 l0 l1 t103 t104 true)) = some r := H
          have A12 := Aside0.mk A120
          clear A120
          by_cases c13 : t107 = true
          · subst c13
            have H1 : (kinkeeplaw04_MatrixSolves.j1 kj2 l0 l1 t103 t104 ((l1.length : Int) != (l0.length : Int))) = some r := by rw [if_pos rfl] at H; exact H
            clear H
            have H := H1
            clear H1
            have H' := Aside0.mk H
            clear H
            go_wp2_with (first | ((with_reducible refine gate_callee (f := 18) rfl ?_); refine goesL_ (some 28) rfl rfl Try.func18 (by kernel_rfl) rfl #[.slice A0 l0.length c0] rfl (by (try simp only [List.map_toArray, List.map_cons, List.map_nil]); first | done | rfl | (simp only [List.length_drop, List.length_take]; rfl)) ?_; (with_reducible refine (kinkeepref04_Valid.calls kj2 _ _ l0 true _ ?side1 ?side2 A12.out).mono ?_); (case side1 => repeat (first | exact (Kd.C_below HR0.out HB.out) | (with_reducible refine Kd.C_alloc ?_ _) | (with_reducible refine Kd.C_drewN ?_ _) | (with_reducible refine Kd.C_drew ?_))); (case side2 => exact HC0.out); rintro e w' ⟨rfl, ⟨nd, rfl⟩⟩; refine ⟨_, rfl, ?_⟩))
            go_meet
            case rel => exact ⟨_, (((l1.length : Int) != (l0.length : Int))), (by first | rfl | (simp; done) | (simp [*]; done)), H', ⟨by have := HJ2.out; first | omega | exact Nat.le_refl _⟩, ⟨by (with_reducible repeat (first | apply Kd.R_alloc | apply Kd.R_drewN | apply Kd.R_drew)); exact HO106.out⟩, ⟨by repeat (first | (with_reducible first | exact HB.out | apply below_alloc | apply pw_below_drewN | apply below_drew1) | exact HB.out)⟩⟩
          · replace c13 := Bool.eq_false_iff.mpr c13
            subst c13
            have H1 : (kinkeeplaw04_MatrixSolves.j1 kj2 l0 l1 t103 t104 true) = some r := by rw [if_neg (show ¬ (false = true) by decide)] at H; exact H
            clear H
            have H := H1
            clear H1
            have H' := Aside0.mk H
            clear H
            go_wp2_with (first | ((with_reducible refine gate_callee (f := 18) rfl ?_); refine goesL_ (some 28) rfl rfl Try.func18 (by kernel_rfl) rfl #[.slice A0 l0.length c0] rfl (by (try simp only [List.map_toArray, List.map_cons, List.map_nil]); first | done | rfl | (simp only [List.length_drop, List.length_take]; rfl)) ?_; (with_reducible refine (kinkeepref04_Valid.calls kj2 _ _ l0 false _ ?side1 ?side2 A12.out).mono ?_); (case side1 => repeat (first | exact (Kd.C_below HR0.out HB.out) | (with_reducible refine Kd.C_alloc ?_ _) | (with_reducible refine Kd.C_drewN ?_ _) | (with_reducible refine Kd.C_drew ?_))); (case side2 => exact HC0.out); rintro e w' ⟨rfl, ⟨nd, rfl⟩⟩; refine ⟨_, rfl, ?_⟩))
            go_meet
            case rel => exact ⟨_, (true), (by first | rfl | (simp; done) | (simp [*]; done)), H', ⟨by have := HJ2.out; first | omega | exact Nat.le_refl _⟩, ⟨by (with_reducible repeat (first | apply Kd.R_alloc | apply Kd.R_drewN | apply Kd.R_drew)); exact HO106.out⟩, ⟨by repeat (first | (with_reducible first | exact HB.out | apply below_alloc | apply pw_below_drewN | apply below_drew1) | exact HB.out)⟩⟩
        case rest =>
          clear HC10; (try clear c1); (try clear p2); (try clear c3); (try clear c5); (try clear c6); (try clear c13); (try clear p2)
          obtain ⟨kq, x36_9, rfl, HA, HJ9, HO_5, HB⟩ := hcut
          cases kq with
          | zero => exact absurd HA.out (by simp [kinkeeplaw04_MatrixSolves.j1])
          | succ kj9 =>
            have H := HA.out
            clear HA
            simp only [kinkeeplaw04_MatrixSolves.j1] at H
            by_cases c14 : x36_9 = true
            · subst c14
              have H1 : ((kinkeeplaw04_awake.f).bind fun t108 => (if t108 = true then (if t104 = 1 then (some ((t103.length : Int) == 0)) else (some false)) else (some false))) = some r := by rw [if_pos rfl] at H; exact H
              clear H
              have H := H1
              clear H1
              replace H := Option.bind_eq_some_iff.mp H
              obtain ⟨t108, A150, H⟩ := H
              replace H : (if t108 = true then (if t104 = 1 then (some ((t103.length : Int) == 0)) else (some false)) else (some false)) = some r := H
              have A15 := Aside0.mk A150
              clear A150
              by_cases c16 : t108 = true
              · subst c16
                have H1 : (if t104 = 1 then (some ((t103.length : Int) == 0)) else (some false)) = some r := by rw [if_pos rfl] at H; exact H
                clear H
                have H := H1
                clear H1
                by_cases c17 : t104 = 1
                · rw [if_pos c17] at H
                  have c17b0 : (t104 == 1) = true := beq_iff_eq.mpr c17
                  have c17b1 : (t104 != 1) = false := bne_eq_false_iff_eq.mpr c17
                  clear c17
                  obtain rfl := Option.some.inj H
                  go_wp2_with (first | ((with_reducible refine gate_callee (f := 16) rfl ?_); refine goesL_ (some 37) rfl rfl Try.func16 (by kernel_rfl) rfl #[] rfl (by (try simp only [List.map_toArray, List.map_cons, List.map_nil]); first | done | rfl | (simp only [List.length_drop, List.length_take]; rfl)) ?_; (with_reducible refine (kinkeeplaw04_awake.calls  true _ A15.out).mono ?_); rintro e w18 ⟨rfl, hb⟩; refine ⟨_, rfl, ?_⟩; have n0_ := Aside0.mk (Kd.R_below (by (with_reducible repeat (first | apply Kd.R_alloc | apply Kd.R_drewN | apply Kd.R_drew)); exact HO_5.out) hb); have n1_ := Aside0.mk (below_step (by repeat (first | (with_reducible first | exact HB.out | apply below_alloc | apply pw_below_drewN | apply below_drew1) | exact HB.out)) hb); clear HO_5; clear HB; have HO_5 := n0_; have HB := n1_; clear n0_ n1_; (try clear hb); (try clear hb2); (try clear hk); (try clear hi); obtain ⟨Ao19, co19, eo19⟩ := Kd.R_slice HO_5.out; subst eo19))
                  go_ret
                  exact ⟨by first | rfl | (simp [errW_none, errW_some] <;> rfl) | (simp [*, errW_none, errW_some] <;> rfl), by repeat (first | (with_reducible first | exact HB.out | apply below_alloc | apply pw_below_drewN | apply below_drew1) | exact HB.out)⟩
                · rw [if_neg c17] at H
                  have c17b0 : (t104 == 1) = false := beq_eq_false_iff_ne.mpr c17
                  have c17b1 : (t104 != 1) = true := bne_iff_ne.mpr c17
                  obtain rfl := Option.some.inj H
                  exact absurd HRT.out (by decide)
              · exact absurd (Option.some.inj A15.out).symm c16
            · replace c14 := Bool.eq_false_iff.mpr c14
              subst c14
              have H1 : (kinkeeplaw04_MatrixSolves.l0 kj9 l0 l1 t103 t104 (([] : List (List Int))) 0) = some r := by rw [if_neg (show ¬ (false = true) by decide)] at H; exact H
              clear H
              have H := H1
              clear H1
              obtain ⟨y109, hy109⟩ : ∃ y_ : List (List Int), y_ = (([] : List (List Int))) := ⟨_, rfl⟩
              replace H : (kinkeeplaw04_MatrixSolves.l0 kj9 l0 l1 t103 t104 y109 0) = some r := by first | (rw [hy109]; with_reducible exact H) | (have H2_ := (Option.bind_some _ _).symm.trans H; rw [hy109]; with_reducible exact H2_) | (have H2_ := (Option.bind_some _ _).symm.trans H; with_reducible exact H2_) | with_reducible exact H | (rw [hy109]; exact H) | exact H
              have Ny109 := Aside0.mk hy109
              clear hy109
              have H' := Aside0.mk H
              clear H
              go_wp2_with (first | ((with_reducible refine gate_dst (N := 47) rfl ?_); (try (refine gate_guard (by rfl) ?_; dsimp only)); refine Kd.N_lit (Kd.slice 5 (Kd.int .u8)) _ 34 ?hg (N' := 47) ?hd (xs := ([] : List (List Int))) (inner := []) (ok := (fun k_ => some k_ ≠ (v105 : Value).ownBlock)) (okp := (fun k_ => some k_ ≠ (v105 : Value).ownBlock)) ?hr ?hp (fun _ hk => hk) ((show ∀ k_, wc.heap.size ≤ k_ → (fun k_ => some k_ ≠ (v105 : Value).ownBlock) k_ from fun k_ hk => Kd.fresh' (Kd.R_lt (by (with_reducible repeat (first | apply Kd.R_alloc | apply Kd.R_drewN | apply Kd.R_drew)); exact HO_5.out)) k_ hk) _ (Nat.le_refl _)) (Below.refl _ _) (Nat.le_refl _) (by simp) ?_; (case hd => rfl); (case hg => rfl); (case hr => first | (go_simp; done) | (go_simp; rfl)); (case hp => exact (Reps.none _ _)); intro v110 w22 ho23 hb hg_ hnew_; clear hg_ hnew_; (first | rw [← Ny109.out] at ho23 | (simp only [Int.reduceToNat] at ho23; rw [← Ny109.out] at ho23)); have n0_ := Aside0.mk (Kd.R_below (by (with_reducible repeat (first | apply Kd.R_alloc | apply Kd.R_drewN | apply Kd.R_drew)); exact HO_5.out) hb); have n1_ := Aside0.mk (Kd.N_lower ho23 (below_size (by repeat (first | (with_reducible first | exact HB.out | apply below_alloc | apply pw_below_drewN | apply below_drew1) | exact HB.out)))); have n2_ := Aside0.mk (below_step (by repeat (first | (with_reducible first | exact HB.out | apply below_alloc | apply pw_below_drewN | apply below_drew1) | exact HB.out)) hb); clear HO_5; clear HB; have HO_5 := n0_; have HO111 := n1_; have HB := n2_; clear n0_ n1_ n2_; clear hb ho23))
              go_loopg [7, 8] kj9 (fun kq v7 v8 w' => ∃ (x7_3 : List (List Int)) (x8_3 : Int), v8 = .int .i64 x8_3 ∧ Aside0 (kinkeeplaw04_MatrixSolves.l0 kq l0 l1 t103 t104 x7_3 x8_3 = some r) ∧ Aside0 (kq ≤ kj9) ∧ Aside0 (Kd.R (Kd.int .u8) 5 w' w.heap.size (fun _ => True) v105 t103) ∧ Aside0 (Kd.N (Kd.slice 5 (Kd.int .u8)) 34 w' w.heap.size (fun k_ => some k_ ≠ (v105 : Value).ownBlock) v7 x7_3) ∧ Aside0 (Below w.heap.size w w'))
              case atStart => exact ⟨(y109), (0), (by first | rfl | (simp; done) | (simp [*]; done)), H', ⟨Nat.le_refl _⟩, ⟨by (with_reducible repeat (first | apply Kd.R_alloc | apply Kd.R_drewN | apply Kd.R_drew)); exact HO_5.out⟩, ⟨by (with_reducible repeat (first | apply Kd.N_alloc | apply Kd.N_drewN | apply Kd.N_drew)); exact HO111.out⟩, ⟨by repeat (first | (with_reducible first | exact HB.out | apply below_alloc | apply pw_below_drewN | apply below_drew1) | exact HB.out)⟩⟩
              case round =>
                clear H'; (try clear c1); (try clear p2); (try clear c3); (try clear c5); (try clear c6); (try clear c13); (try clear c14); (try clear c15); (try clear c16); (try clear c17); (try clear c17b0); (try clear c17b1); (try clear c18); (try clear p2)
                obtain ⟨x7_3, x8_3, rfl, HA, HK3, HO_5, HO_7, HB⟩ := hrel
                cases gk with
                | zero => exact absurd HA.out (by simp [kinkeeplaw04_MatrixSolves.l0])
                | succ k3 =>
                  have H := HA.out
                  clear HA
                  simp only [kinkeeplaw04_MatrixSolves.l0] at H
                  by_cases c24 : x8_3 < (l0.length : Int)
                  · rw [if_pos c24] at H
                    have c24b0 : decide (x8_3 < (l0.length : Int)) = true := decide_eq_true c24
                    clear c24
                    obtain ⟨y112, hy112⟩ : ∃ y_ : List Int, y_ = (([] : List Int)) := ⟨_, rfl⟩
                    replace H : (if 0 ≤ x8_3 then (if y112.length + (rd_L1 l0 x8_3).length < 140737488355328 then ((some (y112 ++ (rd_L1 l0 x8_3) : List Int)).bind fun y116 => (if x8_3 < (l1.length : Int) then ((some (([rd l1 x8_3] : List Int) : List Int)).bind fun y120 => (if y116.length + y120.length < 140737488355328 then ((some (([(y116 ++ y120)] : List (List Int)) : List (List Int))).bind fun y126 => (if x7_3.length + y126.length < 5864062014805 then (kinkeeplaw04_MatrixSolves.l0 k3 l0 l1 t103 t104 (x7_3 ++ y126) (wrap64 (x8_3 + 1))) else (none))) else (none))) else (none))) else (none)) else (none)) = some r := by first | (rw [hy112]; with_reducible exact H) | (have H2_ := (Option.bind_some _ _).symm.trans H; rw [hy112]; with_reducible exact H2_) | (have H2_ := (Option.bind_some _ _).symm.trans H; with_reducible exact H2_) | with_reducible exact H | (rw [hy112]; exact H) | exact H
                    have Ny112 := Aside0.mk hy112
                    clear hy112
                    by_cases c25 : 0 ≤ x8_3
                    · rw [if_pos c25] at H
                      have c25b0 : decide (0 ≤ x8_3) = true := decide_eq_true c25
                      clear c25
                      by_cases c26 : y112.length + (rd_L1 l0 x8_3).length < 140737488355328
                      · rw [if_pos c26] at H
                        have LMc26 := Aside0.mk c26
                        clear c26
                        obtain ⟨y116, hy116⟩ : ∃ y_ : List Int, y_ = (y112 ++ (rd_L1 l0 x8_3)) := ⟨_, rfl⟩
                        replace H : (if x8_3 < (l1.length : Int) then ((some (([rd l1 x8_3] : List Int) : List Int)).bind fun y120 => (if y116.length + y120.length < 140737488355328 then ((some (([(y116 ++ y120)] : List (List Int)) : List (List Int))).bind fun y126 => (if x7_3.length + y126.length < 5864062014805 then (kinkeeplaw04_MatrixSolves.l0 k3 l0 l1 t103 t104 (x7_3 ++ y126) (wrap64 (x8_3 + 1))) else (none))) else (none))) else (none)) = some r := by first | (rw [hy116]; with_reducible exact H) | (have H2_ := (Option.bind_some _ _).symm.trans H; rw [hy116]; with_reducible exact H2_) | (have H2_ := (Option.bind_some _ _).symm.trans H; with_reducible exact H2_) | with_reducible exact H | (rw [hy116]; exact H) | exact H
                        have Ny116 := Aside0.mk hy116
                        clear hy116
                        by_cases c27 : x8_3 < (l1.length : Int)
                        · rw [if_pos c27] at H
                          have c27b0 : decide (x8_3 < (l1.length : Int)) = true := decide_eq_true c27
                          clear c27
                          obtain ⟨y120, hy120⟩ : ∃ y_ : List Int, y_ = (([rd l1 x8_3] : List Int)) := ⟨_, rfl⟩
                          replace H : (if y116.length + y120.length < 140737488355328 then ((some (([(y116 ++ y120)] : List (List Int)) : List (List Int))).bind fun y126 => (if x7_3.length + y126.length < 5864062014805 then (kinkeeplaw04_MatrixSolves.l0 k3 l0 l1 t103 t104 (x7_3 ++ y126) (wrap64 (x8_3 + 1))) else (none))) else (none)) = some r := by first | (rw [hy120]; with_reducible exact H) | (have H2_ := (Option.bind_some _ _).symm.trans H; rw [hy120]; with_reducible exact H2_) | (have H2_ := (Option.bind_some _ _).symm.trans H; with_reducible exact H2_) | with_reducible exact H | (rw [hy120]; exact H) | exact H
                          have Ny120 := Aside0.mk hy120
                          clear hy120
                          by_cases c28 : y116.length + y120.length < 140737488355328
                          · rw [if_pos c28] at H
                            have LMc28 := Aside0.mk c28
                            clear c28
                            obtain ⟨y123, hy123⟩ : ∃ y_ : List Int, y_ = (y116 ++ y120) := ⟨_, rfl⟩
                            replace H : ((some (([y123] : List (List Int)) : List (List Int))).bind fun y126 => (if x7_3.length + y126.length < 5864062014805 then (kinkeeplaw04_MatrixSolves.l0 k3 l0 l1 t103 t104 (x7_3 ++ y126) (wrap64 (x8_3 + 1))) else (none))) = some r := by first | (rw [hy123]; with_reducible exact H) | (have H2_ := (Option.bind_some _ _).symm.trans H; rw [hy123]; with_reducible exact H2_) | (have H2_ := (Option.bind_some _ _).symm.trans H; with_reducible exact H2_) | with_reducible exact H | (rw [hy123]; exact H) | exact H
                            have Ny123 := Aside0.mk hy123
                            clear hy123
                            obtain ⟨y126, hy126⟩ : ∃ y_ : List (List Int), y_ = (([y123] : List (List Int))) := ⟨_, rfl⟩
                            replace H : (if x7_3.length + y126.length < 5864062014805 then (kinkeeplaw04_MatrixSolves.l0 k3 l0 l1 t103 t104 (x7_3 ++ y126) (wrap64 (x8_3 + 1))) else (none)) = some r := by first | (rw [hy126]; with_reducible exact H) | (have H2_ := (Option.bind_some _ _).symm.trans H; rw [hy126]; with_reducible exact H2_) | (have H2_ := (Option.bind_some _ _).symm.trans H; with_reducible exact H2_) | with_reducible exact H | (rw [hy126]; exact H) | exact H
                            have Ny126 := Aside0.mk hy126
                            clear hy126
                            by_cases c29 : x7_3.length + y126.length < 5864062014805
                            · rw [if_pos c29] at H
                              have LMc29 := Aside0.mk c29
                              clear c29
                              obtain ⟨y129, hy129⟩ : ∃ y_ : List (List Int), y_ = (x7_3 ++ y126) := ⟨_, rfl⟩
                              replace H : (kinkeeplaw04_MatrixSolves.l0 k3 l0 l1 t103 t104 y129 (wrap64 (x8_3 + 1))) = some r := by first | (rw [hy129]; with_reducible exact H) | (have H2_ := (Option.bind_some _ _).symm.trans H; rw [hy129]; with_reducible exact H2_) | (have H2_ := (Option.bind_some _ _).symm.trans H; with_reducible exact H2_) | with_reducible exact H | (rw [hy129]; exact H) | exact H
                              have Ny129 := Aside0.mk hy129
                              clear hy129
                              have H' := Aside0.mk H
                              clear H
                              obtain ⟨Ao30, co30, eo30⟩ := Kd.N_slice HO_7.out
                              subst eo30
                              try go_wp2
                              have n0_ := Aside0.mk (Kd.R_drew HO_5.out)
                              have n1_ := Aside0.mk (Kd.N_drew HO_7.out)
                              have n2_ := Aside0.mk (below_drew1 HB.out)
                              clear HO_5; clear HO_7; clear HB
                              have HO_5 := n0_
                              have HO_7 := n1_
                              have HB := n2_
                              clear n0_ n1_ n2_
                              have p115 : 0 ≤ (x8_3 : Int) := of_decide_eq_true (by first | (with_reducible assumption) | assumption)
                              have q115 : x8_3 < (l0.length : Int) := of_decide_eq_true (by first | (with_reducible assumption) | assumption)
                              obtain ⟨ad115, A115_0, c115_0, e115, hx115_0, hl115_0, hi115_0⟩ := at_L1 HR0.out x8_3 p115 q115
                              have hw115_0 := hx115_0
                              cases e115
                              replace hx115_0 := (HB.out.cell (World.block_lt_of_cell? w _ hx115_0)).trans hx115_0
                              have HR115_0 := Aside0.mk hi115_0
                              have HC115_0 := Aside0.mk hl115_0
                              clear hi115_0 hl115_0
                              replace p115 := eq_true p115
                              replace q115 := eq_true q115
                              have p119 : 0 ≤ (x8_3 : Int) := of_decide_eq_true (by first | (with_reducible assumption) | assumption)
                              have q119 : x8_3 < (l1.length : Int) := of_decide_eq_true (by first | (with_reducible assumption) | assumption)
                              obtain ⟨ad119, e119, hx119_0⟩ := Kd.at_int HR1.out x8_3 p119 q119
                              have hw119_0 := hx119_0
                              cases e119
                              replace hx119_0 := (HB.out.cell (World.block_lt_of_cell? w _ hx119_0)).trans hx119_0
                              replace p119 := eq_true p119
                              replace q119 := eq_true q119
                              refine start_ (n := 16) (S := fun w' => w'.cell? (ad115.add (x8_3).toNat) = some (.slice A115_0 (rd_L1 l0 x8_3).length c115_0) ∧ w'.cell? (ad119.add (x8_3).toNat) = some (.int .u8 (rd l1 x8_3))) (ds := []) #[false, false, false, false, false, false, false, false, false, false, false, false, false, false, false, false] (by kernel_rfl) rfl rfl ⟨((HB.out.cell (World.block_lt_of_cell? w _ hw115_0)).trans hw115_0), ((HB.out.cell (World.block_lt_of_cell? w _ hw119_0)).trans hw119_0)⟩ (fun hHeld => ?_); refine with_tabW kinkeeplaw04_MatrixSolves.tab10 kinkeeplaw04_MatrixSolves.bits10 (fun HT_ HW_ => ?_)
                              generalize wr.drew = w31 at HO_5 HO_7 HB HR115_0 hx115_0 hx119_0 hHeld ⊢
                              refine pure_ (i := 0) (N := some 54) (v := ?_) (a' := ?_) #[true, false, false, false, false, false, false, false, false, false, false, false, false, false, false, false] rfl rfl (any_of HT_.out (by kernel_rfl)) (fun _ _ _ h => h) (Or.inl ⟨by rfl, ?_⟩) ?_ ?_
                              rotate_left
                              · intro w'
                                go_simp
                                with_reducible rfl
                              rotate_left
                              · simp only [Act.put, List.setIfInBounds_toArray, List.set_cons_zero, List.set_cons_succ, i64_w, i32_w]
                                rfl
                              refine pure_ (i := 2) (N := some 56) (v := ?_) (a' := ?_) #[true, false, true, false, false, false, false, false, false, false, false, false, false, false, false, false] rfl rfl (any_of HT_.out (by kernel_rfl)) (fun _ _ _ h => h) (Or.inl ⟨by rfl, ?_⟩) ?_ ?_
                              rotate_left
                              · intro w'
                                go_simp
                                with_reducible rfl
                              rotate_left
                              · simp only [Act.put, List.setIfInBounds_toArray, List.set_cons_zero, List.set_cons_succ, i64_w, i32_w]
                                rfl
                              refine pure_ (i := 3) (N := some 57) (v := ?_) (a' := ?_) #[true, false, true, true, false, false, false, false, false, false, false, false, false, false, false, false] rfl rfl (any_of HT_.out (by kernel_rfl)) (fun _ _ _ h => h) (Or.inl ⟨by rfl, ?_⟩) ?_ ?_
                              rotate_left
                              · intro w'
                                go_simp
                                with_reducible rfl
                              rotate_left
                              · simp only [Act.put, List.setIfInBounds_toArray, List.set_cons_zero, List.set_cons_succ, i64_w, i32_w]
                                rfl
                              refine pure_ (i := 4) (N := some 58) (v := ?_) (a' := ?_) #[true, false, true, true, true, false, false, false, false, false, false, false, false, false, false, false] rfl rfl (any_of HT_.out (by kernel_rfl)) (fun _ _ _ h => h) (Or.inl ⟨by rfl, ?_⟩) ?_ ?_
                              rotate_left
                              · intro w'
                                go_simp
                                with_reducible rfl
                              rotate_left
                              · simp only [Act.put, List.setIfInBounds_toArray, List.set_cons_zero, List.set_cons_succ, i64_w, i32_w]
                                rfl
                              refine pure_ (i := 7) (N := some 61) (v := ?_) (a' := ?_) #[true, false, true, true, true, false, false, true, false, false, false, false, false, false, false, false] rfl rfl (any_of HT_.out (by kernel_rfl)) (fun _ _ _ h => h) (Or.inl ⟨by rfl, ?_⟩) ?_ ?_
                              rotate_left
                              · intro w'
                                go_simp
                                with_reducible rfl
                              rotate_left
                              · simp only [Act.put, List.setIfInBounds_toArray, List.set_cons_zero, List.set_cons_succ, i64_w, i32_w]
                                rfl
                              refine pure_ (i := 8) (N := some 62) (v := ?_) (a' := ?_) #[true, false, true, true, true, false, false, true, true, false, false, false, false, false, false, false] rfl rfl (any_of HT_.out (by kernel_rfl)) (fun _ _ _ h => h) (Or.inl ⟨by rfl, ?_⟩) ?_ ?_
                              rotate_left
                              · intro w'
                                go_simp
                                with_reducible rfl
                              rotate_left
                              · simp only [Act.put, List.setIfInBounds_toArray, List.set_cons_zero, List.set_cons_succ, i64_w, i32_w]
                                rfl
                              refine pure_ (i := 9) (N := some 63) (v := ?_) (a' := ?_) #[true, false, true, true, true, false, false, true, true, true, false, false, false, false, false, false] rfl rfl (any_of HT_.out (by kernel_rfl)) (fun _ _ _ h => h) (Or.inl ⟨by rfl, ?_⟩) ?_ ?_
                              rotate_left
                              · intro w'
                                go_simp
                                with_reducible rfl
                              rotate_left
                              · simp only [Act.put, List.setIfInBounds_toArray, List.set_cons_zero, List.set_cons_succ, i64_w, i32_w]
                                rfl
                              refine take_ (i := 5) (N := some 59) (v := ?_) (a' := ?_) #[true, false, true, true, true, true, false, true, true, true, false, false, false, false, false, false] rfl rfl (take_ofW HT_.out HW_.out (by kernel_rfl)) (fun _ _ _ h => h) (Or.inl ⟨by rfl, ?_⟩) hHeld ?_ ?_
                              rotate_left
                              · rintro w' ⟨s0, s1⟩
                                go_simp
                                with_reducible rfl
                              rotate_left
                              · simp only [Act.put, List.setIfInBounds_toArray, List.set_cons_zero, List.set_cons_succ, i64_w, i32_w]
                                rfl
                              refine take_ (i := 10) (N := some 64) (v := ?_) (a' := ?_) #[true, false, true, true, true, true, false, true, true, true, true, false, false, false, false, false] rfl rfl (take_ofW HT_.out HW_.out (by kernel_rfl)) (fun _ _ _ h => h) (Or.inl ⟨by rfl, ?_⟩) hHeld ?_ ?_
                              rotate_left
                              · rintro w' ⟨s0, s1⟩
                                go_simp
                                with_reducible rfl
                              rotate_left
                              · simp only [Act.put, List.setIfInBounds_toArray, List.set_cons_zero, List.set_cons_succ, i64_w, i32_w]
                                rfl
                              refine join_ (σ := Value × Value × Value) 4 #[true, true, true, true, true, true, true, true, true, true, true, true, false, false, false, false] (fun s_ => [(55, s_.1), (60, s_.2.1), (65, s_.2.2)]) (fun s_ w' => (w'.cell? (ad115.add (x8_3).toNat) = some (.slice A115_0 (rd_L1 l0 x8_3).length c115_0) ∧ w'.cell? (ad119.add (x8_3).toNat) = some (.int .u8 (rd l1 x8_3))) ∧ (Kd.R (Kd.int .u8) 5 w' w.heap.size (fun k_ => some k_ ≠ (s_.2.2 : Value).ownBlock ∧ some k_ ≠ (v105 : Value).ownBlock) s_.2.1 y116) ∧ (Kd.R (Kd.int .u8) 5 w' w.heap.size (fun k_ => some k_ ≠ (s_.2.1 : Value).ownBlock ∧ some k_ ≠ (v105 : Value).ownBlock) s_.2.2 y120) ∧ (Kd.R (Kd.int .u8) 5 w' w.heap.size (fun k_ => some k_ ≠ (s_.2.1 : Value).ownBlock ∧ some k_ ≠ (s_.2.2 : Value).ownBlock) v105 t103) ∧ (Kd.N (Kd.slice 5 (Kd.int .u8)) 34 w' w.heap.size (fun k_ => some k_ ≠ (s_.2.1 : Value).ownBlock ∧ some k_ ≠ (s_.2.2 : Value).ownBlock ∧ some k_ ≠ (v105 : Value).ownBlock) (.slice Ao30 x7_3.length co30) x7_3) ∧ (Below w.heap.size w w')) ?_ ?_
                              rotate_left
                              · intro hCont
                                refine two_ (i := 1) (j := 11) (Ni := some 55) (Nj := some 65) #[true, true, true, true, true, true, false, true, true, true, true, false, false, false, false, false] #[true, false, true, true, true, true, false, true, true, true, true, true, false, false, false, false] rfl rfl rfl rfl (two_of HT_.out (by kernel_rfl)) (by decide) (by decide) (fun K hK => ?_) (fun K hK => ?_)
                                · skip
                                  refine Kd.R_lit_step (Kd.int .u8) _ 5 ?hg (N := 55) ?hd (xs := ([] : List Int)) (inner := []) (ok := fun _ => True) (okp := fun _ => True) ?hr ?hp (fun _ hk => hk) trivial (Below.refl _ _) (Nat.le_refl _) (by simp) ?_; (case hd => rfl); (case hg => rfl); (case hr => first | (go_simp; done) | (go_simp; rfl)); (case hp => exact (Reps.none _ _))
                                  intro v113 w32 ho33 hb hg_ hnew_
                                  clear hg_ hnew_
                                  (first | rw [← Ny112.out] at ho33 | (simp only [Int.reduceToNat] at ho33; rw [← Ny112.out] at ho33))
                                  have n0_ := Aside0.mk (Kd.R_elder' (by (with_reducible repeat (first | apply Kd.R_alloc | apply Kd.R_drewN | apply Kd.R_drew)); exact HO_5.out) (Kd.R_base ho33) hb)
                                  have n1_ := Aside0.mk (Kd.N_elder' (by (with_reducible repeat (first | apply Kd.N_alloc | apply Kd.N_drewN | apply Kd.N_drew)); exact HO_7.out) (Kd.R_base ho33) hb)
                                  have n2_ := Aside0.mk (Kd.R_lower (Kd.R_new' ho33 (Kd.R_lt (by (with_reducible repeat (first | apply Kd.R_alloc | apply Kd.R_drewN | apply Kd.R_drew)); exact HO_5.out))) (below_size (by repeat (first | (with_reducible first | exact HB.out | apply below_alloc | apply pw_below_drewN | apply below_drew1) | exact HB.out))))
                                  have n3_ := Aside0.mk (below_step (by repeat (first | (with_reducible first | exact HB.out | apply below_alloc | apply pw_below_drewN | apply below_drew1) | exact HB.out)) hb)
                                  clear HO_5; clear HO_7; clear HB
                                  have HO_5 := n0_
                                  have HO_7 := n1_
                                  have HO114 := n2_
                                  have HB := n3_
                                  clear n0_ n1_ n2_ n3_; clear hb ho33
                                  refine hK.out _ _ ⟨((HB.out.cell (World.block_lt_of_cell? w _ hw115_0)).trans hw115_0), ((HB.out.cell (World.block_lt_of_cell? w _ hw119_0)).trans hw119_0)⟩ (fun hHeld => ?_)
                                  clear hK K
                                  refine norm_ (a' := ?_) ?_ ?_
                                  rotate_left
                                  · show Act.put _ (some 55) _ = _
                                    simp only [Act.put, List.setIfInBounds_toArray, List.set_cons_zero, List.set_cons_succ, i64_w, i32_w]
                                    rfl
                                  refine two_ (i := 6) (j := 11) (Ni := some 60) (Nj := some 65) #[true, true, true, true, true, true, true, true, true, true, true, false, false, false, false, false] #[true, true, true, true, true, true, false, true, true, true, true, true, false, false, false, false] rfl rfl rfl rfl (two_of HT_.out (by kernel_rfl)) (by decide) (by decide) (fun K hK => ?_) (fun K hK => ?_)
                                  · skip
                                    refine Kd.R_append_rows_step (Kd.int .u8) (w0 := w) w.heap.size (by rfl) (.tmp 55) (.tmp 59) 34 5 (.int .u8 0) 1 rfl Try.underlying34 info5 rfl (by decide) (by omega) v113 y112 (rd_L1 l0 x8_3) _ _ _ (fun k_ => some k_ ≠ (v105 : Value).ownBlock) (fun _ => False) rfl rfl ?aO ?aR (fun _ _ h => h) (fun _ h => h.elim) ?aF ?aB ?aS ?aL ?_
                                    (case aR => repeat (first | exact (Kd.C_below HR115_0.out HB.out) | (with_reducible refine Kd.C_alloc ?_ _) | (with_reducible refine Kd.C_drewN ?_ _) | (with_reducible refine Kd.C_drew ?_)))
                                    (case aB => exact (by repeat (first | (with_reducible first | exact HB.out | apply below_alloc | apply pw_below_drewN | apply below_drew1) | exact HB.out)))
                                    (case aF => exact (fun k_ hk => Kd.fresh' (Kd.R_lt (by (with_reducible repeat (first | apply Kd.R_alloc | apply Kd.R_drewN | apply Kd.R_drew)); exact HO_5.out)) k_ hk))
                                    (case aO => exact (by (with_reducible repeat (first | apply Kd.R_alloc | apply Kd.R_drewN | apply Kd.R_drew)); exact Kd.R_mono HO114.out (fun _ hk => hk.2)))
                                    (case aS => exact (below_size (by repeat (first | (with_reducible first | exact HB.out | apply below_alloc | apply pw_below_drewN | apply below_drew1) | exact HB.out))))
                                    (case aL => have := LMc26.out; omega)
                                    intro v117 w34 ho hb hg hat
                                    rw [← Ny116.out] at ho
                                    have n0_ := Aside0.mk (Kd.R_after (ok := (fun _ => True)) (by (with_reducible repeat (first | apply Kd.R_alloc | apply Kd.R_drewN | apply Kd.R_drew)); exact HO_5.out) hg hat)
                                    have n1_ := Aside0.mk (Kd.N_afterv (ok := (fun k_ => some k_ ≠ (v105 : Value).ownBlock)) (by (with_reducible repeat (first | apply Kd.N_alloc | apply Kd.N_drewN | apply Kd.N_drew)); exact HO_7.out) hg hat)
                                    have n2_ := Aside0.mk (hb)
                                    have n3_ := Aside0.mk (ho)
                                    clear HO_5; clear HO_7; clear HB; clear HO114
                                    have HO_5 := n0_
                                    have HO_7 := n1_
                                    have HB := n2_
                                    have HO118 := n3_
                                    clear n0_ n1_ n2_ n3_; clear ho hb hg hat
                                    refine hK.out _ _ ⟨((HB.out.cell (World.block_lt_of_cell? w _ hw115_0)).trans hw115_0), ((HB.out.cell (World.block_lt_of_cell? w _ hw119_0)).trans hw119_0)⟩ (fun hHeld => ?_)
                                    clear hK K
                                    refine norm_ (a' := ?_) ?_ ?_
                                    rotate_left
                                    · show Act.put _ (some 60) _ = _
                                      simp only [Act.put, List.setIfInBounds_toArray, List.set_cons_zero, List.set_cons_succ, i64_w, i32_w]
                                      rfl
                                    refine one_ (i := 11) (N := some 65) #[true, true, true, true, true, true, true, true, true, true, true, true, false, false, false, false] rfl rfl (one_of HT_.out (by kernel_rfl)) (by decide) (fun K hK => ?_)
                                    refine Kd.R_lit_step (Kd.int .u8) _ 5 ?hg (N := 65) ?hd (xs := ([rd l1 x8_3] : List Int)) (inner := [.int .u8 (rd l1 x8_3)]) (ok := fun _ => True) (okp := fun _ => True) ?hr ?hp (fun _ hk => hk) trivial (Below.refl _ _) (Nat.le_refl _) (by simp) ?_; (case hd => rfl); (case hg => rfl); (case hr => first | (go_simp; done) | (go_simp; rfl)); (case hp => exact (Reps.one (show Kd.M (Kd.int .u8) _ _ _ (rd l1 x8_3) [.int .u8 (rd l1 x8_3)] from rfl) (Reps.none _ _)))
                                    intro v121 w35 ho36 hb hg_ hnew_
                                    clear hg_ hnew_
                                    (first | rw [← Ny120.out] at ho36 | (simp only [Int.reduceToNat] at ho36; rw [← Ny120.out] at ho36))
                                    have n0_ := Aside0.mk (Kd.R_elder' (by (with_reducible repeat (first | apply Kd.R_alloc | apply Kd.R_drewN | apply Kd.R_drew)); exact HO_5.out) (Kd.R_base ho36) hb)
                                    have n1_ := Aside0.mk (Kd.N_elder' (by (with_reducible repeat (first | apply Kd.N_alloc | apply Kd.N_drewN | apply Kd.N_drew)); exact HO_7.out) (Kd.R_base ho36) hb)
                                    have n2_ := Aside0.mk (Kd.R_elder' (by (with_reducible repeat (first | apply Kd.R_alloc | apply Kd.R_drewN | apply Kd.R_drew)); exact HO118.out) (Kd.R_base ho36) hb)
                                    have n3_ := Aside0.mk (Kd.R_lower (Kd.R_new' (Kd.R_new' ho36 (Kd.R_lt (by (with_reducible repeat (first | apply Kd.R_alloc | apply Kd.R_drewN | apply Kd.R_drew)); exact HO_5.out))) (Kd.R_lt (by (with_reducible repeat (first | apply Kd.R_alloc | apply Kd.R_drewN | apply Kd.R_drew)); exact HO118.out))) (below_size (by repeat (first | (with_reducible first | exact HB.out | apply below_alloc | apply pw_below_drewN | apply below_drew1) | exact HB.out))))
                                    have n4_ := Aside0.mk (below_step (by repeat (first | (with_reducible first | exact HB.out | apply below_alloc | apply pw_below_drewN | apply below_drew1) | exact HB.out)) hb)
                                    clear HO_5; clear HO_7; clear HO118; clear HB
                                    have HO_5 := n0_
                                    have HO_7 := n1_
                                    have HO118 := n2_
                                    have HO122 := n3_
                                    have HB := n4_
                                    clear n0_ n1_ n2_ n3_ n4_; clear hb ho36
                                    refine hK.out _ _ ⟨((HB.out.cell (World.block_lt_of_cell? w _ hw115_0)).trans hw115_0), ((HB.out.cell (World.block_lt_of_cell? w _ hw119_0)).trans hw119_0)⟩ (fun hHeld => ?_)
                                    clear hK K
                                    refine norm_ (a' := ?_) ?_ ?_
                                    rotate_left
                                    · show Act.put _ (some 65) _ = _
                                      simp only [Act.put, List.setIfInBounds_toArray, List.set_cons_zero, List.set_cons_succ, i64_w, i32_w]
                                      rfl
                                    exact norm_ (by simp only [putAll, Act.put, List.setIfInBounds_toArray, List.set_cons_zero, List.set_cons_succ]) (hCont (v113, v117, v121) _ ⟨hHeld, (by (with_reducible repeat (first | apply Kd.R_alloc | apply Kd.R_drewN | apply Kd.R_drew)); exact Kd.R_mono HO118.out (fun _ hk => ⟨hk.2, hk.1⟩)), (by (with_reducible repeat (first | apply Kd.R_alloc | apply Kd.R_drewN | apply Kd.R_drew)); exact Kd.R_mono HO122.out (fun _ hk => ⟨hk.2, hk.1.2⟩)), (by (with_reducible repeat (first | apply Kd.R_alloc | apply Kd.R_drewN | apply Kd.R_drew)); exact Kd.R_mono HO_5.out (fun _ hk => ⟨hk.1.2, hk.2⟩)), (by (with_reducible repeat (first | apply Kd.N_alloc | apply Kd.N_drewN | apply Kd.N_drew)); exact Kd.N_mono HO_7.out (fun _ hk => ⟨hk.1.2, ⟨hk.2, hk.1.1⟩⟩)), (by repeat (first | (with_reducible first | exact HB.out | apply below_alloc | apply pw_below_drewN | apply below_drew1) | exact HB.out))⟩)
                                  · skip
                                    refine Kd.R_lit_step (Kd.int .u8) _ 5 ?hg (N := 65) ?hd (xs := ([rd l1 x8_3] : List Int)) (inner := [.int .u8 (rd l1 x8_3)]) (ok := fun _ => True) (okp := fun _ => True) ?hr ?hp (fun _ hk => hk) trivial (Below.refl _ _) (Nat.le_refl _) (by simp) ?_; (case hd => rfl); (case hg => rfl); (case hr => first | (go_simp; done) | (go_simp; rfl)); (case hp => exact (Reps.one (show Kd.M (Kd.int .u8) _ _ _ (rd l1 x8_3) [.int .u8 (rd l1 x8_3)] from rfl) (Reps.none _ _)))
                                    intro v121 w34 ho35 hb hg_ hnew_
                                    clear hg_ hnew_
                                    (first | rw [← Ny120.out] at ho35 | (simp only [Int.reduceToNat] at ho35; rw [← Ny120.out] at ho35))
                                    have n0_ := Aside0.mk (Kd.R_elder' (by (with_reducible repeat (first | apply Kd.R_alloc | apply Kd.R_drewN | apply Kd.R_drew)); exact HO_5.out) (Kd.R_base ho35) hb)
                                    have n1_ := Aside0.mk (Kd.N_elder' (by (with_reducible repeat (first | apply Kd.N_alloc | apply Kd.N_drewN | apply Kd.N_drew)); exact HO_7.out) (Kd.R_base ho35) hb)
                                    have n2_ := Aside0.mk (Kd.R_elder' (by (with_reducible repeat (first | apply Kd.R_alloc | apply Kd.R_drewN | apply Kd.R_drew)); exact HO114.out) (Kd.R_base ho35) hb)
                                    have n3_ := Aside0.mk (Kd.R_lower (Kd.R_new' (Kd.R_new' ho35 (Kd.R_lt (by (with_reducible repeat (first | apply Kd.R_alloc | apply Kd.R_drewN | apply Kd.R_drew)); exact HO_5.out))) (Kd.R_lt (by (with_reducible repeat (first | apply Kd.R_alloc | apply Kd.R_drewN | apply Kd.R_drew)); exact HO114.out))) (below_size (by repeat (first | (with_reducible first | exact HB.out | apply below_alloc | apply pw_below_drewN | apply below_drew1) | exact HB.out))))
                                    have n4_ := Aside0.mk (below_step (by repeat (first | (with_reducible first | exact HB.out | apply below_alloc | apply pw_below_drewN | apply below_drew1) | exact HB.out)) hb)
                                    clear HO_5; clear HO_7; clear HO114; clear HB
                                    have HO_5 := n0_
                                    have HO_7 := n1_
                                    have HO114 := n2_
                                    have HO122 := n3_
                                    have HB := n4_
                                    clear n0_ n1_ n2_ n3_ n4_; clear hb ho35
                                    refine hK.out _ _ ⟨((HB.out.cell (World.block_lt_of_cell? w _ hw115_0)).trans hw115_0), ((HB.out.cell (World.block_lt_of_cell? w _ hw119_0)).trans hw119_0)⟩ (fun hHeld => ?_)
                                    clear hK K
                                    refine norm_ (a' := ?_) ?_ ?_
                                    rotate_left
                                    · show Act.put _ (some 65) _ = _
                                      simp only [Act.put, List.setIfInBounds_toArray, List.set_cons_zero, List.set_cons_succ, i64_w, i32_w]
                                      rfl
                                    refine one_ (i := 6) (N := some 60) #[true, true, true, true, true, true, true, true, true, true, true, true, false, false, false, false] rfl rfl (one_of HT_.out (by kernel_rfl)) (by decide) (fun K hK => ?_)
                                    refine Kd.R_append_rows_step (Kd.int .u8) (w0 := w) w.heap.size (by rfl) (.tmp 55) (.tmp 59) 34 5 (.int .u8 0) 1 rfl Try.underlying34 info5 rfl (by decide) (by omega) v113 y112 (rd_L1 l0 x8_3) _ _ _ (fun k_ => some k_ ≠ (v105 : Value).ownBlock ∧ some k_ ≠ (v121 : Value).ownBlock) (fun _ => False) rfl rfl ?aO ?aR (fun _ _ h => h) (fun _ h => h.elim) ?aF ?aB ?aS ?aL ?_
                                    (case aR => repeat (first | exact (Kd.C_below HR115_0.out HB.out) | (with_reducible refine Kd.C_alloc ?_ _) | (with_reducible refine Kd.C_drewN ?_ _) | (with_reducible refine Kd.C_drew ?_)))
                                    (case aB => exact (by repeat (first | (with_reducible first | exact HB.out | apply below_alloc | apply pw_below_drewN | apply below_drew1) | exact HB.out)))
                                    (case aF => exact (fun k_ hk => ⟨Kd.fresh' (Kd.R_lt (by (with_reducible repeat (first | apply Kd.R_alloc | apply Kd.R_drewN | apply Kd.R_drew)); exact HO_5.out)) k_ hk, Kd.fresh' (Kd.R_lt (by (with_reducible repeat (first | apply Kd.R_alloc | apply Kd.R_drewN | apply Kd.R_drew)); exact HO122.out)) k_ hk⟩))
                                    (case aO => exact (by (with_reducible repeat (first | apply Kd.R_alloc | apply Kd.R_drewN | apply Kd.R_drew)); exact Kd.R_mono HO114.out (fun _ hk => ⟨hk.1.2, hk.2⟩)))
                                    (case aS => exact (below_size (by repeat (first | (with_reducible first | exact HB.out | apply below_alloc | apply pw_below_drewN | apply below_drew1) | exact HB.out))))
                                    (case aL => have := LMc26.out; omega)
                                    intro v117 w36 ho hb hg hat
                                    rw [← Ny116.out] at ho
                                    have n0_ := Aside0.mk (Kd.R_after (ok := (fun k_ => some k_ ≠ (v121 : Value).ownBlock)) (by (with_reducible repeat (first | apply Kd.R_alloc | apply Kd.R_drewN | apply Kd.R_drew)); exact Kd.R_mono HO_5.out (fun _ hk => ⟨hk.2, hk.1.2⟩)) hg hat)
                                    have n1_ := Aside0.mk (Kd.N_afterv (ok := (fun k_ => some k_ ≠ (v105 : Value).ownBlock ∧ some k_ ≠ (v121 : Value).ownBlock)) (by (with_reducible repeat (first | apply Kd.N_alloc | apply Kd.N_drewN | apply Kd.N_drew)); exact Kd.N_mono HO_7.out (fun _ hk => ⟨⟨hk.1.1, hk.2⟩, hk.1.2⟩)) hg hat)
                                    have n2_ := Aside0.mk (Kd.R_after (ok := (fun k_ => some k_ ≠ (v105 : Value).ownBlock)) (by (with_reducible repeat (first | apply Kd.R_alloc | apply Kd.R_drewN | apply Kd.R_drew)); exact Kd.R_mono HO122.out (fun _ hk => ⟨hk.1.2, hk.2⟩)) hg hat)
                                    have n3_ := Aside0.mk (hb)
                                    have n4_ := Aside0.mk (ho)
                                    clear HO_5; clear HO_7; clear HO122; clear HB; clear HO114
                                    have HO_5 := n0_
                                    have HO_7 := n1_
                                    have HO122 := n2_
                                    have HB := n3_
                                    have HO118 := n4_
                                    clear n0_ n1_ n2_ n3_ n4_; clear ho hb hg hat
                                    refine hK.out _ _ ⟨((HB.out.cell (World.block_lt_of_cell? w _ hw115_0)).trans hw115_0), ((HB.out.cell (World.block_lt_of_cell? w _ hw119_0)).trans hw119_0)⟩ (fun hHeld => ?_)
                                    clear hK K
                                    refine norm_ (a' := ?_) ?_ ?_
                                    rotate_left
                                    · show Act.put _ (some 60) _ = _
                                      simp only [Act.put, List.setIfInBounds_toArray, List.set_cons_zero, List.set_cons_succ, i64_w, i32_w]
                                      rfl
                                    exact norm_ (by simp only [putAll, Act.put, List.setIfInBounds_toArray, List.set_cons_zero, List.set_cons_succ]) (hCont (v113, v117, v121) _ ⟨hHeld, (by (with_reducible repeat (first | apply Kd.R_alloc | apply Kd.R_drewN | apply Kd.R_drew)); exact Kd.R_mono HO118.out (fun _ hk => ⟨hk.2, hk.1⟩)), (by (with_reducible repeat (first | apply Kd.R_alloc | apply Kd.R_drewN | apply Kd.R_drew)); exact Kd.R_mono HO122.out (fun _ hk => ⟨hk.2, hk.1⟩)), (by (with_reducible repeat (first | apply Kd.R_alloc | apply Kd.R_drewN | apply Kd.R_drew)); exact Kd.R_mono HO_5.out (fun _ hk => ⟨hk.2, hk.1⟩)), (by (with_reducible repeat (first | apply Kd.N_alloc | apply Kd.N_drewN | apply Kd.N_drew)); exact Kd.N_mono HO_7.out (fun _ hk => ⟨hk.2, ⟨hk.1.2, hk.1.1⟩⟩)), (by repeat (first | (with_reducible first | exact HB.out | apply below_alloc | apply pw_below_drewN | apply below_drew1) | exact HB.out))⟩)
                                · skip
                                  refine Kd.R_lit_step (Kd.int .u8) _ 5 ?hg (N := 65) ?hd (xs := ([rd l1 x8_3] : List Int)) (inner := [.int .u8 (rd l1 x8_3)]) (ok := fun _ => True) (okp := fun _ => True) ?hr ?hp (fun _ hk => hk) trivial (Below.refl _ _) (Nat.le_refl _) (by simp) ?_; (case hd => rfl); (case hg => rfl); (case hr => first | (go_simp; done) | (go_simp; rfl)); (case hp => exact (Reps.one (show Kd.M (Kd.int .u8) _ _ _ (rd l1 x8_3) [.int .u8 (rd l1 x8_3)] from rfl) (Reps.none _ _)))
                                  intro v121 w32 ho33 hb hg_ hnew_
                                  clear hg_ hnew_
                                  (first | rw [← Ny120.out] at ho33 | (simp only [Int.reduceToNat] at ho33; rw [← Ny120.out] at ho33))
                                  have n0_ := Aside0.mk (Kd.R_elder' (by (with_reducible repeat (first | apply Kd.R_alloc | apply Kd.R_drewN | apply Kd.R_drew)); exact HO_5.out) (Kd.R_base ho33) hb)
                                  have n1_ := Aside0.mk (Kd.N_elder' (by (with_reducible repeat (first | apply Kd.N_alloc | apply Kd.N_drewN | apply Kd.N_drew)); exact HO_7.out) (Kd.R_base ho33) hb)
                                  have n2_ := Aside0.mk (Kd.R_lower (Kd.R_new' ho33 (Kd.R_lt (by (with_reducible repeat (first | apply Kd.R_alloc | apply Kd.R_drewN | apply Kd.R_drew)); exact HO_5.out))) (below_size (by repeat (first | (with_reducible first | exact HB.out | apply below_alloc | apply pw_below_drewN | apply below_drew1) | exact HB.out))))
                                  have n3_ := Aside0.mk (below_step (by repeat (first | (with_reducible first | exact HB.out | apply below_alloc | apply pw_below_drewN | apply below_drew1) | exact HB.out)) hb)
                                  clear HO_5; clear HO_7; clear HB
                                  have HO_5 := n0_
                                  have HO_7 := n1_
                                  have HO122 := n2_
                                  have HB := n3_
                                  clear n0_ n1_ n2_ n3_; clear hb ho33
                                  refine hK.out _ _ ⟨((HB.out.cell (World.block_lt_of_cell? w _ hw115_0)).trans hw115_0), ((HB.out.cell (World.block_lt_of_cell? w _ hw119_0)).trans hw119_0)⟩ (fun hHeld => ?_)
                                  clear hK K
                                  refine norm_ (a' := ?_) ?_ ?_
                                  rotate_left
                                  · show Act.put _ (some 65) _ = _
                                    simp only [Act.put, List.setIfInBounds_toArray, List.set_cons_zero, List.set_cons_succ, i64_w, i32_w]
                                    rfl
                                  refine one_ (i := 1) (N := some 55) #[true, true, true, true, true, true, false, true, true, true, true, true, false, false, false, false] rfl rfl (one_of HT_.out (by kernel_rfl)) (by decide) (fun K hK => ?_)
                                  refine Kd.R_lit_step (Kd.int .u8) _ 5 ?hg (N := 55) ?hd (xs := ([] : List Int)) (inner := []) (ok := fun _ => True) (okp := fun _ => True) ?hr ?hp (fun _ hk => hk) trivial (Below.refl _ _) (Nat.le_refl _) (by simp) ?_; (case hd => rfl); (case hg => rfl); (case hr => first | (go_simp; done) | (go_simp; rfl)); (case hp => exact (Reps.none _ _))
                                  intro v113 w34 ho35 hb hg_ hnew_
                                  clear hg_ hnew_
                                  (first | rw [← Ny112.out] at ho35 | (simp only [Int.reduceToNat] at ho35; rw [← Ny112.out] at ho35))
                                  have n0_ := Aside0.mk (Kd.R_elder' (by (with_reducible repeat (first | apply Kd.R_alloc | apply Kd.R_drewN | apply Kd.R_drew)); exact HO_5.out) (Kd.R_base ho35) hb)
                                  have n1_ := Aside0.mk (Kd.N_elder' (by (with_reducible repeat (first | apply Kd.N_alloc | apply Kd.N_drewN | apply Kd.N_drew)); exact HO_7.out) (Kd.R_base ho35) hb)
                                  have n2_ := Aside0.mk (Kd.R_elder' (by (with_reducible repeat (first | apply Kd.R_alloc | apply Kd.R_drewN | apply Kd.R_drew)); exact HO122.out) (Kd.R_base ho35) hb)
                                  have n3_ := Aside0.mk (Kd.R_lower (Kd.R_new' (Kd.R_new' ho35 (Kd.R_lt (by (with_reducible repeat (first | apply Kd.R_alloc | apply Kd.R_drewN | apply Kd.R_drew)); exact HO_5.out))) (Kd.R_lt (by (with_reducible repeat (first | apply Kd.R_alloc | apply Kd.R_drewN | apply Kd.R_drew)); exact HO122.out))) (below_size (by repeat (first | (with_reducible first | exact HB.out | apply below_alloc | apply pw_below_drewN | apply below_drew1) | exact HB.out))))
                                  have n4_ := Aside0.mk (below_step (by repeat (first | (with_reducible first | exact HB.out | apply below_alloc | apply pw_below_drewN | apply below_drew1) | exact HB.out)) hb)
                                  clear HO_5; clear HO_7; clear HO122; clear HB
                                  have HO_5 := n0_
                                  have HO_7 := n1_
                                  have HO122 := n2_
                                  have HO114 := n3_
                                  have HB := n4_
                                  clear n0_ n1_ n2_ n3_ n4_; clear hb ho35
                                  refine hK.out _ _ ⟨((HB.out.cell (World.block_lt_of_cell? w _ hw115_0)).trans hw115_0), ((HB.out.cell (World.block_lt_of_cell? w _ hw119_0)).trans hw119_0)⟩ (fun hHeld => ?_)
                                  clear hK K
                                  refine norm_ (a' := ?_) ?_ ?_
                                  rotate_left
                                  · show Act.put _ (some 55) _ = _
                                    simp only [Act.put, List.setIfInBounds_toArray, List.set_cons_zero, List.set_cons_succ, i64_w, i32_w]
                                    rfl
                                  refine one_ (i := 6) (N := some 60) #[true, true, true, true, true, true, true, true, true, true, true, true, false, false, false, false] rfl rfl (one_of HT_.out (by kernel_rfl)) (by decide) (fun K hK => ?_)
                                  refine Kd.R_append_rows_step (Kd.int .u8) (w0 := w) w.heap.size (by rfl) (.tmp 55) (.tmp 59) 34 5 (.int .u8 0) 1 rfl Try.underlying34 info5 rfl (by decide) (by omega) v113 y112 (rd_L1 l0 x8_3) _ _ _ (fun k_ => some k_ ≠ (v105 : Value).ownBlock ∧ some k_ ≠ (v121 : Value).ownBlock) (fun _ => False) rfl rfl ?aO ?aR (fun _ _ h => h) (fun _ h => h.elim) ?aF ?aB ?aS ?aL ?_
                                  (case aR => repeat (first | exact (Kd.C_below HR115_0.out HB.out) | (with_reducible refine Kd.C_alloc ?_ _) | (with_reducible refine Kd.C_drewN ?_ _) | (with_reducible refine Kd.C_drew ?_)))
                                  (case aB => exact (by repeat (first | (with_reducible first | exact HB.out | apply below_alloc | apply pw_below_drewN | apply below_drew1) | exact HB.out)))
                                  (case aF => exact (fun k_ hk => ⟨Kd.fresh' (Kd.R_lt (by (with_reducible repeat (first | apply Kd.R_alloc | apply Kd.R_drewN | apply Kd.R_drew)); exact HO_5.out)) k_ hk, Kd.fresh' (Kd.R_lt (by (with_reducible repeat (first | apply Kd.R_alloc | apply Kd.R_drewN | apply Kd.R_drew)); exact HO122.out)) k_ hk⟩))
                                  (case aO => exact (by (with_reducible repeat (first | apply Kd.R_alloc | apply Kd.R_drewN | apply Kd.R_drew)); exact Kd.R_mono HO114.out (fun _ hk => ⟨hk.1.2, hk.2⟩)))
                                  (case aS => exact (below_size (by repeat (first | (with_reducible first | exact HB.out | apply below_alloc | apply pw_below_drewN | apply below_drew1) | exact HB.out))))
                                  (case aL => have := LMc26.out; omega)
                                  intro v117 w36 ho hb hg hat
                                  rw [← Ny116.out] at ho
                                  have n0_ := Aside0.mk (Kd.R_after (ok := (fun k_ => some k_ ≠ (v121 : Value).ownBlock)) (by (with_reducible repeat (first | apply Kd.R_alloc | apply Kd.R_drewN | apply Kd.R_drew)); exact Kd.R_mono HO_5.out (fun _ hk => ⟨hk.1.2, hk.2⟩)) hg hat)
                                  have n1_ := Aside0.mk (Kd.N_afterv (ok := (fun k_ => some k_ ≠ (v105 : Value).ownBlock ∧ some k_ ≠ (v121 : Value).ownBlock)) (by (with_reducible repeat (first | apply Kd.N_alloc | apply Kd.N_drewN | apply Kd.N_drew)); exact HO_7.out) hg hat)
                                  have n2_ := Aside0.mk (Kd.R_after (ok := (fun k_ => some k_ ≠ (v105 : Value).ownBlock)) (by (with_reducible repeat (first | apply Kd.R_alloc | apply Kd.R_drewN | apply Kd.R_drew)); exact Kd.R_mono HO122.out (fun _ hk => ⟨hk.1.2, hk.2⟩)) hg hat)
                                  have n3_ := Aside0.mk (hb)
                                  have n4_ := Aside0.mk (ho)
                                  clear HO_5; clear HO_7; clear HO122; clear HB; clear HO114
                                  have HO_5 := n0_
                                  have HO_7 := n1_
                                  have HO122 := n2_
                                  have HB := n3_
                                  have HO118 := n4_
                                  clear n0_ n1_ n2_ n3_ n4_; clear ho hb hg hat
                                  refine hK.out _ _ ⟨((HB.out.cell (World.block_lt_of_cell? w _ hw115_0)).trans hw115_0), ((HB.out.cell (World.block_lt_of_cell? w _ hw119_0)).trans hw119_0)⟩ (fun hHeld => ?_)
                                  clear hK K
                                  refine norm_ (a' := ?_) ?_ ?_
                                  rotate_left
                                  · show Act.put _ (some 60) _ = _
                                    simp only [Act.put, List.setIfInBounds_toArray, List.set_cons_zero, List.set_cons_succ, i64_w, i32_w]
                                    rfl
                                  exact norm_ (by simp only [putAll, Act.put, List.setIfInBounds_toArray, List.set_cons_zero, List.set_cons_succ]) (hCont (v113, v117, v121) _ ⟨hHeld, (by (with_reducible repeat (first | apply Kd.R_alloc | apply Kd.R_drewN | apply Kd.R_drew)); exact Kd.R_mono HO118.out (fun _ hk => ⟨hk.2, hk.1⟩)), (by (with_reducible repeat (first | apply Kd.R_alloc | apply Kd.R_drewN | apply Kd.R_drew)); exact Kd.R_mono HO122.out (fun _ hk => ⟨hk.2, hk.1⟩)), (by (with_reducible repeat (first | apply Kd.R_alloc | apply Kd.R_drewN | apply Kd.R_drew)); exact Kd.R_mono HO_5.out (fun _ hk => ⟨hk.2, hk.1⟩)), (by (with_reducible repeat (first | apply Kd.N_alloc | apply Kd.N_drewN | apply Kd.N_drew)); exact Kd.N_mono HO_7.out (fun _ hk => ⟨hk.2, ⟨hk.1.2, hk.1.1⟩⟩)), (by repeat (first | (with_reducible first | exact HB.out | apply below_alloc | apply pw_below_drewN | apply below_drew1) | exact HB.out))⟩)
                              rintro ⟨v113, v117, v121⟩ w37 ⟨hS_, h0_, h1_, h2_, h3_, h4_⟩
                              have n0_ : Aside0 (Kd.R (Kd.int .u8) 5 w37 w.heap.size (fun k_ => some k_ ≠ (v121 : Value).ownBlock ∧ some k_ ≠ (v105 : Value).ownBlock) v117 y116) := ⟨h0_⟩
                              have n1_ : Aside0 (Kd.R (Kd.int .u8) 5 w37 w.heap.size (fun k_ => some k_ ≠ (v117 : Value).ownBlock ∧ some k_ ≠ (v105 : Value).ownBlock) v121 y120) := ⟨h1_⟩
                              have n2_ : Aside0 (Kd.R (Kd.int .u8) 5 w37 w.heap.size (fun k_ => some k_ ≠ (v117 : Value).ownBlock ∧ some k_ ≠ (v121 : Value).ownBlock) v105 t103) := ⟨h2_⟩
                              have n3_ : Aside0 (Kd.N (Kd.slice 5 (Kd.int .u8)) 34 w37 w.heap.size (fun k_ => some k_ ≠ (v117 : Value).ownBlock ∧ some k_ ≠ (v121 : Value).ownBlock ∧ some k_ ≠ (v105 : Value).ownBlock) (.slice Ao30 x7_3.length co30) x7_3) := ⟨h3_⟩
                              have n4_ : Aside0 (Below w.heap.size w w37) := ⟨h4_⟩
                              clear HO_5; clear HO_7; clear HB; clear h0_ h1_ h2_ h3_ h4_
                              have HO118 := n0_
                              have HO122 := n1_
                              have HO_5 := n2_
                              have HO_7 := n3_
                              have HB := n4_
                              clear n0_ n1_ n2_ n3_ n4_
                              have hHeld : w37.cell? (ad115.add (x8_3).toNat) = some (.slice A115_0 (rd_L1 l0 x8_3).length c115_0) ∧ w37.cell? (ad119.add (x8_3).toNat) = some (.int .u8 (rd l1 x8_3)) := hS_
                              obtain ⟨Ao39, co39, eo39⟩ := Kd.R_slice HO122.out
                              (first | subst eo39 | (injection eo39 with f1_ f2_ f3_; have f4_ := f1_.symm; have f5_ := f3_.symm; clear f1_ f2_ f3_; subst f4_; subst f5_))
                              refine norm_ (a' := ?_) ?_ ?_
                              rotate_left
                              · simp only [putAll, Act.put, List.setIfInBounds_toArray, List.set_cons_zero, List.set_cons_succ]
                                rfl
                              refine one_ (i := 12) (N := some 66) #[true, true, true, true, true, true, true, true, true, true, true, true, true, false, false, false] rfl rfl (one_of HT_.out (by kernel_rfl)) (by decide) (fun K hK => ?_)
                              refine Kd.R_append_rows_step (Kd.int .u8) (w0 := w) w.heap.size (by rfl) (.tmp 60) (.tmp 65) 34 5 (.int .u8 0) 1 rfl Try.underlying34 info5 rfl (by decide) (by omega) v117 y116 y120 _ _ _ (fun k_ => some k_ ≠ (v105 : Value).ownBlock ∧ some k_ ≠ (.slice Ao39 y120.length co39 : Value).ownBlock) (fun _ => False) rfl rfl ?aO ?aR (fun _ _ h => h) (fun _ h => h.elim) ?aF ?aB ?aS ?aL ?_
                              (case aR => repeat (first | exact (Kd.R_reads' HO122.out).2.2 | (with_reducible refine Kd.C_alloc ?_ _) | (with_reducible refine Kd.C_drewN ?_ _) | (with_reducible refine Kd.C_drew ?_)))
                              (case aB => exact (by repeat (first | (with_reducible first | exact HB.out | apply below_alloc | apply pw_below_drewN | apply below_drew1) | exact HB.out)))
                              (case aF => exact (fun k_ hk => ⟨Kd.fresh' (Kd.R_lt (by (with_reducible repeat (first | apply Kd.R_alloc | apply Kd.R_drewN | apply Kd.R_drew)); exact HO_5.out)) k_ hk, Kd.fresh' (Kd.R_lt (by (with_reducible repeat (first | apply Kd.R_alloc | apply Kd.R_drewN | apply Kd.R_drew)); exact HO122.out)) k_ hk⟩))
                              (case aO => exact (by (with_reducible repeat (first | apply Kd.R_alloc | apply Kd.R_drewN | apply Kd.R_drew)); exact Kd.R_mono HO118.out (fun _ hk => ⟨hk.2, hk.1⟩)))
                              (case aS => exact (below_size (by repeat (first | (with_reducible first | exact HB.out | apply below_alloc | apply pw_below_drewN | apply below_drew1) | exact HB.out))))
                              (case aL => have := LMc28.out; omega)
                              intro v124 w38 ho hb hg hat
                              rw [← Ny123.out] at ho
                              have n0_ := Aside0.mk (Kd.R_after (ok := (fun k_ => some k_ ≠ (.slice Ao39 y120.length co39 : Value).ownBlock)) (by (with_reducible repeat (first | apply Kd.R_alloc | apply Kd.R_drewN | apply Kd.R_drew)); exact Kd.R_mono HO_5.out (fun _ hk => ⟨hk.2, hk.1⟩)) hg hat)
                              have n1_ := Aside0.mk (Kd.N_afterv (ok := (fun k_ => some k_ ≠ (v105 : Value).ownBlock ∧ some k_ ≠ (.slice Ao39 y120.length co39 : Value).ownBlock)) (by (with_reducible repeat (first | apply Kd.N_alloc | apply Kd.N_drewN | apply Kd.N_drew)); exact Kd.N_mono HO_7.out (fun _ hk => ⟨⟨hk.2.2, hk.2.1⟩, hk.1⟩)) hg hat)
                              have n2_ := Aside0.mk (Kd.R_after (ok := (fun k_ => some k_ ≠ (v105 : Value).ownBlock)) (by (with_reducible repeat (first | apply Kd.R_alloc | apply Kd.R_drewN | apply Kd.R_drew)); exact Kd.R_mono HO122.out (fun _ hk => ⟨hk.2, hk.1⟩)) hg hat)
                              have n3_ := Aside0.mk (hb)
                              have n4_ := Aside0.mk (ho)
                              clear HO_5; clear HO_7; clear HO122; clear HB; clear HO118
                              have HO_5 := n0_
                              have HO_7 := n1_
                              have HO122 := n2_
                              have HB := n3_
                              have HO125 := n4_
                              clear n0_ n1_ n2_ n3_ n4_; clear ho hb hg hat
                              obtain ⟨Ao40, co40, eo40⟩ := Kd.R_slice HO125.out
                              (first | subst eo40 | (injection eo40 with f1_ f2_ f3_; have f4_ := f1_.symm; have f5_ := f3_.symm; clear f1_ f2_ f3_; subst f4_; subst f5_))
                              refine hK.out _ _ ⟨((HB.out.cell (World.block_lt_of_cell? w _ hw115_0)).trans hw115_0), ((HB.out.cell (World.block_lt_of_cell? w _ hw119_0)).trans hw119_0)⟩ (fun hHeld => ?_)
                              clear hK K
                              refine norm_ (a' := ?_) ?_ ?_
                              rotate_left
                              · show Act.put _ (some 66) _ = _
                                simp only [Act.put, List.setIfInBounds_toArray, List.set_cons_zero, List.set_cons_succ, i64_w, i32_w]
                                rfl
                              refine one_ (i := 13) (N := some 67) #[true, true, true, true, true, true, true, true, true, true, true, true, true, true, false, false] rfl rfl (one_of HT_.out (by kernel_rfl)) (by decide) (fun K hK => ?_)
                              refine Kd.N_lit_step (Kd.slice 5 (Kd.int .u8)) _ 34 ?hg (N' := 67) ?hd (xs := ([y123] : List (List Int))) (inner := [.slice Ao40 y123.length co40]) (ok := (fun k_ => some k_ ≠ (v105 : Value).ownBlock ∧ some k_ ≠ (.slice Ao30 x7_3.length co30 : Value).ownBlock ∧ some k_ ≠ (.slice Ao39 y120.length co39 : Value).ownBlock)) (okp := (fun k_ => some k_ ≠ (v105 : Value).ownBlock ∧ some k_ ≠ (.slice Ao30 x7_3.length co30 : Value).ownBlock ∧ some k_ ≠ (.slice Ao39 y120.length co39 : Value).ownBlock)) ?hr ?hp (fun _ hk => hk) ((show ∀ k_, w38.heap.size ≤ k_ → (fun k_ => some k_ ≠ (v105 : Value).ownBlock ∧ some k_ ≠ (.slice Ao30 x7_3.length co30 : Value).ownBlock ∧ some k_ ≠ (.slice Ao39 y120.length co39 : Value).ownBlock) k_ from fun k_ hk => ⟨Kd.fresh' (Kd.R_lt (by (with_reducible repeat (first | apply Kd.R_alloc | apply Kd.R_drewN | apply Kd.R_drew)); exact HO_5.out)) k_ hk, Kd.fresh' (Kd.N_lt (by (with_reducible repeat (first | apply Kd.N_alloc | apply Kd.N_drewN | apply Kd.N_drew)); exact HO_7.out)) k_ hk, Kd.fresh' (Kd.R_lt (by (with_reducible repeat (first | apply Kd.R_alloc | apply Kd.R_drewN | apply Kd.R_drew)); exact HO122.out)) k_ hk⟩) _ (Nat.le_refl _)) (Below.refl _ _) (Nat.le_refl _) (by simp) ?_; (case hd => rfl); (case hg => rfl); (case hr => first | (go_simp; done) | (go_simp; rfl)); (case hp => exact (Reps.one (show Kd.FK (Kd.slice 5 (Kd.int .u8)) _ _ y123 [.slice Ao40 y123.length co40] from (Kd.FK_slice_mk (Kd.R_reads' (Kd.R_mono (ok' := (fun k_ => some k_ ≠ (v105 : Value).ownBlock ∧ some k_ ≠ (.slice Ao30 x7_3.length co30 : Value).ownBlock ∧ some k_ ≠ (.slice Ao39 y120.length co39 : Value).ownBlock)) (Kd.R_apart' (HO125.out) (Kd.N_typed HO_7.out) (by decide)) (fun k_ hk => ⟨hk.1.1, ⟨hk.2, hk.1.2⟩⟩))).2.1 (Kd.R_F (Kd.R_mono (ok' := (fun k_ => some k_ ≠ (v105 : Value).ownBlock ∧ some k_ ≠ (.slice Ao30 x7_3.length co30 : Value).ownBlock ∧ some k_ ≠ (.slice Ao39 y120.length co39 : Value).ownBlock)) (Kd.R_apart' (HO125.out) (Kd.N_typed HO_7.out) (by decide)) (fun k_ hk => ⟨hk.1.1, ⟨hk.2, hk.1.2⟩⟩))))) (Reps.none _ _)))
                              intro v127 w41 ho42 hb hg_ hnew_
                              clear hg_ hnew_
                              (first | rw [← Ny126.out] at ho42 | (simp only [Int.reduceToNat] at ho42; rw [← Ny126.out] at ho42))
                              have n0_ := Aside0.mk (Kd.R_below (by (with_reducible repeat (first | apply Kd.R_alloc | apply Kd.R_drewN | apply Kd.R_drew)); exact HO_5.out) hb)
                              have n1_ := Aside0.mk (Kd.N_elder' (by (with_reducible repeat (first | apply Kd.N_alloc | apply Kd.N_drewN | apply Kd.N_drew)); exact HO_7.out) (by first | exact Kd.N_base ho42 | exact Kd.S_base ho42) hb)
                              have n2_ := Aside0.mk (Kd.R_below (by (with_reducible repeat (first | apply Kd.R_alloc | apply Kd.R_drewN | apply Kd.R_drew)); exact HO122.out) hb)
                              have n3_ := Aside0.mk (Kd.N_lower ho42 (below_size (by repeat (first | (with_reducible first | exact HB.out | apply below_alloc | apply pw_below_drewN | apply below_drew1) | exact HB.out))))
                              have n4_ := Aside0.mk (below_step (by repeat (first | (with_reducible first | exact HB.out | apply below_alloc | apply pw_below_drewN | apply below_drew1) | exact HB.out)) hb)
                              clear HO_5; clear HO_7; clear HO122; clear HB; clear HO125
                              have HO_5 := n0_
                              have HO_7 := n1_
                              have HO122 := n2_
                              have HO128 := n3_
                              have HB := n4_
                              clear n0_ n1_ n2_ n3_ n4_; clear hb ho42
                              obtain ⟨Ao44, co44, eo44⟩ := Kd.N_slice HO128.out
                              (first | subst eo44 | (injection eo44 with f1_ f2_ f3_; have f4_ := f1_.symm; have f5_ := f3_.symm; clear f1_ f2_ f3_; subst f4_; subst f5_))
                              refine hK.out _ _ ⟨((HB.out.cell (World.block_lt_of_cell? w _ hw115_0)).trans hw115_0), ((HB.out.cell (World.block_lt_of_cell? w _ hw119_0)).trans hw119_0)⟩ (fun hHeld => ?_)
                              clear hK K
                              refine norm_ (a' := ?_) ?_ ?_
                              rotate_left
                              · show Act.put _ (some 67) _ = _
                                simp only [Act.put, List.setIfInBounds_toArray, List.set_cons_zero, List.set_cons_succ, i64_w, i32_w]
                                rfl
                              refine one_ (i := 14) (N := some 68) #[true, true, true, true, true, true, true, true, true, true, true, true, true, true, true, false] rfl rfl (one_of HT_.out (by kernel_rfl)) (by decide) (fun K hK => ?_)
                              refine Kd.N_append_rows_step (Kd.slice 5 (Kd.int .u8)) (w0 := w) w.heap.size (by rfl) (.tmp 54) (.tmp 67) 22 34 (.slice none 0 0) 24 rfl Try.underlying22 info34 rfl (by decide) (by omega) (.slice Ao30 x7_3.length co30) x7_3 y126 _ _ _ (fun k_ => some k_ ≠ (v105 : Value).ownBlock ∧ some k_ ≠ (.slice Ao39 y120.length co39 : Value).ownBlock) (fun k_ => ((fun k_ => some k_ ≠ (v105 : Value).ownBlock ∧ some k_ ≠ (.slice Ao39 y120.length co39 : Value).ownBlock)) k_ ∧ some k_ ≠ (.slice Ao30 x7_3.length co30 : Value).ownBlock) rfl rfl ?aO ?aR (fun _ hk => hk) ?aF ?aB ?aS ?aL ?_
                              (case aR => exact (by skip; exact Kd.N_F (Kd.N_mono (ok' := (fun k_ => ((fun k_ => some k_ ≠ (v105 : Value).ownBlock ∧ some k_ ≠ (.slice Ao39 y120.length co39 : Value).ownBlock)) k_ ∧ some k_ ≠ (.slice Ao30 x7_3.length co30 : Value).ownBlock)) (HO128.out) (fun k_ hk => ⟨⟨hk.1, hk.2.2⟩, hk.2.1⟩))))
                              (case aB => exact (by repeat (first | (with_reducible first | exact HB.out | apply below_alloc | apply pw_below_drewN | apply below_drew1) | exact HB.out)))
                              (case aF => exact (fun k_ hk => ⟨Kd.fresh' (Kd.R_lt (by (with_reducible repeat (first | apply Kd.R_alloc | apply Kd.R_drewN | apply Kd.R_drew)); exact HO_5.out)) k_ hk, Kd.fresh' (Kd.R_lt (by (with_reducible repeat (first | apply Kd.R_alloc | apply Kd.R_drewN | apply Kd.R_drew)); exact HO122.out)) k_ hk⟩))
                              (case aO => exact (by (with_reducible repeat (first | apply Kd.N_alloc | apply Kd.N_drewN | apply Kd.N_drew)); exact Kd.N_mono HO_7.out (fun _ hk => ⟨hk.1.1.1, hk.1.1.2⟩)))
                              (case aS => exact (below_size (by repeat (first | (with_reducible first | exact HB.out | apply below_alloc | apply pw_below_drewN | apply below_drew1) | exact HB.out))))
                              (case aL => have := LMc29.out; omega)
                              intro v130 w43 ho hb hg hat
                              rw [← Ny129.out] at ho
                              have n0_ := Aside0.mk (Kd.R_over' (by (with_reducible repeat (first | apply Kd.R_alloc | apply Kd.R_drewN | apply Kd.R_drew)); exact HO_5.out) (Kd.N_typed (by (with_reducible repeat (first | apply Kd.N_alloc | apply Kd.N_drewN | apply Kd.N_drew)); exact HO_7.out)) (by decide) hg)
                              have n1_ := Aside0.mk (Kd.R_over' (by (with_reducible repeat (first | apply Kd.R_alloc | apply Kd.R_drewN | apply Kd.R_drew)); exact HO122.out) (Kd.N_typed (by (with_reducible repeat (first | apply Kd.N_alloc | apply Kd.N_drewN | apply Kd.N_drew)); exact HO_7.out)) (by decide) hg)
                              have n2_ := Aside0.mk (Kd.N_afterv (ok := (fun k_ => some k_ ≠ (v105 : Value).ownBlock ∧ some k_ ≠ (.slice Ao39 y120.length co39 : Value).ownBlock)) (by (with_reducible repeat (first | apply Kd.N_alloc | apply Kd.N_drewN | apply Kd.N_drew)); exact Kd.N_mono HO128.out (fun _ hk => ⟨⟨hk.1, hk.2.2⟩, hk.2.1⟩)) hg hat)
                              have n3_ := Aside0.mk (hb)
                              have n4_ := Aside0.mk (ho)
                              clear HO_5; clear HO122; clear HO128; clear HB; clear HO_7
                              have HO_5 := n0_
                              have HO122 := n1_
                              have HO128 := n2_
                              have HB := n3_
                              have HO131 := n4_
                              clear n0_ n1_ n2_ n3_ n4_; clear ho hb hg hat
                              refine hK.out _ _ ⟨((HB.out.cell (World.block_lt_of_cell? w _ hw115_0)).trans hw115_0), ((HB.out.cell (World.block_lt_of_cell? w _ hw119_0)).trans hw119_0)⟩ (fun hHeld => ?_)
                              clear hK K
                              refine norm_ (a' := ?_) ?_ ?_
                              rotate_left
                              · show Act.put _ (some 68) _ = _
                                simp only [Act.put, List.setIfInBounds_toArray, List.set_cons_zero, List.set_cons_succ, i64_w, i32_w]
                                rfl
                              refine pure_ (i := 15) (N := some 7) (v := ?_) (a' := ?_) #[true, true, true, true, true, true, true, true, true, true, true, true, true, true, true, true] rfl rfl (any_of HT_.out (by kernel_rfl)) (fun _ _ _ h => h) (Or.inl ⟨by rfl, ?_⟩) ?_ ?_
                              rotate_left
                              · intro w'
                                go_simp
                                with_reducible rfl
                              rotate_left
                              · simp only [Act.put, List.setIfInBounds_toArray, List.set_cons_zero, List.set_cons_succ, i64_w, i32_w]
                                rfl
                              refine done_ (done_of HT_.out (by kernel_rfl)) ?_
                              try go_wp2
                              go_roundg k3
                              case measure => have := HJ2.out; have := HJ9.out; have := HK3.out; omega
                              case rel => exact ⟨(y129), (wrap64 (x8_3 + 1)), (by first | rfl | (simp; done) | (simp [*]; done)), H', ⟨by have := HJ2.out; have := HJ9.out; have := HK3.out; omega⟩, ⟨by (with_reducible repeat (first | apply Kd.R_alloc | apply Kd.R_drewN | apply Kd.R_drew)); exact Kd.R_mono HO_5.out (fun _ hk => trivial)⟩, ⟨by (with_reducible repeat (first | apply Kd.N_alloc | apply Kd.N_drewN | apply Kd.N_drew)); exact Kd.N_mono HO131.out (fun _ hk => hk.1)⟩, ⟨by repeat (first | (with_reducible first | exact HB.out | apply below_alloc | apply pw_below_drewN | apply below_drew1) | exact HB.out)⟩⟩
                            · rw [if_neg c29] at H
                              exact absurd H (by simp)
                          · rw [if_neg c28] at H
                            exact absurd H (by simp)
                        · rw [if_neg c27] at H
                          exact absurd H (by simp)
                      · rw [if_neg c26] at H
                        exact absurd H (by simp)
                    · rw [if_neg c25] at H
                      exact absurd H (by simp)
                  · rw [if_neg c24] at H
                    have c24b0 : decide (x8_3 < (l0.length : Int)) = false := decide_eq_false c24
                    clear c24
                    replace H := Option.bind_eq_some_iff.mp H
                    obtain ⟨t132, A450, H⟩ := H
                    replace H : ((matrix_Rank.f l0).bind fun t133 => (if t132 = t133 then ((kinkeepref04_Reduce.f l0).bind fun bt135 => (if t104 = 0 then ((kinkeepref04_Cols.f l0).bind fun t141 => (kinkeeplaw04_MatrixSolves.j3 k3 l0 l1 t103 bt135.2 ((t103.length : Int) != t141))) else (kinkeeplaw04_MatrixSolves.j3 k3 l0 l1 t103 bt135.2 true))) else ((kinkeeplaw04_awake.f).bind fun t134 => (if t134 = true then (if t104 = 4 then (some ((t103.length : Int) == 0)) else (some false)) else (some false))))) = some r := H
                    have A45 := Aside0.mk A450
                    clear A450
                    replace H := Option.bind_eq_some_iff.mp H
                    obtain ⟨t133, A460, H⟩ := H
                    replace H : (if t132 = t133 then ((kinkeepref04_Reduce.f l0).bind fun bt135 => (if t104 = 0 then ((kinkeepref04_Cols.f l0).bind fun t141 => (kinkeeplaw04_MatrixSolves.j3 k3 l0 l1 t103 bt135.2 ((t103.length : Int) != t141))) else (kinkeeplaw04_MatrixSolves.j3 k3 l0 l1 t103 bt135.2 true))) else ((kinkeeplaw04_awake.f).bind fun t134 => (if t134 = true then (if t104 = 4 then (some ((t103.length : Int) == 0)) else (some false)) else (some false)))) = some r := H
                    have A46 := Aside0.mk A460
                    clear A460
                    by_cases c47 : t132 = t133
                    · rw [if_pos c47] at H
                      have c47b0 : (t132 == t133) = true := beq_iff_eq.mpr c47
                      have c47b1 : (t132 != t133) = false := bne_eq_false_iff_eq.mpr c47
                      clear c47
                      replace H := Option.bind_eq_some_iff.mp H
                      obtain ⟨⟨t135, t136⟩, A480, H⟩ := H
                      replace H : (if t104 = 0 then ((kinkeepref04_Cols.f l0).bind fun t141 => (kinkeeplaw04_MatrixSolves.j3 k3 l0 l1 t103 t136 ((t103.length : Int) != t141))) else (kinkeeplaw04_MatrixSolves.j3 k3 l0 l1 t103 t136 true)) = some r := H
                      have A48 := Aside0.mk A480
                      clear A480
                      have HC49 := Aside0.mk H
                      clear H
                      obtain ⟨Ao50, co50, eo50⟩ := Kd.N_slice HO_7.out
                      subst eo50
                      go_upto_region 14 with (first | ((with_reducible refine gate_callee (f := 28) rfl ?_); refine goesL_ (some 70) rfl rfl Try.func28 (by kernel_rfl) rfl #[.slice Ao50 x7_3.length co50] rfl (by (try simp only [List.map_toArray, List.map_cons, List.map_nil]); first | done | rfl | (simp only [List.length_drop, List.length_take]; rfl)) ?_; (with_reducible refine (matrix_Rank.calls _ _ x7_3 t132 _ ?side1 ?side2 A45.out).mono ?_); (case side1 => repeat (first | exact (Kd.N_reads' HO_7.out).2.2 | (with_reducible refine Kd.C_alloc ?_ _) | (with_reducible refine Kd.C_drewN ?_ _) | (with_reducible refine Kd.C_drew ?_))); (case side2 => exact (Kd.N_reads' HO_7.out).2.1); rintro e w51 ⟨rfl, hb⟩; refine ⟨_, rfl, ?_⟩; have n0_ := Aside0.mk (Kd.R_below (by (with_reducible repeat (first | apply Kd.R_alloc | apply Kd.R_drewN | apply Kd.R_drew)); exact HO_5.out) hb); have n1_ := Aside0.mk (Kd.N_below (by (with_reducible repeat (first | apply Kd.N_alloc | apply Kd.N_drewN | apply Kd.N_drew)); exact HO_7.out) hb); have n2_ := Aside0.mk (below_step (by repeat (first | (with_reducible first | exact HB.out | apply below_alloc | apply pw_below_drewN | apply below_drew1) | exact HB.out)) hb); clear HO_5; clear HO_7; clear HB; have HO_5 := n0_; have HO_7 := n1_; have HB := n2_; clear n0_ n1_ n2_; (try clear hb); (try clear hb2); (try clear hk); (try clear hi)) | ((with_reducible refine gate_callee (f := 28) rfl ?_); refine goesL_ (some 72) rfl rfl Try.func28 (by kernel_rfl) rfl #[.slice A0 l0.length c0] rfl (by (try simp only [List.map_toArray, List.map_cons, List.map_nil]); first | done | rfl | (simp only [List.length_drop, List.length_take]; rfl)) ?_; (with_reducible refine (matrix_Rank.calls _ _ l0 t133 _ ?side1 ?side2 A46.out).mono ?_); (case side1 => repeat (first | exact (Kd.C_below HR0.out HB.out) | (with_reducible refine Kd.C_alloc ?_ _) | (with_reducible refine Kd.C_drewN ?_ _) | (with_reducible refine Kd.C_drew ?_))); (case side2 => exact HC0.out); rintro e w52 ⟨rfl, hb⟩; refine ⟨_, rfl, ?_⟩; have n0_ := Aside0.mk (Kd.R_below (by (with_reducible repeat (first | apply Kd.R_alloc | apply Kd.R_drewN | apply Kd.R_drew)); exact HO_5.out) hb); have n1_ := Aside0.mk (Kd.N_below (by (with_reducible repeat (first | apply Kd.N_alloc | apply Kd.N_drewN | apply Kd.N_drew)); exact HO_7.out) hb); have n2_ := Aside0.mk (below_step (by repeat (first | (with_reducible first | exact HB.out | apply below_alloc | apply pw_below_drewN | apply below_drew1) | exact HB.out)) hb); clear HO_5; clear HO_7; clear HB; have HO_5 := n0_; have HO_7 := n1_; have HB := n2_; clear n0_ n1_ n2_; (try clear hb); (try clear hb2); (try clear hk); (try clear hi)) | ((with_reducible refine gate_callee (f := 20) rfl ?_); refine goesL_ (some 86) rfl rfl Try.func20 (by kernel_rfl) rfl #[.slice A0 l0.length c0] rfl (by (try simp only [List.map_toArray, List.map_cons, List.map_nil]); first | done | rfl | (simp only [List.length_drop, List.length_take]; rfl)) ?_; (with_reducible refine (kinkeepref04_Reduce.calls _ _ l0 t135 t136 _ ?side1 ?side2 A48.out).mono ?_); (case side1 => repeat (first | exact (Kd.C_below HR0.out HB.out) | (with_reducible refine Kd.C_alloc ?_ _) | (with_reducible refine Kd.C_drewN ?_ _) | (with_reducible refine Kd.C_drew ?_))); (case side2 => exact HC0.out); rintro e w53 ⟨v137, v139, rfl, ho0, ho1, hb⟩; refine ⟨_, rfl, ?_⟩; have n0_ := Aside0.mk (Kd.R_below (by (with_reducible repeat (first | apply Kd.R_alloc | apply Kd.R_drewN | apply Kd.R_drew)); exact HO_5.out) hb); have n1_ := Aside0.mk (Kd.N_mono (Kd.N_told (Kd.N_told (Kd.N_old (by (with_reducible repeat (first | apply Kd.N_alloc | apply Kd.N_drewN | apply Kd.N_drew)); exact HO_7.out) hb) (by first | exact Kd.N_base ho0 | exact Kd.S_base ho0)) (Kd.R_base ho1)) (fun _ h_ => h_.1)); have n2_ := Aside0.mk (Kd.N_lower (Kd.N_mono (ok' := fun k_ => some k_ ≠ (v139 : Value).ownBlock ∧ some k_ ≠ (v105 : Value).ownBlock ∧ some k_ ≠ (.slice Ao50 x7_3.length co50 : Value).ownBlock) (Kd.S_N (Kd.S_bound (Kd.S_apart' ho0 (Kd.R_typed ho1) (by decide)))) (fun k_ hk_ => ⟨hk_.1.2, (Kd.fresh' (Kd.R_lt (by (with_reducible repeat (first | apply Kd.R_alloc | apply Kd.R_drewN | apply Kd.R_drew)); exact HO_5.out)) k_ hk_.2.1), (Kd.fresh' (Kd.N_lt (by (with_reducible repeat (first | apply Kd.N_alloc | apply Kd.N_drewN | apply Kd.N_drew)); exact HO_7.out)) k_ hk_.2.1)⟩)) (below_size (by repeat (first | (with_reducible first | exact HB.out | apply below_alloc | apply pw_below_drewN | apply below_drew1) | exact HB.out)))); have n3_ := Aside0.mk (Kd.R_lower ho1 (below_size (by repeat (first | (with_reducible first | exact HB.out | apply below_alloc | apply pw_below_drewN | apply below_drew1) | exact HB.out)))); have n4_ := Aside0.mk (below_step (by repeat (first | (with_reducible first | exact HB.out | apply below_alloc | apply pw_below_drewN | apply below_drew1) | exact HB.out)) hb); clear HO_5; clear HO_7; clear HB; have HO_5 := n0_; have HO_7 := n1_; have HO138 := n2_; have HO140 := n3_; have HB := n4_; clear n0_ n1_ n2_ n3_ n4_; (try clear hb); (try clear hb2); (try clear hk); (try clear hi); (try clear ho0); (try clear ho1)))
                      (try simp only [Act.put, List.setIfInBounds_toArray, List.set_cons_zero, List.set_cons_succ])
                      go_cut [97] (fun v97 wc => ∃ (kq : Nat) (x97_48 : Bool), v97 = .bool x97_48 ∧ Aside0 (kinkeeplaw04_MatrixSolves.j3 kq l0 l1 t103 t136 x97_48 = some r) ∧ Aside0 (kq ≤ k3) ∧ Aside0 (Kd.R (Kd.int .u8) 5 wc w.heap.size (fun _ => True) v105 t103) ∧ Aside0 (Kd.R (Kd.int .i64) 3 wc w.heap.size (fun _ => True) v139 t136) ∧ Aside0 (Below w.heap.size w wc))
                      case first =>
                        have H := HC49.out
                        clear HC49
                        by_cases c54 : t104 = 0
                        · rw [if_pos c54] at H
                          have c54b0 : (t104 == 0) = true := beq_iff_eq.mpr c54
                          have c54b1 : (t104 != 0) = false := bne_eq_false_iff_eq.mpr c54
                          clear c54
                          (first | rw [c54b0] | rw [c54b1] | rw [c54b2] | (simp only [i64_w, i32_w]; rw [c54b0]) | skip)
                          replace H := Option.bind_eq_some_iff.mp H
                          obtain ⟨t141, A550, H⟩ := H
                          replace H : (kinkeeplaw04_MatrixSolves.j3 k3 l0 l1 t103 t136 ((t103.length : Int) != t141)) = some r := H
                          have A55 := Aside0.mk A550
                          clear A550
                          have H' := Aside0.mk H
                          clear H
                          obtain ⟨Ao56, co56, eo56⟩ := Kd.R_slice HO_5.out
                          subst eo56
                          go_wp2_with (first | (go_at_call 21; (with_reducible refine (kinkeepref04_Cols.calls _ _ l0 t141 _ ?side1 ?side2 A55.out).mono ?_); (case side1 => repeat (first | exact (Kd.C_below HR0.out HB.out) | (with_reducible refine Kd.C_alloc ?_ _) | (with_reducible refine Kd.C_drewN ?_ _) | (with_reducible refine Kd.C_drew ?_))); (case side2 => exact HC0.out); rintro e w' ⟨rfl, ⟨nd, rfl⟩⟩))
                          go_meet
                          case rel => exact ⟨_, (((t103.length : Int) != t141)), (by first | rfl | (simp; done) | (simp [*]; done)), H', ⟨by have := HJ2.out; have := HJ9.out; have := HK3.out; first | omega | exact Nat.le_refl _⟩, ⟨by (with_reducible repeat (first | apply Kd.R_alloc | apply Kd.R_drewN | apply Kd.R_drew)); exact HO_5.out⟩, ⟨by (with_reducible repeat (first | apply Kd.R_alloc | apply Kd.R_drewN | apply Kd.R_drew)); exact HO140.out⟩, ⟨by repeat (first | (with_reducible first | exact HB.out | apply below_alloc | apply pw_below_drewN | apply below_drew1) | exact HB.out)⟩⟩
                        · rw [if_neg c54] at H
                          have c54b0 : (t104 == 0) = false := beq_eq_false_iff_ne.mpr c54
                          have c54b1 : (t104 != 0) = true := bne_iff_ne.mpr c54
                          (first | rw [c54b0] | rw [c54b1] | rw [c54b2] | (simp only [i64_w, i32_w]; rw [c54b0]) | skip)
                          have H' := Aside0.mk H
                          clear H
                          go_wp2
                          go_meet
                          case rel => exact ⟨_, (true), (by first | rfl | (simp; done) | (simp [*]; done)), H', ⟨by have := HJ2.out; have := HJ9.out; have := HK3.out; first | omega | exact Nat.le_refl _⟩, ⟨by (with_reducible repeat (first | apply Kd.R_alloc | apply Kd.R_drewN | apply Kd.R_drew)); exact HO_5.out⟩, ⟨by (with_reducible repeat (first | apply Kd.R_alloc | apply Kd.R_drewN | apply Kd.R_drew)); exact HO140.out⟩, ⟨by repeat (first | (with_reducible first | exact HB.out | apply below_alloc | apply pw_below_drewN | apply below_drew1) | exact HB.out)⟩⟩
                      case rest =>
                        clear HC49; (try clear c1); (try clear p1); (try clear q1); (try clear hx1); (try clear c2); (try clear p2); (try clear c4); (try clear c5); (try clear p6); (try clear c11); (try clear p11); (try clear q11); (try clear hx11); (try clear c20); (try clear c24); (try clear c24b0); (try clear c25); (try clear c25b0); (try clear c26); (try clear c27); (try clear c27b0); (try clear c28); (try clear c29); (try clear c47); (try clear c47b0); (try clear c47b1); (try clear c54); (try clear c54b0); (try clear c54b1); (try clear hx115_0); (try clear hx119_0); (try clear p115); (try clear p119); (try clear q115); (try clear q119)
                        obtain ⟨kq, x97_48, rfl, HA, HJ48, HO_5, HO_10, HB⟩ := hcut
                        cases kq with
                        | zero => exact absurd HA.out (by simp [kinkeeplaw04_MatrixSolves.j3])
                        | succ kj48 =>
                          have H := HA.out
                          clear HA
                          simp only [kinkeeplaw04_MatrixSolves.j3] at H
                          by_cases c57 : x97_48 = true
                          · subst c57
                            have H1 : (some false) = some r := by rw [if_pos rfl] at H; exact H
                            clear H
                            have H := H1
                            clear H1
                            obtain rfl := Option.some.inj H
                            exact absurd HRT.out (by decide)
                          · replace c57 := Bool.eq_false_iff.mpr c57
                            subst c57
                            have H1 : (kinkeeplaw04_MatrixSolves.l1 kj48 l0 l1 t103 t136 0) = some r := by rw [if_neg (show ¬ (false = true) by decide)] at H; exact H
                            clear H
                            have H := H1
                            clear H1
                            have H' := Aside0.mk H
                            clear H
                            go_wp2
                            go_loopg [11] kj48 (fun kq v11 w' => ∃ (x11_5 : Int), v11 = .int .i64 x11_5 ∧ Aside0 (kinkeeplaw04_MatrixSolves.l1 kq l0 l1 t103 t136 x11_5 = some r) ∧ Aside0 (kq ≤ kj48) ∧ Aside0 (Kd.R (Kd.int .u8) 5 w' w.heap.size (fun _ => True) v105 t103) ∧ Aside0 (Kd.R (Kd.int .i64) 3 w' w.heap.size (fun _ => True) v139 t136) ∧ Aside0 (Below w.heap.size w w'))
                            case atStart => exact ⟨(0), (by first | rfl | (simp; done) | (simp [*]; done)), H', ⟨Nat.le_refl _⟩, ⟨by (with_reducible repeat (first | apply Kd.R_alloc | apply Kd.R_drewN | apply Kd.R_drew)); exact HO_5.out⟩, ⟨by (with_reducible repeat (first | apply Kd.R_alloc | apply Kd.R_drewN | apply Kd.R_drew)); exact HO_10.out⟩, ⟨by repeat (first | (with_reducible first | exact HB.out | apply below_alloc | apply pw_below_drewN | apply below_drew1) | exact HB.out)⟩⟩
                            case round =>
                              clear H'; (try clear c1); (try clear p1); (try clear q1); (try clear hx1); (try clear c2); (try clear p2); (try clear c4); (try clear c5); (try clear p6); (try clear c11); (try clear p11); (try clear q11); (try clear hx11); (try clear c20); (try clear c24); (try clear c24b0); (try clear c25); (try clear c25b0); (try clear c26); (try clear c27); (try clear c27b0); (try clear c28); (try clear c29); (try clear c47); (try clear c47b0); (try clear c47b1); (try clear c54); (try clear c54b0); (try clear c54b1); (try clear c57); (try clear hx115_0); (try clear hx119_0); (try clear p1); (try clear p11); (try clear p115); (try clear p119); (try clear p2); (try clear p6); (try clear q1); (try clear q11); (try clear q115); (try clear q119)
                              obtain ⟨x11_5, rfl, HA, HK5, HO_5, HO_10, HB⟩ := hrel
                              cases gk with
                              | zero => exact absurd HA.out (by simp [kinkeeplaw04_MatrixSolves.l1])
                              | succ k5 =>
                                have H := HA.out
                                clear HA
                                simp only [kinkeeplaw04_MatrixSolves.l1] at H
                                by_cases c58 : x11_5 < (t103.length : Int)
                                · rw [if_pos c58] at H
                                  have c58b0 : decide (x11_5 < (t103.length : Int)) = true := decide_eq_true c58
                                  clear c58
                                  replace H := Option.bind_eq_some_iff.mp H
                                  obtain ⟨t142, A590, H⟩ := H
                                  replace H : (if t142 = true then (if 0 ≤ x11_5 then (if (rd t103 x11_5) = 0 then (kinkeeplaw04_MatrixSolves.l1 k5 l0 l1 t103 t136 (wrap64 (x11_5 + 1))) else (some false)) else (none)) else (kinkeeplaw04_MatrixSolves.l1 k5 l0 l1 t103 t136 (wrap64 (x11_5 + 1)))) = some r := H
                                  have A59 := Aside0.mk A590
                                  clear A590
                                  by_cases c60 : t142 = true
                                  · subst c60
                                    have H1 : (if 0 ≤ x11_5 then (if (rd t103 x11_5) = 0 then (kinkeeplaw04_MatrixSolves.l1 k5 l0 l1 t103 t136 (wrap64 (x11_5 + 1))) else (some false)) else (none)) = some r := by rw [if_pos rfl] at H; exact H
                                    clear H
                                    have H := H1
                                    clear H1
                                    by_cases c61 : 0 ≤ x11_5
                                    · rw [if_pos c61] at H
                                      have c61b0 : decide (0 ≤ x11_5) = true := decide_eq_true c61
                                      clear c61
                                      by_cases c62 : (rd t103 x11_5) = 0
                                      · rw [if_pos c62] at H
                                        have c62b0 : ((rd t103 x11_5) == 0) = true := beq_iff_eq.mpr c62
                                        have c62b1 : ((rd t103 x11_5) != 0) = false := bne_eq_false_iff_eq.mpr c62
                                        clear c62
                                        have H' := Aside0.mk H
                                        clear H
                                        obtain ⟨Ao63, co63, eo63⟩ := Kd.R_slice HO_5.out
                                        subst eo63
                                        obtain ⟨Ao64, co64, eo64⟩ := Kd.R_slice HO_10.out
                                        subst eo64
                                        go_wp2_with (first | ((with_reducible refine gate_callee (f := 22) rfl ?_); refine goesL_ (some 106) rfl rfl Try.func22 (by kernel_rfl) rfl #[.slice Ao64 t136.length co64, .int .i64 x11_5] rfl (by (try simp only [List.map_toArray, List.map_cons, List.map_nil]); first | done | rfl | (simp only [List.length_drop, List.length_take]; rfl)) ?_; (with_reducible refine (kinkeeplaw04_free.calls k5 _ _ t136 x11_5 true _ ?side1 ?side2 A59.out).mono ?_); (case side1 => repeat (first | exact (Kd.R_reads' HO_10.out).2.2 | (with_reducible refine Kd.C_alloc ?_ _) | (with_reducible refine Kd.C_drewN ?_ _) | (with_reducible refine Kd.C_drew ?_))); (case side2 => exact (Kd.R_reads' HO_10.out).2.1); rintro e w' ⟨rfl, ⟨nd, rfl⟩⟩; refine ⟨_, rfl, ?_⟩; have p143 : 0 ≤ (x11_5 : Int) := of_decide_eq_true (by first | (with_reducible assumption) | assumption); have q143 : x11_5 < (t103.length : Int) := of_decide_eq_true (by first | (with_reducible assumption) | assumption); obtain ⟨ad143, e143, hx143_0⟩ := Kd.at_int (Kd.R_reads' HO_5.out).2.2 x11_5 p143 q143; cases e143; replace p143 := eq_true p143; replace q143 := eq_true q143))
                                        go_roundg k5
                                        case measure => have := HJ2.out; have := HJ9.out; have := HK3.out; have := HJ48.out; have := HK5.out; omega
                                        case rel => exact ⟨(wrap64 (x11_5 + 1)), (by first | rfl | (simp; done) | (simp [*]; done)), H', ⟨by have := HJ2.out; have := HJ9.out; have := HK3.out; have := HJ48.out; have := HK5.out; omega⟩, ⟨by (with_reducible repeat (first | apply Kd.R_alloc | apply Kd.R_drewN | apply Kd.R_drew)); exact HO_5.out⟩, ⟨by (with_reducible repeat (first | apply Kd.R_alloc | apply Kd.R_drewN | apply Kd.R_drew)); exact HO_10.out⟩, ⟨by repeat (first | (with_reducible first | exact HB.out | apply below_alloc | apply pw_below_drewN | apply below_drew1) | exact HB.out)⟩⟩
                                      · rw [if_neg c62] at H
                                        have c62b0 : ((rd t103 x11_5) == 0) = false := beq_eq_false_iff_ne.mpr c62
                                        have c62b1 : ((rd t103 x11_5) != 0) = true := bne_iff_ne.mpr c62
                                        obtain rfl := Option.some.inj H
                                        exact absurd HRT.out (by decide)
                                    · rw [if_neg c61] at H
                                      exact absurd H (by simp)
                                  · replace c60 := Bool.eq_false_iff.mpr c60
                                    subst c60
                                    have H1 : (kinkeeplaw04_MatrixSolves.l1 k5 l0 l1 t103 t136 (wrap64 (x11_5 + 1))) = some r := by rw [if_neg (show ¬ (false = true) by decide)] at H; exact H
                                    clear H
                                    have H := H1
                                    clear H1
                                    have H' := Aside0.mk H
                                    clear H
                                    obtain ⟨Ao67, co67, eo67⟩ := Kd.R_slice HO_5.out
                                    subst eo67
                                    obtain ⟨Ao68, co68, eo68⟩ := Kd.R_slice HO_10.out
                                    subst eo68
                                    go_wp2_with (first | ((with_reducible refine gate_callee (f := 22) rfl ?_); refine goesL_ (some 106) rfl rfl Try.func22 (by kernel_rfl) rfl #[.slice Ao68 t136.length co68, .int .i64 x11_5] rfl (by (try simp only [List.map_toArray, List.map_cons, List.map_nil]); first | done | rfl | (simp only [List.length_drop, List.length_take]; rfl)) ?_; (with_reducible refine (kinkeeplaw04_free.calls k5 _ _ t136 x11_5 false _ ?side1 ?side2 A59.out).mono ?_); (case side1 => repeat (first | exact (Kd.R_reads' HO_10.out).2.2 | (with_reducible refine Kd.C_alloc ?_ _) | (with_reducible refine Kd.C_drewN ?_ _) | (with_reducible refine Kd.C_drew ?_))); (case side2 => exact (Kd.R_reads' HO_10.out).2.1); rintro e w' ⟨rfl, ⟨nd, rfl⟩⟩; refine ⟨_, rfl, ?_⟩))
                                    go_roundg k5
                                    case measure => have := HJ2.out; have := HJ9.out; have := HK3.out; have := HJ48.out; have := HK5.out; omega
                                    case rel => exact ⟨(wrap64 (x11_5 + 1)), (by first | rfl | (simp; done) | (simp [*]; done)), H', ⟨by have := HJ2.out; have := HJ9.out; have := HK3.out; have := HJ48.out; have := HK5.out; omega⟩, ⟨by (with_reducible repeat (first | apply Kd.R_alloc | apply Kd.R_drewN | apply Kd.R_drew)); exact HO_5.out⟩, ⟨by (with_reducible repeat (first | apply Kd.R_alloc | apply Kd.R_drewN | apply Kd.R_drew)); exact HO_10.out⟩, ⟨by repeat (first | (with_reducible first | exact HB.out | apply below_alloc | apply pw_below_drewN | apply below_drew1) | exact HB.out)⟩⟩
                                · rw [if_neg c58] at H
                                  have c58b0 : decide (x11_5 < (t103.length : Int)) = false := decide_eq_false c58
                                  clear c58
                                  replace H := Option.bind_eq_some_iff.mp H
                                  obtain ⟨t144, A690, H⟩ := H
                                  replace H : (if t144 = true then ((kinkeeplaw04_column.f k5 t103).bind fun t145 => ((kinkeepref04_Product.f k5 l0 t145).bind fun t148 => ((kinkeeplaw04_column.f k5 l1).bind fun t151 => ((kinkeepref04_Same.f k5 t148 t151).bind fun t154 => (if t154 = true then (some true) else ((kinkeeplaw04_awake.f).bind fun t155 => (if t155 = true then (if (l0.length : Int) > 0 then ((kinkeepref04_Cols.f l0).bind fun t156 => (if t156 = 0 then (some ((t103.length : Int) == 0)) else (some false))) else (some false)) else (some false)))))))) else ((kinkeeplaw04_awake.f).bind fun t157 => (if t157 = true then (if (l0.length : Int) > 0 then ((kinkeepref04_Cols.f l0).bind fun t158 => (if t158 = 0 then (some ((t103.length : Int) == 0)) else (some false))) else (some false)) else (some false)))) = some r := H
                                  have A69 := Aside0.mk A690
                                  clear A690
                                  by_cases c70 : t144 = true
                                  · subst c70
                                    have H1 : ((kinkeeplaw04_column.f k5 t103).bind fun t145 => ((kinkeepref04_Product.f k5 l0 t145).bind fun t148 => ((kinkeeplaw04_column.f k5 l1).bind fun t151 => ((kinkeepref04_Same.f k5 t148 t151).bind fun t154 => (if t154 = true then (some true) else ((kinkeeplaw04_awake.f).bind fun t155 => (if t155 = true then (if (l0.length : Int) > 0 then ((kinkeepref04_Cols.f l0).bind fun t156 => (if t156 = 0 then (some ((t103.length : Int) == 0)) else (some false))) else (some false)) else (some false)))))))) = some r := by rw [if_pos rfl] at H; exact H
                                    clear H
                                    have H := H1
                                    clear H1
                                    replace H := Option.bind_eq_some_iff.mp H
                                    obtain ⟨t145, A710, H⟩ := H
                                    replace H : ((kinkeepref04_Product.f k5 l0 t145).bind fun t148 => ((kinkeeplaw04_column.f k5 l1).bind fun t151 => ((kinkeepref04_Same.f k5 t148 t151).bind fun t154 => (if t154 = true then (some true) else ((kinkeeplaw04_awake.f).bind fun t155 => (if t155 = true then (if (l0.length : Int) > 0 then ((kinkeepref04_Cols.f l0).bind fun t156 => (if t156 = 0 then (some ((t103.length : Int) == 0)) else (some false))) else (some false)) else (some false))))))) = some r := H
                                    have A71 := Aside0.mk A710
                                    clear A710
                                    replace H := Option.bind_eq_some_iff.mp H
                                    obtain ⟨t148, A720, H⟩ := H
                                    replace H : ((kinkeeplaw04_column.f k5 l1).bind fun t151 => ((kinkeepref04_Same.f k5 t148 t151).bind fun t154 => (if t154 = true then (some true) else ((kinkeeplaw04_awake.f).bind fun t155 => (if t155 = true then (if (l0.length : Int) > 0 then ((kinkeepref04_Cols.f l0).bind fun t156 => (if t156 = 0 then (some ((t103.length : Int) == 0)) else (some false))) else (some false)) else (some false)))))) = some r := H
                                    have A72 := Aside0.mk A720
                                    clear A720
                                    replace H := Option.bind_eq_some_iff.mp H
                                    obtain ⟨t151, A730, H⟩ := H
                                    replace H : ((kinkeepref04_Same.f k5 t148 t151).bind fun t154 => (if t154 = true then (some true) else ((kinkeeplaw04_awake.f).bind fun t155 => (if t155 = true then (if (l0.length : Int) > 0 then ((kinkeepref04_Cols.f l0).bind fun t156 => (if t156 = 0 then (some ((t103.length : Int) == 0)) else (some false))) else (some false)) else (some false))))) = some r := H
                                    have A73 := Aside0.mk A730
                                    clear A730
                                    replace H := Option.bind_eq_some_iff.mp H
                                    obtain ⟨t154, A740, H⟩ := H
                                    replace H : (if t154 = true then (some true) else ((kinkeeplaw04_awake.f).bind fun t155 => (if t155 = true then (if (l0.length : Int) > 0 then ((kinkeepref04_Cols.f l0).bind fun t156 => (if t156 = 0 then (some ((t103.length : Int) == 0)) else (some false))) else (some false)) else (some false)))) = some r := H
                                    have A74 := Aside0.mk A740
                                    clear A740
                                    by_cases c75 : t154 = true
                                    · subst c75
                                      have H1 : (some true) = some r := by rw [if_pos rfl] at H; exact H
                                      clear H
                                      have H := H1
                                      clear H1
                                      obtain rfl := Option.some.inj H
                                      obtain ⟨Ao76, co76, eo76⟩ := Kd.R_slice HO_5.out
                                      subst eo76
                                      go_wp2_with (first | ((with_reducible refine skip_at _ _ _ _ _ 10 false ?skw ?_); case skw => kernel_rfl) | ((with_reducible refine skip_at _ _ _ _ _ 12 true ?skw ?_); case skw => kernel_rfl) | ((with_reducible refine skip_at _ _ _ _ _ 17 true ?skw ?_); case skw => kernel_rfl) | ((with_reducible refine skip_at _ _ _ _ _ 22 true ?skw ?_); case skw => kernel_rfl) | ((with_reducible refine gate_callee (f := 16) rfl ?_); refine goesL_ (some 114) rfl rfl Try.func16 (by kernel_rfl) rfl #[] rfl (by (try simp only [List.map_toArray, List.map_cons, List.map_nil]); first | done | rfl | (simp only [List.length_drop, List.length_take]; rfl)) ?_; (with_reducible refine (kinkeeplaw04_awake.calls  true _ A69.out).mono ?_); rintro e w77 ⟨rfl, hb⟩; refine ⟨_, rfl, ?_⟩; have n0_ := Aside0.mk (Kd.R_below (by (with_reducible repeat (first | apply Kd.R_alloc | apply Kd.R_drewN | apply Kd.R_drew)); exact HO_5.out) hb); have n1_ := Aside0.mk (Kd.R_below (by (with_reducible repeat (first | apply Kd.R_alloc | apply Kd.R_drewN | apply Kd.R_drew)); exact HO_10.out) hb); have n2_ := Aside0.mk (below_step (by repeat (first | (with_reducible first | exact HB.out | apply below_alloc | apply pw_below_drewN | apply below_drew1) | exact HB.out)) hb); clear HO_5; clear HO_10; clear HB; have HO_5 := n0_; have HO_10 := n1_; have HB := n2_; clear n0_ n1_ n2_; (try clear hb); (try clear hb2); (try clear hk); (try clear hi)) | (go_at_call 25; (with_reducible refine (kinkeeplaw04_column.calls k5 _ _ t103 t145 _ ?side1 ?side2 A71.out).mono ?_); (case side1 => repeat (first | exact (Kd.R_reads' HO_5.out).2.2 | (with_reducible refine Kd.C_alloc ?_ _) | (with_reducible refine Kd.C_drewN ?_ _) | (with_reducible refine Kd.C_drew ?_))); (case side2 => exact (Kd.R_reads' HO_5.out).2.1); rintro e w78 ⟨v146, rfl, ho0, hb⟩; have n0_ := Aside0.mk (Kd.R_below (by (with_reducible repeat (first | apply Kd.R_alloc | apply Kd.R_drewN | apply Kd.R_drew)); exact HO_5.out) hb); have n1_ := Aside0.mk (Kd.R_below (by (with_reducible repeat (first | apply Kd.R_alloc | apply Kd.R_drewN | apply Kd.R_drew)); exact HO_10.out) hb); have n2_ := Aside0.mk (Kd.N_lower (Kd.N_mono (ok' := fun k_ => some k_ ≠ (.slice Ao76 t103.length co76 : Value).ownBlock ∧ some k_ ≠ (v139 : Value).ownBlock) (Kd.S_N (Kd.S_bound ho0)) (fun k_ hk_ => ⟨(Kd.fresh' (Kd.R_lt (by (with_reducible repeat (first | apply Kd.R_alloc | apply Kd.R_drewN | apply Kd.R_drew)); exact HO_5.out)) k_ hk_.2.1), (Kd.fresh' (Kd.R_lt (by (with_reducible repeat (first | apply Kd.R_alloc | apply Kd.R_drewN | apply Kd.R_drew)); exact HO_10.out)) k_ hk_.2.1)⟩)) (below_size (by repeat (first | (with_reducible first | exact HB.out | apply below_alloc | apply pw_below_drewN | apply below_drew1) | exact HB.out)))); have n3_ := Aside0.mk (below_step (by repeat (first | (with_reducible first | exact HB.out | apply below_alloc | apply pw_below_drewN | apply below_drew1) | exact HB.out)) hb); clear HO_5; clear HO_10; clear HB; have HO_5 := n0_; have HO_10 := n1_; have HO147 := n2_; have HB := n3_; clear n0_ n1_ n2_ n3_; (try clear hb); (try clear hb2); (try clear hk); (try clear hi); (try clear ho0); obtain ⟨Ao79, co79, eo79⟩ := Kd.N_slice HO147.out; subst eo79) | (go_at_call 24; (with_reducible refine (kinkeepref04_Product.calls k5 _ _ l0 _ _ t145 t148 _ ?side1 ?side2 ?side3 ?side4 A72.out).mono ?_); (case side1 => repeat (first | exact (Kd.C_below HR0.out HB.out) | (with_reducible refine Kd.C_alloc ?_ _) | (with_reducible refine Kd.C_drewN ?_ _) | (with_reducible refine Kd.C_drew ?_))); (case side2 => exact HC0.out); (case side3 => repeat (first | exact (Kd.N_reads' HO147.out).2.2 | (with_reducible refine Kd.C_alloc ?_ _) | (with_reducible refine Kd.C_drewN ?_ _) | (with_reducible refine Kd.C_drew ?_))); (case side4 => exact (Kd.N_reads' HO147.out).2.1); rintro e w80 ⟨v149, rfl, ho0, hb⟩; have n0_ := Aside0.mk (Kd.R_below (by (with_reducible repeat (first | apply Kd.R_alloc | apply Kd.R_drewN | apply Kd.R_drew)); exact HO_5.out) hb); have n1_ := Aside0.mk (Kd.R_below (by (with_reducible repeat (first | apply Kd.R_alloc | apply Kd.R_drewN | apply Kd.R_drew)); exact HO_10.out) hb); have n2_ := Aside0.mk (Kd.N_elder' (by (with_reducible repeat (first | apply Kd.N_alloc | apply Kd.N_drewN | apply Kd.N_drew)); exact HO147.out) (by first | exact Kd.N_base ho0 | exact Kd.S_base ho0) hb); have n3_ := Aside0.mk (Kd.N_lower (Kd.N_mono (ok' := fun k_ => some k_ ≠ (.slice Ao76 t103.length co76 : Value).ownBlock ∧ some k_ ≠ (v139 : Value).ownBlock ∧ some k_ ≠ (.slice Ao79 t145.length co79 : Value).ownBlock) (Kd.S_N (Kd.S_bound ho0)) (fun k_ hk_ => ⟨(Kd.fresh' (Kd.R_lt (by (with_reducible repeat (first | apply Kd.R_alloc | apply Kd.R_drewN | apply Kd.R_drew)); exact HO_5.out)) k_ hk_.2.1), (Kd.fresh' (Kd.R_lt (by (with_reducible repeat (first | apply Kd.R_alloc | apply Kd.R_drewN | apply Kd.R_drew)); exact HO_10.out)) k_ hk_.2.1), (Kd.fresh' (Kd.N_lt (by (with_reducible repeat (first | apply Kd.N_alloc | apply Kd.N_drewN | apply Kd.N_drew)); exact HO147.out)) k_ hk_.2.1)⟩)) (below_size (by repeat (first | (with_reducible first | exact HB.out | apply below_alloc | apply pw_below_drewN | apply below_drew1) | exact HB.out)))); have n4_ := Aside0.mk (below_step (by repeat (first | (with_reducible first | exact HB.out | apply below_alloc | apply pw_below_drewN | apply below_drew1) | exact HB.out)) hb); clear HO_5; clear HO_10; clear HO147; clear HB; have HO_5 := n0_; have HO_10 := n1_; have HO147 := n2_; have HO150 := n3_; have HB := n4_; clear n0_ n1_ n2_ n3_ n4_; (try clear hb); (try clear hb2); (try clear hk); (try clear hi); (try clear ho0)) | (go_at_call 25; (with_reducible refine (kinkeeplaw04_column.calls k5 _ _ l1 t151 _ ?side1 ?side2 A73.out).mono ?_); (case side1 => repeat (first | exact (Kd.C_below HR1.out HB.out) | (with_reducible refine Kd.C_alloc ?_ _) | (with_reducible refine Kd.C_drewN ?_ _) | (with_reducible refine Kd.C_drew ?_))); (case side2 => exact HC1.out); rintro e w81 ⟨v152, rfl, ho0, hb⟩; have n0_ := Aside0.mk (Kd.R_below (by (with_reducible repeat (first | apply Kd.R_alloc | apply Kd.R_drewN | apply Kd.R_drew)); exact HO_5.out) hb); have n1_ := Aside0.mk (Kd.R_below (by (with_reducible repeat (first | apply Kd.R_alloc | apply Kd.R_drewN | apply Kd.R_drew)); exact HO_10.out) hb); have n2_ := Aside0.mk (Kd.N_elder' (by (with_reducible repeat (first | apply Kd.N_alloc | apply Kd.N_drewN | apply Kd.N_drew)); exact HO147.out) (by first | exact Kd.N_base ho0 | exact Kd.S_base ho0) hb); have n3_ := Aside0.mk (Kd.N_elder' (by (with_reducible repeat (first | apply Kd.N_alloc | apply Kd.N_drewN | apply Kd.N_drew)); exact HO150.out) (by first | exact Kd.N_base ho0 | exact Kd.S_base ho0) hb); have n4_ := Aside0.mk (Kd.N_lower (Kd.N_mono (ok' := fun k_ => some k_ ≠ (.slice Ao76 t103.length co76 : Value).ownBlock ∧ some k_ ≠ (v139 : Value).ownBlock ∧ some k_ ≠ (.slice Ao79 t145.length co79 : Value).ownBlock ∧ some k_ ≠ (v149 : Value).ownBlock) (Kd.S_N (Kd.S_bound ho0)) (fun k_ hk_ => ⟨(Kd.fresh' (Kd.R_lt (by (with_reducible repeat (first | apply Kd.R_alloc | apply Kd.R_drewN | apply Kd.R_drew)); exact HO_5.out)) k_ hk_.2.1), (Kd.fresh' (Kd.R_lt (by (with_reducible repeat (first | apply Kd.R_alloc | apply Kd.R_drewN | apply Kd.R_drew)); exact HO_10.out)) k_ hk_.2.1), (Kd.fresh' (Kd.N_lt (by (with_reducible repeat (first | apply Kd.N_alloc | apply Kd.N_drewN | apply Kd.N_drew)); exact HO147.out)) k_ hk_.2.1), (Kd.fresh' (Kd.N_lt (by (with_reducible repeat (first | apply Kd.N_alloc | apply Kd.N_drewN | apply Kd.N_drew)); exact HO150.out)) k_ hk_.2.1)⟩)) (below_size (by repeat (first | (with_reducible first | exact HB.out | apply below_alloc | apply pw_below_drewN | apply below_drew1) | exact HB.out)))); have n5_ := Aside0.mk (below_step (by repeat (first | (with_reducible first | exact HB.out | apply below_alloc | apply pw_below_drewN | apply below_drew1) | exact HB.out)) hb); clear HO_5; clear HO_10; clear HO147; clear HO150; clear HB; have HO_5 := n0_; have HO_10 := n1_; have HO147 := n2_; have HO150 := n3_; have HO153 := n4_; have HB := n5_; clear n0_ n1_ n2_ n3_ n4_ n5_; (try clear hb); (try clear hb2); (try clear hk); (try clear hi); (try clear ho0); obtain ⟨Ao82, co82, eo82⟩ := Kd.N_slice HO150.out; subst eo82; obtain ⟨Ao83, co83, eo83⟩ := Kd.N_slice HO153.out; subst eo83) | (go_at_call 23; (with_reducible refine (kinkeepref04_Same.calls k5 _ _ t148 _ _ t151 true _ ?side1 ?side2 ?side3 ?side4 A74.out).mono ?_); (case side1 => repeat (first | exact (Kd.N_reads' HO150.out).2.2 | (with_reducible refine Kd.C_alloc ?_ _) | (with_reducible refine Kd.C_drewN ?_ _) | (with_reducible refine Kd.C_drew ?_))); (case side2 => exact (Kd.N_reads' HO150.out).2.1); (case side3 => repeat (first | exact (Kd.N_reads' HO153.out).2.2 | (with_reducible refine Kd.C_alloc ?_ _) | (with_reducible refine Kd.C_drewN ?_ _) | (with_reducible refine Kd.C_drew ?_))); (case side4 => exact (Kd.N_reads' HO153.out).2.1); rintro e w' ⟨rfl, ⟨nd, rfl⟩⟩))
                                      go_ret
                                      exact ⟨by first | rfl | (simp [errW_none, errW_some] <;> rfl) | (simp [*, errW_none, errW_some] <;> rfl), by repeat (first | (with_reducible first | exact HB.out | apply below_alloc | apply pw_below_drewN | apply below_drew1) | exact HB.out)⟩
                                    · replace c75 := Bool.eq_false_iff.mpr c75
                                      subst c75
                                      have H1 : ((kinkeeplaw04_awake.f).bind fun t155 => (if t155 = true then (if (l0.length : Int) > 0 then ((kinkeepref04_Cols.f l0).bind fun t156 => (if t156 = 0 then (some ((t103.length : Int) == 0)) else (some false))) else (some false)) else (some false))) = some r := by rw [if_neg (show ¬ (false = true) by decide)] at H; exact H
                                      clear H
                                      have H := H1
                                      clear H1
                                      replace H := Option.bind_eq_some_iff.mp H
                                      obtain ⟨t155, A840, H⟩ := H
                                      replace H : (if t155 = true then (if (l0.length : Int) > 0 then ((kinkeepref04_Cols.f l0).bind fun t156 => (if t156 = 0 then (some ((t103.length : Int) == 0)) else (some false))) else (some false)) else (some false)) = some r := H
                                      have A84 := Aside0.mk A840
                                      clear A840
                                      by_cases c85 : t155 = true
                                      · subst c85
                                        have H1 : (if (l0.length : Int) > 0 then ((kinkeepref04_Cols.f l0).bind fun t156 => (if t156 = 0 then (some ((t103.length : Int) == 0)) else (some false))) else (some false)) = some r := by rw [if_pos rfl] at H; exact H
                                        clear H
                                        have H := H1
                                        clear H1
                                        by_cases c86 : (l0.length : Int) > 0
                                        · rw [if_pos c86] at H
                                          have c86b0 : decide (0 < (l0.length : Int)) = true := decide_eq_true c86
                                          have c86b1 : decide (0 < l0.length) = true := decide_eq_true (by omega)
                                          clear c86
                                          replace H := Option.bind_eq_some_iff.mp H
                                          obtain ⟨t156, A870, H⟩ := H
                                          replace H : (if t156 = 0 then (some ((t103.length : Int) == 0)) else (some false)) = some r := H
                                          have A87 := Aside0.mk A870
                                          clear A870
                                          by_cases c88 : t156 = 0
                                          · rw [if_pos c88] at H
                                            have c88b0 : (t156 == 0) = true := beq_iff_eq.mpr c88
                                            have c88b1 : (t156 != 0) = false := bne_eq_false_iff_eq.mpr c88
                                            clear c88
                                            obtain rfl := Option.some.inj H
                                            obtain ⟨Ao89, co89, eo89⟩ := Kd.R_slice HO_5.out
                                            subst eo89
                                            go_wp2_with (first | ((with_reducible refine gate_callee (f := 16) rfl ?_); refine goesL_ (some 114) rfl rfl Try.func16 (by kernel_rfl) rfl #[] rfl (by (try simp only [List.map_toArray, List.map_cons, List.map_nil]); first | done | rfl | (simp only [List.length_drop, List.length_take]; rfl)) ?_; (with_reducible refine (kinkeeplaw04_awake.calls  true _ A69.out).mono ?_); rintro e w90 ⟨rfl, hb⟩; refine ⟨_, rfl, ?_⟩; have n0_ := Aside0.mk (Kd.R_below (by (with_reducible repeat (first | apply Kd.R_alloc | apply Kd.R_drewN | apply Kd.R_drew)); exact HO_5.out) hb); have n1_ := Aside0.mk (Kd.R_below (by (with_reducible repeat (first | apply Kd.R_alloc | apply Kd.R_drewN | apply Kd.R_drew)); exact HO_10.out) hb); have n2_ := Aside0.mk (below_step (by repeat (first | (with_reducible first | exact HB.out | apply below_alloc | apply pw_below_drewN | apply below_drew1) | exact HB.out)) hb); clear HO_5; clear HO_10; clear HB; have HO_5 := n0_; have HO_10 := n1_; have HB := n2_; clear n0_ n1_ n2_; (try clear hb); (try clear hb2); (try clear hk); (try clear hi)) | (go_at_call 25; (with_reducible refine (kinkeeplaw04_column.calls k5 _ _ t103 t145 _ ?side1 ?side2 A71.out).mono ?_); (case side1 => repeat (first | exact (Kd.R_reads' HO_5.out).2.2 | (with_reducible refine Kd.C_alloc ?_ _) | (with_reducible refine Kd.C_drewN ?_ _) | (with_reducible refine Kd.C_drew ?_))); (case side2 => exact (Kd.R_reads' HO_5.out).2.1); rintro e w91 ⟨v146, rfl, ho0, hb⟩; have n0_ := Aside0.mk (Kd.R_below (by (with_reducible repeat (first | apply Kd.R_alloc | apply Kd.R_drewN | apply Kd.R_drew)); exact HO_5.out) hb); have n1_ := Aside0.mk (Kd.R_below (by (with_reducible repeat (first | apply Kd.R_alloc | apply Kd.R_drewN | apply Kd.R_drew)); exact HO_10.out) hb); have n2_ := Aside0.mk (Kd.N_lower (Kd.N_mono (ok' := fun k_ => some k_ ≠ (.slice Ao89 t103.length co89 : Value).ownBlock ∧ some k_ ≠ (v139 : Value).ownBlock) (Kd.S_N (Kd.S_bound ho0)) (fun k_ hk_ => ⟨(Kd.fresh' (Kd.R_lt (by (with_reducible repeat (first | apply Kd.R_alloc | apply Kd.R_drewN | apply Kd.R_drew)); exact HO_5.out)) k_ hk_.2.1), (Kd.fresh' (Kd.R_lt (by (with_reducible repeat (first | apply Kd.R_alloc | apply Kd.R_drewN | apply Kd.R_drew)); exact HO_10.out)) k_ hk_.2.1)⟩)) (below_size (by repeat (first | (with_reducible first | exact HB.out | apply below_alloc | apply pw_below_drewN | apply below_drew1) | exact HB.out)))); have n3_ := Aside0.mk (below_step (by repeat (first | (with_reducible first | exact HB.out | apply below_alloc | apply pw_below_drewN | apply below_drew1) | exact HB.out)) hb); clear HO_5; clear HO_10; clear HB; have HO_5 := n0_; have HO_10 := n1_; have HO147 := n2_; have HB := n3_; clear n0_ n1_ n2_ n3_; (try clear hb); (try clear hb2); (try clear hk); (try clear hi); (try clear ho0); obtain ⟨Ao92, co92, eo92⟩ := Kd.N_slice HO147.out; subst eo92) | (go_at_call 24; (with_reducible refine (kinkeepref04_Product.calls k5 _ _ l0 _ _ t145 t148 _ ?side1 ?side2 ?side3 ?side4 A72.out).mono ?_); (case side1 => repeat (first | exact (Kd.C_below HR0.out HB.out) | (with_reducible refine Kd.C_alloc ?_ _) | (with_reducible refine Kd.C_drewN ?_ _) | (with_reducible refine Kd.C_drew ?_))); (case side2 => exact HC0.out); (case side3 => repeat (first | exact (Kd.N_reads' HO147.out).2.2 | (with_reducible refine Kd.C_alloc ?_ _) | (with_reducible refine Kd.C_drewN ?_ _) | (with_reducible refine Kd.C_drew ?_))); (case side4 => exact (Kd.N_reads' HO147.out).2.1); rintro e w93 ⟨v149, rfl, ho0, hb⟩; have n0_ := Aside0.mk (Kd.R_below (by (with_reducible repeat (first | apply Kd.R_alloc | apply Kd.R_drewN | apply Kd.R_drew)); exact HO_5.out) hb); have n1_ := Aside0.mk (Kd.R_below (by (with_reducible repeat (first | apply Kd.R_alloc | apply Kd.R_drewN | apply Kd.R_drew)); exact HO_10.out) hb); have n2_ := Aside0.mk (Kd.N_elder' (by (with_reducible repeat (first | apply Kd.N_alloc | apply Kd.N_drewN | apply Kd.N_drew)); exact HO147.out) (by first | exact Kd.N_base ho0 | exact Kd.S_base ho0) hb); have n3_ := Aside0.mk (Kd.N_lower (Kd.N_mono (ok' := fun k_ => some k_ ≠ (.slice Ao89 t103.length co89 : Value).ownBlock ∧ some k_ ≠ (v139 : Value).ownBlock ∧ some k_ ≠ (.slice Ao92 t145.length co92 : Value).ownBlock) (Kd.S_N (Kd.S_bound ho0)) (fun k_ hk_ => ⟨(Kd.fresh' (Kd.R_lt (by (with_reducible repeat (first | apply Kd.R_alloc | apply Kd.R_drewN | apply Kd.R_drew)); exact HO_5.out)) k_ hk_.2.1), (Kd.fresh' (Kd.R_lt (by (with_reducible repeat (first | apply Kd.R_alloc | apply Kd.R_drewN | apply Kd.R_drew)); exact HO_10.out)) k_ hk_.2.1), (Kd.fresh' (Kd.N_lt (by (with_reducible repeat (first | apply Kd.N_alloc | apply Kd.N_drewN | apply Kd.N_drew)); exact HO147.out)) k_ hk_.2.1)⟩)) (below_size (by repeat (first | (with_reducible first | exact HB.out | apply below_alloc | apply pw_below_drewN | apply below_drew1) | exact HB.out)))); have n4_ := Aside0.mk (below_step (by repeat (first | (with_reducible first | exact HB.out | apply below_alloc | apply pw_below_drewN | apply below_drew1) | exact HB.out)) hb); clear HO_5; clear HO_10; clear HO147; clear HB; have HO_5 := n0_; have HO_10 := n1_; have HO147 := n2_; have HO150 := n3_; have HB := n4_; clear n0_ n1_ n2_ n3_ n4_; (try clear hb); (try clear hb2); (try clear hk); (try clear hi); (try clear ho0)) | (go_at_call 25; (with_reducible refine (kinkeeplaw04_column.calls k5 _ _ l1 t151 _ ?side1 ?side2 A73.out).mono ?_); (case side1 => repeat (first | exact (Kd.C_below HR1.out HB.out) | (with_reducible refine Kd.C_alloc ?_ _) | (with_reducible refine Kd.C_drewN ?_ _) | (with_reducible refine Kd.C_drew ?_))); (case side2 => exact HC1.out); rintro e w94 ⟨v152, rfl, ho0, hb⟩; have n0_ := Aside0.mk (Kd.R_below (by (with_reducible repeat (first | apply Kd.R_alloc | apply Kd.R_drewN | apply Kd.R_drew)); exact HO_5.out) hb); have n1_ := Aside0.mk (Kd.R_below (by (with_reducible repeat (first | apply Kd.R_alloc | apply Kd.R_drewN | apply Kd.R_drew)); exact HO_10.out) hb); have n2_ := Aside0.mk (Kd.N_elder' (by (with_reducible repeat (first | apply Kd.N_alloc | apply Kd.N_drewN | apply Kd.N_drew)); exact HO147.out) (by first | exact Kd.N_base ho0 | exact Kd.S_base ho0) hb); have n3_ := Aside0.mk (Kd.N_elder' (by (with_reducible repeat (first | apply Kd.N_alloc | apply Kd.N_drewN | apply Kd.N_drew)); exact HO150.out) (by first | exact Kd.N_base ho0 | exact Kd.S_base ho0) hb); have n4_ := Aside0.mk (Kd.N_lower (Kd.N_mono (ok' := fun k_ => some k_ ≠ (.slice Ao89 t103.length co89 : Value).ownBlock ∧ some k_ ≠ (v139 : Value).ownBlock ∧ some k_ ≠ (.slice Ao92 t145.length co92 : Value).ownBlock ∧ some k_ ≠ (v149 : Value).ownBlock) (Kd.S_N (Kd.S_bound ho0)) (fun k_ hk_ => ⟨(Kd.fresh' (Kd.R_lt (by (with_reducible repeat (first | apply Kd.R_alloc | apply Kd.R_drewN | apply Kd.R_drew)); exact HO_5.out)) k_ hk_.2.1), (Kd.fresh' (Kd.R_lt (by (with_reducible repeat (first | apply Kd.R_alloc | apply Kd.R_drewN | apply Kd.R_drew)); exact HO_10.out)) k_ hk_.2.1), (Kd.fresh' (Kd.N_lt (by (with_reducible repeat (first | apply Kd.N_alloc | apply Kd.N_drewN | apply Kd.N_drew)); exact HO147.out)) k_ hk_.2.1), (Kd.fresh' (Kd.N_lt (by (with_reducible repeat (first | apply Kd.N_alloc | apply Kd.N_drewN | apply Kd.N_drew)); exact HO150.out)) k_ hk_.2.1)⟩)) (below_size (by repeat (first | (with_reducible first | exact HB.out | apply below_alloc | apply pw_below_drewN | apply below_drew1) | exact HB.out)))); have n5_ := Aside0.mk (below_step (by repeat (first | (with_reducible first | exact HB.out | apply below_alloc | apply pw_below_drewN | apply below_drew1) | exact HB.out)) hb); clear HO_5; clear HO_10; clear HO147; clear HO150; clear HB; have HO_5 := n0_; have HO_10 := n1_; have HO147 := n2_; have HO150 := n3_; have HO153 := n4_; have HB := n5_; clear n0_ n1_ n2_ n3_ n4_ n5_; (try clear hb); (try clear hb2); (try clear hk); (try clear hi); (try clear ho0); obtain ⟨Ao95, co95, eo95⟩ := Kd.N_slice HO150.out; subst eo95; obtain ⟨Ao96, co96, eo96⟩ := Kd.N_slice HO153.out; subst eo96) | (go_at_call 23; (with_reducible refine (kinkeepref04_Same.calls k5 _ _ t148 _ _ t151 false _ ?side1 ?side2 ?side3 ?side4 A74.out).mono ?_); (case side1 => repeat (first | exact (Kd.N_reads' HO150.out).2.2 | (with_reducible refine Kd.C_alloc ?_ _) | (with_reducible refine Kd.C_drewN ?_ _) | (with_reducible refine Kd.C_drew ?_))); (case side2 => exact (Kd.N_reads' HO150.out).2.1); (case side3 => repeat (first | exact (Kd.N_reads' HO153.out).2.2 | (with_reducible refine Kd.C_alloc ?_ _) | (with_reducible refine Kd.C_drewN ?_ _) | (with_reducible refine Kd.C_drew ?_))); (case side4 => exact (Kd.N_reads' HO153.out).2.1); rintro e w' ⟨rfl, ⟨nd, rfl⟩⟩) | (go_at_call 16; (with_reducible refine (kinkeeplaw04_awake.calls  true _ A84.out).mono ?_); rintro e w97 ⟨rfl, hb⟩; have n0_ := Aside0.mk (Kd.R_below (by (with_reducible repeat (first | apply Kd.R_alloc | apply Kd.R_drewN | apply Kd.R_drew)); exact HO_5.out) hb); have n1_ := Aside0.mk (Kd.R_below (by (with_reducible repeat (first | apply Kd.R_alloc | apply Kd.R_drewN | apply Kd.R_drew)); exact HO_10.out) hb); have n2_ := Aside0.mk (Kd.N_below (by (with_reducible repeat (first | apply Kd.N_alloc | apply Kd.N_drewN | apply Kd.N_drew)); exact HO147.out) hb); have n3_ := Aside0.mk (Kd.N_below (by (with_reducible repeat (first | apply Kd.N_alloc | apply Kd.N_drewN | apply Kd.N_drew)); exact HO150.out) hb); have n4_ := Aside0.mk (Kd.N_below (by (with_reducible repeat (first | apply Kd.N_alloc | apply Kd.N_drewN | apply Kd.N_drew)); exact HO153.out) hb); have n5_ := Aside0.mk (below_step (by repeat (first | (with_reducible first | exact HB.out | apply below_alloc | apply pw_below_drewN | apply below_drew1) | exact HB.out)) hb); clear HO_5; clear HO_10; clear HO147; clear HO150; clear HO153; clear HB; have HO_5 := n0_; have HO_10 := n1_; have HO147 := n2_; have HO150 := n3_; have HO153 := n4_; have HB := n5_; clear n0_ n1_ n2_ n3_ n4_ n5_; (try clear hb); (try clear hb2); (try clear hk); (try clear hi)) | (go_at_call 21; (with_reducible refine (kinkeepref04_Cols.calls _ _ l0 t156 _ ?side1 ?side2 A87.out).mono ?_); (case side1 => repeat (first | exact (Kd.C_below HR0.out HB.out) | (with_reducible refine Kd.C_alloc ?_ _) | (with_reducible refine Kd.C_drewN ?_ _) | (with_reducible refine Kd.C_drew ?_))); (case side2 => exact HC0.out); rintro e w' ⟨rfl, ⟨nd, rfl⟩⟩))
                                            go_ret
                                            exact ⟨by first | rfl | (simp [errW_none, errW_some] <;> rfl) | (simp [*, errW_none, errW_some] <;> rfl), by repeat (first | (with_reducible first | exact HB.out | apply below_alloc | apply pw_below_drewN | apply below_drew1) | exact HB.out)⟩
                                          · rw [if_neg c88] at H
                                            have c88b0 : (t156 == 0) = false := beq_eq_false_iff_ne.mpr c88
                                            have c88b1 : (t156 != 0) = true := bne_iff_ne.mpr c88
                                            obtain rfl := Option.some.inj H
                                            exact absurd HRT.out (by decide)
                                        · rw [if_neg c86] at H
                                          have c86b0 : decide (0 < (l0.length : Int)) = false := decide_eq_false c86
                                          have c86b1 : decide (0 < l0.length) = false := decide_eq_false (by omega)
                                          clear c86
                                          obtain rfl := Option.some.inj H
                                          exact absurd HRT.out (by decide)
                                      · exact absurd (Option.some.inj A84.out).symm c85
                                  · exact absurd (Option.some.inj A69.out).symm c70
                    · rw [if_neg c47] at H
                      have c47b0 : (t132 == t133) = false := beq_eq_false_iff_ne.mpr c47
                      have c47b1 : (t132 != t133) = true := bne_iff_ne.mpr c47
                      replace H := Option.bind_eq_some_iff.mp H
                      obtain ⟨t134, A1420, H⟩ := H
                      replace H : (if t134 = true then (if t104 = 4 then (some ((t103.length : Int) == 0)) else (some false)) else (some false)) = some r := H
                      have A142 := Aside0.mk A1420
                      clear A1420
                      by_cases c143 : t134 = true
                      · subst c143
                        have H1 : (if t104 = 4 then (some ((t103.length : Int) == 0)) else (some false)) = some r := by rw [if_pos rfl] at H; exact H
                        clear H
                        have H := H1
                        clear H1
                        by_cases c144 : t104 = 4
                        · rw [if_pos c144] at H
                          have c144b0 : (t104 == 4) = true := beq_iff_eq.mpr c144
                          have c144b1 : (t104 != 4) = false := bne_eq_false_iff_eq.mpr c144
                          clear c144
                          obtain rfl := Option.some.inj H
                          obtain ⟨Ao145, co145, eo145⟩ := Kd.N_slice HO_7.out
                          subst eo145
                          go_wp2_with (first | ((with_reducible refine gate_callee (f := 28) rfl ?_); refine goesL_ (some 70) rfl rfl Try.func28 (by kernel_rfl) rfl #[.slice Ao145 x7_3.length co145] rfl (by (try simp only [List.map_toArray, List.map_cons, List.map_nil]); first | done | rfl | (simp only [List.length_drop, List.length_take]; rfl)) ?_; (with_reducible refine (matrix_Rank.calls _ _ x7_3 t132 _ ?side1 ?side2 A45.out).mono ?_); (case side1 => repeat (first | exact (Kd.N_reads' HO_7.out).2.2 | (with_reducible refine Kd.C_alloc ?_ _) | (with_reducible refine Kd.C_drewN ?_ _) | (with_reducible refine Kd.C_drew ?_))); (case side2 => exact (Kd.N_reads' HO_7.out).2.1); rintro e w146 ⟨rfl, hb⟩; refine ⟨_, rfl, ?_⟩; have n0_ := Aside0.mk (Kd.R_below (by (with_reducible repeat (first | apply Kd.R_alloc | apply Kd.R_drewN | apply Kd.R_drew)); exact HO_5.out) hb); have n1_ := Aside0.mk (Kd.N_below (by (with_reducible repeat (first | apply Kd.N_alloc | apply Kd.N_drewN | apply Kd.N_drew)); exact HO_7.out) hb); have n2_ := Aside0.mk (below_step (by repeat (first | (with_reducible first | exact HB.out | apply below_alloc | apply pw_below_drewN | apply below_drew1) | exact HB.out)) hb); clear HO_5; clear HO_7; clear HB; have HO_5 := n0_; have HO_7 := n1_; have HB := n2_; clear n0_ n1_ n2_; (try clear hb); (try clear hb2); (try clear hk); (try clear hi)) | ((with_reducible refine gate_callee (f := 28) rfl ?_); refine goesL_ (some 72) rfl rfl Try.func28 (by kernel_rfl) rfl #[.slice A0 l0.length c0] rfl (by (try simp only [List.map_toArray, List.map_cons, List.map_nil]); first | done | rfl | (simp only [List.length_drop, List.length_take]; rfl)) ?_; (with_reducible refine (matrix_Rank.calls _ _ l0 t133 _ ?side1 ?side2 A46.out).mono ?_); (case side1 => repeat (first | exact (Kd.C_below HR0.out HB.out) | (with_reducible refine Kd.C_alloc ?_ _) | (with_reducible refine Kd.C_drewN ?_ _) | (with_reducible refine Kd.C_drew ?_))); (case side2 => exact HC0.out); rintro e w147 ⟨rfl, hb⟩; refine ⟨_, rfl, ?_⟩; have n0_ := Aside0.mk (Kd.R_below (by (with_reducible repeat (first | apply Kd.R_alloc | apply Kd.R_drewN | apply Kd.R_drew)); exact HO_5.out) hb); have n1_ := Aside0.mk (Kd.N_below (by (with_reducible repeat (first | apply Kd.N_alloc | apply Kd.N_drewN | apply Kd.N_drew)); exact HO_7.out) hb); have n2_ := Aside0.mk (below_step (by repeat (first | (with_reducible first | exact HB.out | apply below_alloc | apply pw_below_drewN | apply below_drew1) | exact HB.out)) hb); clear HO_5; clear HO_7; clear HB; have HO_5 := n0_; have HO_7 := n1_; have HB := n2_; clear n0_ n1_ n2_; (try clear hb); (try clear hb2); (try clear hk); (try clear hi)) | ((with_reducible refine gate_callee (f := 16) rfl ?_); refine goesL_ (some 74) rfl rfl Try.func16 (by kernel_rfl) rfl #[] rfl (by (try simp only [List.map_toArray, List.map_cons, List.map_nil]); first | done | rfl | (simp only [List.length_drop, List.length_take]; rfl)) ?_; (with_reducible refine (kinkeeplaw04_awake.calls  true _ A142.out).mono ?_); rintro e w148 ⟨rfl, hb⟩; refine ⟨_, rfl, ?_⟩; have n0_ := Aside0.mk (Kd.R_below (by (with_reducible repeat (first | apply Kd.R_alloc | apply Kd.R_drewN | apply Kd.R_drew)); exact HO_5.out) hb); have n1_ := Aside0.mk (Kd.N_below (by (with_reducible repeat (first | apply Kd.N_alloc | apply Kd.N_drewN | apply Kd.N_drew)); exact HO_7.out) hb); have n2_ := Aside0.mk (below_step (by repeat (first | (with_reducible first | exact HB.out | apply below_alloc | apply pw_below_drewN | apply below_drew1) | exact HB.out)) hb); clear HO_5; clear HO_7; clear HB; have HO_5 := n0_; have HO_7 := n1_; have HB := n2_; clear n0_ n1_ n2_; (try clear hb); (try clear hb2); (try clear hk); (try clear hi); obtain ⟨Ao149, co149, eo149⟩ := Kd.R_slice HO_5.out; subst eo149))
                          go_ret
                          exact ⟨by first | rfl | (simp [errW_none, errW_some] <;> rfl) | (simp [*, errW_none, errW_some] <;> rfl), by repeat (first | (with_reducible first | exact HB.out | apply below_alloc | apply pw_below_drewN | apply below_drew1) | exact HB.out)⟩
                        · rw [if_neg c144] at H
                          have c144b0 : (t104 == 4) = false := beq_eq_false_iff_ne.mpr c144
                          have c144b1 : (t104 != 4) = true := bne_iff_ne.mpr c144
                          obtain rfl := Option.some.inj H
                          exact absurd HRT.out (by decide)
                      · exact absurd (Option.some.inj A142.out).symm c143
end Go.Proofs.Ytpkghpljgjlmjaa.K
/- The kernel, plain: its vectors, and that they vanish. -/
namespace Go.Proofs.Ytpkghpljgjlmjaa.K
open Go.RowKit Go.Proofs.YtpkghpljgjlmjaaW.PrintWords Go.Proofs.YtpkghpljgjlmjaaW.PrintLast Go.Proofs.YtpkghpljgjlmjaaW.PrintMore Kin
set_option linter.unusedVariables false
theorem setg_eq (r : List B) (k : Nat) (x : B) (j : Nat) : (r.set k x).getD j 0 = if j = k ∧ k < r.length then x else r.getD j 0 := by
  rw [List.getD_eq_getElem?_getD, List.getElem?_set]
  by_cases h : k = j
  · subst h
    rw [if_pos rfl]
    by_cases h2 : k < r.length
    · rw [if_pos h2, if_pos ⟨rfl, h2⟩]; rfl
    · rw [if_neg h2, if_neg (by omega), List.getD_eq_getElem?_getD, List.getElem?_eq_none (by omega)]
  · rw [if_neg h, if_neg (by omega), List.getD_eq_getElem?_getD]
def dot (n : Nat) (f : Nat → B) (v : List B) : B := bsum n fun d => gmul (f d) (v.getD d 0)
theorem dot_set {n : Nat} (f : Nat → B) {v : List B} {p : Nat} (hp : p < n) (hv : v.length = n) (x : B) (h0 : v.getD p 0 = 0) : dot n f (v.set p x) = dot n f v ^^^ gmul (f p) x := by
  have e : dot n f (v.set p x) = bsum n (fun d => gmul (f d) (v.getD d 0) ^^^ if d = p then gmul (f p) x else 0) := by
    refine bsum_congr fun d hd => ?_
    rw [setg_eq]
    by_cases h : d = p
    · subst h
      rw [if_pos ⟨rfl, by omega⟩, if_pos rfl, h0, gmul_zero, zero_bx]
    · rw [if_neg (by omega), if_neg h, bx_zero]
  rw [e, bsum_add, bsum_one (f := fun d => if d = p then gmul (f p) x else 0) hp (fun j _ hne => if_neg hne), if_pos rfl]
  rfl
theorem dot_zeros (n m : Nat) (f : Nat → B) : dot n f (List.replicate m 0) = 0 := by
  refine bsum_zero fun j hj => ?_
  have : (List.replicate m (0 : B)).getD j 0 = 0 := by
    rw [List.getD_eq_getElem?_getD, List.getElem?_replicate]
    split <;> rfl
  rw [this, gmul_zero]
/-- The first t pivots' elements set. -/
def setPivs (R : List (List B)) (piv : List Nat) (c : Nat) (v0 : List B) (t : Nat) : List B := (List.range t).foldl (fun o i => o.set (piv.getD i 0) ((R.getD i []).getD c 0)) v0
theorem setPivs_succ (R : List (List B)) (piv : List Nat) (c : Nat) (v0 : List B) (t : Nat) : setPivs R piv c v0 (t + 1) = (setPivs R piv c v0 t).set (piv.getD t 0) ((R.getD t []).getD c 0) := by
  unfold setPivs
  rw [List.range_succ, List.foldl_append]
  rfl
theorem setPivs_length (R : List (List B)) (piv : List Nat) (c : Nat) (v0 : List B) (t : Nat) : (setPivs R piv c v0 t).length = v0.length := by
  induction t with
  | zero => rfl
  | succ t ih => rw [setPivs_succ, List.length_set, ih]
theorem setPivs_free (R : List (List B)) (piv : List Nat) (c : Nat) (v0 : List B) (d : Nat) : ∀ t, (∀ i, i < t → piv.getD i 0 ≠ d) → (setPivs R piv c v0 t).getD d 0 = v0.getD d 0 := by
  intro t
  induction t with
  | zero => intro _; rfl
  | succ t ih =>
    intro h
    rw [setPivs_succ, setg_eq, if_neg (fun e => h t (by omega) e.1.symm), ih (fun i hi => h i (by omega))]
theorem setPivs_dot {A : Mx} {len cols : Nat} {piv : List Nat} (hF : Form A len cols piv) {R : List (List B)} (hA : fn R = A) {n c : Nat} (hn : cols ≤ n) {v0 : List B} (hv : v0.length = n) (h0 : ∀ i, i < piv.length → v0.getD (piv.getD i 0) 0 = 0) {i : Nat} (hi : i < len) :
    ∀ t, t ≤ piv.length → dot n (A i) (setPivs R piv c v0 t) = dot n (A i) v0 ^^^ if i < t then A i c else 0 := by
  intro t
  induction t with
  | zero => intro _; rw [if_neg (by omega), bx_zero]; rfl
  | succ t ih =>
    intro ht
    have hpt := hF.lt t (by omega)
    rw [setPivs_succ, dot_set (A i) (by omega) (by rw [setPivs_length, hv]) _ (by
      rw [setPivs_free R piv c v0 _ t (fun j hj => by have := hF.inc j t hj (by omega); omega)]
      exact h0 t (by omega)), ih (by omega), hF.unit t (by omega) i hi, show (R.getD t []).getD c 0 = A t c by rw [← hA]; rfl]
    by_cases e : i = t
    · subst e
      rw [if_pos rfl, one_gmul, if_neg (by omega), bx_zero, if_pos (by omega)]
    · rw [if_neg e, zero_gmul, bx_zero]
      by_cases h : i < t
      · rw [if_pos h, if_pos (by omega)]
      · rw [if_neg h, if_neg (by omega)]
theorem mem_piv {piv : List Nat} {d : Nat} : d ∈ piv ↔ ∃ i, i < piv.length ∧ piv.getD i 0 = d := by
  constructor
  · intro h
    obtain ⟨i, hi, rfl⟩ := List.mem_iff_getElem.1 h
    exact ⟨i, hi, by rw [List.getD_eq_getElem?_getD, List.getElem?_eq_getElem hi]; rfl⟩
  · rintro ⟨i, hi, rfl⟩
    rw [List.getD_eq_getElem?_getD, List.getElem?_eq_getElem hi]
    exact List.getElem_mem hi
theorem mem_natInts {l : List Nat} {c : Nat} : (c : Int) ∈ natInts l ↔ c ∈ l := by
  unfold natInts
  rw [List.mem_map]
  constructor
  · rintro ⟨a, h, e⟩
    have : a = c := by omega
    rw [← this]; exact h
  · intro h; exact ⟨c, h, rfl⟩
theorem rd_nat {l : List Int} {i : Nat} (h : i < l.length) : rd l (i : Int) = l[i] := by
  unfold rd
  rw [Int.toNat_natCast, List.getD_eq_getElem?_getD, List.getElem?_eq_getElem h]; rfl
theorem free_l0 (l : List Int) (hl : l.length ≤ 1000000) (c : Int) (n : Nat) : ∀ k i, i + n = l.length → n < k → (∀ j (h : j < l.length), j < i → l[j] ≠ c) → kinkeeplaw04_free.l0 k l c (i : Int) = some (!decide (c ∈ l)) := by
  induction n with
  | zero =>
    intro k i hi hk hno
    obtain ⟨k, rfl⟩ : ∃ j, k = j + 1 := ⟨k - 1, by omega⟩
    have hc : ¬ c ∈ l := by
      intro h
      obtain ⟨j, hj, e⟩ := List.mem_iff_getElem.1 h
      exact hno j hj (by omega) e
    simp only [kinkeeplaw04_free.l0]
    rw [if_neg (by omega), decide_eq_false hc]
    rfl
  | succ n ih =>
    intro k i hi hk hno
    obtain ⟨k, rfl⟩ : ∃ j, k = j + 1 := ⟨k - 1, by omega⟩
    have hi' : i < l.length := by omega
    simp only [kinkeeplaw04_free.l0]
    rw [if_pos (by omega), if_pos (by omega), rd_nat hi']
    by_cases e : l[i] = c
    · have hc : c ∈ l := by rw [← e]; exact List.getElem_mem hi'
      rw [if_pos e, decide_eq_true hc]
      rfl
    · rw [if_neg e, wrap_nx' _ (by omega)]
      refine ih k (i + 1) (by omega) (by omega) (fun j h h2 => ?_)
      by_cases ej : j = i
      · subst ej; exact e
      · exact hno j h (by omega)
theorem free_b (l : List Nat) (hl : l.length ≤ 1000000) (c : Nat) {k : Nat} (hk : l.length < k) : kinkeeplaw04_free.f k (natInts l) (c : Int) = some (!decide (c ∈ l)) := by
  have hn : (natInts l).length = l.length := by simp [natInts]
  unfold kinkeeplaw04_free.f
  rw [show (0 : Int) = ((0 : Nat) : Int) from rfl, free_l0 (natInts l) (by omega) (c : Int) (natInts l).length k 0 (by omega) (by omega) (fun j _ h => absurd h (by omega))]
  congr 2
  rw [decide_eq_decide, mem_natInts]
def colM (v : List B) : List (List B) := v.map fun x => [x]
theorem colM_length (v : List B) : (colM v).length = v.length := by simp [colM]
theorem colM_rows (v : List B) : ∀ r ∈ colM v, r.length = 1 := by
  intro r hr
  obtain ⟨x, _, rfl⟩ := List.mem_map.1 hr
  rfl
theorem colM_fn (v : List B) (t : Nat) : fn (colM v) t 0 = v.getD t 0 := by
  unfold fn colM
  by_cases h : t < v.length
  · have e : (v.map fun x => [x]).getD t [] = [v[t]] := by
      rw [List.getD_eq_getElem?_getD, List.getElem?_map, List.getElem?_eq_getElem h]; rfl
    rw [e, List.getD_eq_getElem?_getD (l := v), List.getElem?_eq_getElem h]; rfl
  · have e : (v.map fun x => [x]).getD t [] = [] := by
      rw [List.getD_eq_getElem?_getD, List.getElem?_map, List.getElem?_eq_none (by omega)]; rfl
    rw [e, List.getD_eq_getElem?_getD (l := v), List.getElem?_eq_none (by omega)]; rfl
theorem column_l0 (v : List B) (hv : v.length ≤ 1000000) (n : Nat) : ∀ k i, i + n = v.length → n < k → kinkeeplaw04_column.l0 k (up v) (up2 (colM (v.take i))) (i : Int) = some (up2 (colM v)) := by
  induction n with
  | zero =>
    intro k i hi hk
    obtain ⟨k, rfl⟩ : ∃ j, k = j + 1 := ⟨k - 1, by omega⟩
    simp only [kinkeeplaw04_column.l0]
    rw [if_neg (by rw [up_length]; omega), List.take_of_length_le (by omega)]
  | succ n ih =>
    intro k i hi hk
    obtain ⟨k, rfl⟩ : ∃ j, k = j + 1 := ⟨k - 1, by omega⟩
    have hi' : i < v.length := by omega
    simp only [kinkeeplaw04_column.l0]
    rw [if_pos (by rw [up_length]; omega), if_pos (by omega), if_pos (by rw [up2_length, colM_length, List.length_take]; omega), wrap_nx' _ (by omega), getD_up, ← ih k (i + 1) (by omega) (by omega), List.take_succ_eq_append_getElem hi']
    congr 1
    unfold colM
    rw [List.map_append, up2_append, List.getD_eq_getElem?_getD, List.getElem?_eq_getElem hi']
    rfl
theorem column_b (v : List B) (hv : v.length ≤ 1000000) {k : Nat} (hk : v.length < k) : kinkeeplaw04_column.f k (up v) = some (up2 (colM v)) :=
  column_l0 v hv v.length k 0 (by omega) hk
theorem colsN_colM {v : List B} (h : 0 < v.length) : colsN (colM v) = 1 := by
  cases v with
  | nil => simp at h
  | cons a t => rfl
section
variable {M R : List (List B)} {piv : List Nat} {n : Nat}
end
end Go.Proofs.Ytpkghpljgjlmjaa.K
/- Linear equations, plain: solved by elimination. -/
namespace Go.Proofs.Ytpkghpljgjlmjaa.K
open Go.RowKit Go.Proofs.YtpkghpljgjlmjaaW.PrintWords Go.Proofs.YtpkghpljgjlmjaaW.PrintLast Go.Proofs.YtpkghpljgjlmjaaW.PrintMore Kin
set_option linter.unusedVariables false
theorem findRow_agree {R1 R2 : List (List B)} (hl : R1.length = R2.length) {c : Nat} (h : ∀ i, fn R1 i c = fn R2 i c) (k : Nat) : findRow R1 k c = findRow R2 k c := by
  unfold findRow
  rw [hl]
  congr 1
  funext i
  have := h i
  unfold fn at this
  rw [this]
/-- Two matrices that agree in the first n columns are eliminated alike there. -/
theorem elim_agree {R1 R2 : List (List B)} {m1 m2 n : Nat} (h1 : ∀ r ∈ R1, r.length = m1) (h2 : ∀ r ∈ R2, r.length = m2) (hl : R1.length = R2.length) (h : ∀ i j, j < n → fn R1 i j = fn R2 i j) :
    ∀ c, c ≤ n → (elimRun R1 c).2.1 = (elimRun R2 c).2.1 ∧ ∀ i j, j < n → fn (elimRun R1 c).1 i j = fn (elimRun R2 c).1 i j := by
  intro c
  induction c with
  | zero => intro _; exact ⟨rfl, h⟩
  | succ c ih =>
    intro hc
    obtain ⟨ih1, ih2⟩ := ih (by omega)
    have g1 := elimRun_rows h1 c
    have g2 := elimRun_rows h2 c
    have l1 := elimRun_length R1 c
    have l2 := elimRun_length R2 c
    rw [elimRun_succ, elimRun_succ]
    generalize elimRun R1 c = s1 at *
    generalize elimRun R2 c = s2 at *
    have hf := findRow_agree (R1 := s1.1) (R2 := s2.1) (by omega) (c := c) (fun i => ih2 i c (by omega)) s1.2.1.length
    cases hfind : findRow s1.1 s1.2.1.length c with
    | none =>
      have e1 : elimStep s1 c = s1 := by unfold elimStep; rw [hfind]
      have e2 : elimStep s2 c = s2 := by unfold elimStep; rw [← ih1, ← hf, hfind]
      rw [e1, e2]
      exact ⟨ih1, ih2⟩
    | some q =>
      have hfind2 : findRow s2.1 s2.2.1.length c = some q := by rw [← ih1, ← hf, hfind]
      obtain ⟨a1, a2, _⟩ := elimStep_fn g1 hfind
      obtain ⟨b1, b2, _⟩ := elimStep_fn g2 hfind2
      rw [a1, a2, b1, b2, ← ih1]
      refine ⟨rfl, fun i j hj => ?_⟩
      unfold rowop
      simp only [swp_row]
      rw [ih2 _ j hj, ih2 _ j hj, ih2 _ c (by omega), ih2 _ c (by omega)]
theorem wideS_row {M : List (List B)} {v : List B} {i : Nat} (hi : i < M.length) : (wideS M v).getD i [] = M.getD i [] ++ [v.getD i 0] := by
  unfold wideS
  rw [List.getD_eq_getElem?_getD, List.getElem?_map, List.getElem?_range hi]
  rfl
theorem wideS_fn {M : List (List B)} {v : List B} {n : Nat} (hM : ∀ r ∈ M, r.length = n) (i j : Nat) (hj : j < n) : fn (wideS M v) i j = fn M i j := by
  by_cases hi : i < M.length
  · unfold fn
    rw [wideS_row hi, List.getD_eq_getElem?_getD, List.getElem?_append_left (by rw [hM _ (getD_mem' hi)]; exact hj), ← List.getD_eq_getElem?_getD]
  · rw [fn_out (by rw [wideS_length]; omega), fn_out (by omega)]
theorem wideS_last {M : List (List B)} {v : List B} {n : Nat} (hM : ∀ r ∈ M, r.length = n) {i : Nat} (hi : i < M.length) : fn (wideS M v) i n = v.getD i 0 := by
  unfold fn
  rw [wideS_row hi, List.getD_eq_getElem?_getD, List.getElem?_append_right (by rw [hM _ (getD_mem' hi)]; exact Nat.le_refl _), hM _ (getD_mem' hi), Nat.sub_self]
  rfl
theorem solve_piv {M : List (List B)} {v : List B} {n : Nat} (hM : ∀ r ∈ M, r.length = n) : (elimRun (wideS M v) n).2.1 = (elimRun M n).2.1 :=
  (elim_agree (wideS_rows hM) hM (wideS_length M v) (fun i j hj => wideS_fn hM i j hj) n (Nat.le_refl n)).1
/-- The rows below the pivots end in 0. -/
def lowZero (M : List (List B)) (v : List B) (n : Nat) : Prop := findRow (elimRun (wideS M v) n).1 (elimRun (wideS M v) n).2.1.length n = none
theorem lowZero_iff (M : List (List B)) (v : List B) (n : Nat) : lowZero M v n ↔ ((elimRun (wideS M v) n).1.drop (elimRun (wideS M v) n).2.1.length).all (fun r => r.getD n 0 == 0) = true := by
  unfold lowZero findRow
  rw [List.find?_range_eq_none, List.all_eq_true]
  generalize (elimRun (wideS M v) n).1 = R
  generalize (elimRun (wideS M v) n).2.1.length = k
  constructor
  · intro h r hr
    obtain ⟨j, hj, rfl⟩ := List.mem_iff_getElem.1 hr
    rw [List.length_drop] at hj
    have := h (k + j) (by omega)
    rw [row_at (by omega)] at this
    rw [List.getElem_drop]
    simpa using this
  · intro h i hi
    by_cases hk : k ≤ i
    · have := h (R.getD i []) (by
        rw [row_at hi]
        refine List.mem_iff_getElem.2 ⟨i - k, by rw [List.length_drop]; omega, ?_⟩
        rw [List.getElem_drop]
        congr 1; omega)
      rw [beq_iff_eq] at this
      rw [this]
      simp
    · simp [hk]
theorem solve_some {M : List (List B)} {v : List B} (h : lowZero M v (colsN M)) : solveM M v = some (solveUpto (elimRun (wideS M v) (colsN M)).1 (elimRun (wideS M v) (colsN M)).2.1 (colsN M) (elimRun (wideS M v) (colsN M)).2.1.length) := by
  unfold solveM
  simp only []
  rw [if_pos ((lowZero_iff _ _ _).1 h)]
theorem solve_none {M : List (List B)} {v : List B} (h : ¬ lowZero M v (colsN M)) : solveM M v = none := by
  unfold solveM
  simp only []
  rw [if_neg (fun e => h ((lowZero_iff _ _ _).2 e))]
theorem rank_wide {M : List (List B)} {v : List B} {n : Nat} (hM : ∀ r ∈ M, r.length = n) : (elimRun (wideS M v) (n + 1)).2.1.length = (elimRun M n).2.1.length ↔ lowZero M v n := by
  rw [elimRun_succ, ← solve_piv (v := v) hM]
  unfold lowZero elimStep
  generalize elimRun (wideS M v) n = s
  cases h : findRow s.1 s.2.1.length n with
  | none => simp
  | some q => simp
theorem solveUpto_eq (R : List (List B)) (piv : List Nat) (n k : Nat) : solveUpto R piv n k = setPivs R piv n (List.replicate n 0) k := rfl
theorem zeros_getD (n d : Nat) : (List.replicate n (0 : B)).getD d 0 = 0 := by
  rw [List.getD_eq_getElem?_getD, List.getElem?_replicate]
  split <;> rfl
theorem solve_free {M : List (List B)} {v : List B} {n : Nat} (hM : ∀ r ∈ M, r.length = n) {d : Nat} (hd : d ∉ (elimRun M n).2.1) : (solveUpto (elimRun (wideS M v) n).1 (elimRun (wideS M v) n).2.1 n (elimRun (wideS M v) n).2.1.length).getD d 0 = 0 := by
  rw [solveUpto_eq, setPivs_free, zeros_getD]
  intro i hi e
  rw [solve_piv hM] at hi e
  exact hd (mem_piv.2 ⟨i, hi, e⟩)
theorem solve_dot {M : List (List B)} {v : List B} {n : Nat} (hM : ∀ r ∈ M, r.length = n) (h : lowZero M v n) {i : Nat} (hi : i < M.length) :
    dot n (fn M i) (solveUpto (elimRun (wideS M v) n).1 (elimRun (wideS M v) n).2.1 n (elimRun (wideS M v) n).2.1.length) = v.getD i 0 := by
  have hW := wideS_rows (v := v) hM
  have hl := wideS_length M v
  obtain ⟨F, hF, hf⟩ := elim_ops hW n
  have hform := elim_form hW n
  have hd := fun a (ha : a < (wideS M v).length) => setPivs_dot hform rfl (c := n) (Nat.le_refl n) (v0 := List.replicate n 0) (by simp) (fun j _ => zeros_getD n _) ha _ (Nat.le_refl _)
  rw [solveUpto_eq]
  generalize hx : setPivs (elimRun (wideS M v) n).1 (elimRun (wideS M v) n).2.1 n (List.replicate n 0) (elimRun (wideS M v) n).2.1.length = x at hd ⊢
  have hz := hF.zero (mulF (n + 1) (fn (wideS M v)) (fun t _ => if t < n then x.getD t 0 else 1)) 0 (fun a ha => ?_) i (by omega)
  · have e : mulF (n + 1) (fn (wideS M v)) (fun t _ => if t < n then x.getD t 0 else 1) i 0 = dot n (fn M i) x ^^^ v.getD i 0 := by
      show bsum n _ ^^^ gmul (fn (wideS M v) i n) (if n < n then x.getD n 0 else 1) = _
      rw [if_neg (Nat.lt_irrefl n), gmul_one, wideS_last hM hi]
      congr 1
      exact bsum_congr fun t ht => by
        show gmul (fn (wideS M v) i t) (if t < n then x.getD t 0 else 1) = _
        rw [if_pos ht, wideS_fn hM i t ht]
    rw [e] at hz
    exact bx_eq_zero.1 hz
  · rw [hF.mul, ← hf]
    show bsum n (fun t => gmul (fn (elimRun (wideS M v) n).1 a t) (if t < n then x.getD t 0 else 1)) ^^^ gmul (fn (elimRun (wideS M v) n).1 a n) (if n < n then x.getD n 0 else 1) = _
    rw [if_neg (Nat.lt_irrefl n), gmul_one]
    have e : bsum n (fun t => gmul (fn (elimRun (wideS M v) n).1 a t) (if t < n then x.getD t 0 else 1)) = dot n (fn (elimRun (wideS M v) n).1 a) x := bsum_congr fun t ht => by rw [if_pos ht]
    rw [e, hd a ha, dot_zeros, zero_bx]
    by_cases hk : a < (elimRun (wideS M v) n).2.1.length
    · rw [if_pos hk, bx_self]
    · rw [if_neg hk, zero_bx]
      exact findRow_none h (by omega) (by rw [elimRun_length]; exact ha)
theorem same_total (a c : List (List Int)) (ha : a.length ≤ 1000000) {k : Nat} (hk : a.length < k) : ∃ b, kinkeepref04_Same.f k a c = some b := by
  unfold kinkeepref04_Same.f
  by_cases h : a.length = c.length
  · rw [if_pos (by omega)]
    have go : ∀ n k i, i + n = a.length → n < k → ∃ b, kinkeepref04_Same.l0 k a c (i : Int) = some b := by
      intro n
      induction n with
      | zero =>
        intro k i hi hk
        obtain ⟨k, rfl⟩ : ∃ j, k = j + 1 := ⟨k - 1, by omega⟩
        simp only [kinkeepref04_Same.l0]
        rw [if_neg (by omega)]
        exact ⟨_, rfl⟩
      | succ n ih =>
        intro k i hi hk
        obtain ⟨k, rfl⟩ : ∃ j, k = j + 1 := ⟨k - 1, by omega⟩
        simp only [kinkeepref04_Same.l0]
        rw [if_pos (by omega), if_pos (by omega), if_pos (by omega), wrap_nx' _ (by omega)]
        by_cases e : (strOfNums (rd_L1 a (i : Int))).toList = (strOfNums (rd_L1 c (i : Int))).toList
        · rw [if_pos e]
          exact ih k (i + 1) (by omega) (by omega)
        · rw [if_neg e]
          exact ⟨_, rfl⟩
    exact go a.length k 0 (by omega) hk
  · rw [if_neg (by omega)]
    exact ⟨_, rfl⟩
end Go.Proofs.Ytpkghpljgjlmjaa.K
/- The plain law of MatrixSolves: what the printed function computes is true. -/
namespace Go.Proofs.Ytpkghpljgjlmjaa.Pure
open Go.RowKit Go.Proofs.Ytpkghpljgjlmjaa.K Kin
set_option linter.unusedVariables false
section
variable {M : List (List B)} {v x : List B} {n : Nat} {piv : List Nat}
theorem solves_l1 (hM : ∀ r ∈ M, r.length = n) (hcol : colsN M = n) (hn : n ≤ 64) (hml : M.length ≤ 64) (hvl : v.length = M.length) (hpl : piv.length ≤ 64) (hx : x.length = n) (hfree : ∀ d, d ∉ piv → x.getD d 0 = 0) (hdot : ∀ i, i < M.length → dot n (fn M i) x = v.getD i 0) (m : Nat) :
    ∀ c, c + m = n → Evt (fun k => kinkeeplaw04_MatrixSolves.l1 k (up2 M) (up v) (up x) (natInts piv) (c : Int)) true := by
  induction m with
  | zero =>
    intro c hc
    obtain rfl : c = n := by omega
    have hcl := colM_length x
    have hvc := colM_length v
    by_cases h0 : 0 < c
    · have hcc : colsN (colM x) = 1 := colsN_colM (by omega)
      obtain ⟨K1, h1⟩ := refproduct_b (A := M) (C := colM x) (fun r hr => by rw [hM r hr, hcl, hx]) (fun r hr => by rw [hcc]; exact colM_rows _ r hr) (by omega) (by omega) (by omega)
      simp only at h1
      have ez : mulM M (colM x) 1 = colM v := by
        refine mat_ext (r := M.length) (c := 1) (tabM_length _ _ _) (by omega) (tabM_rows _ _ _) (colM_rows v) (fun i j hi hj => ?_)
        obtain rfl : j = 0 := by omega
        rw [mulM, tabM_fn _ hi hj, colM_fn, ← hdot i hi, hcl, hx]
        unfold mulF dot
        exact bsum_congr fun t _ => by rw [colM_fn]
      refine ⟨K1 + M.length + c + 200, fun k hk => ?_⟩
      obtain ⟨k, rfl⟩ : ∃ j, k = j + 1 := ⟨k - 1, by omega⟩
      simp only [kinkeeplaw04_MatrixSolves.l1]
      rw [if_neg (by rw [up_length]; omega), kinkeeplaw04_awake.f]
      simp only [Option.bind_some, if_true]
      rw [column_b x (by omega) (by omega), column_b v (by omega) (by omega)]
      simp only [Option.bind_some]
      rw [h1 k (by omega)]
      simp only [Option.bind_some]
      rw [hcc, ez, same_self _ (by rw [up2_length]; omega) (by rw [up2_length]; omega)]
      rfl
    · have hx0 : x = [] := List.eq_nil_of_length_eq_zero (by omega)
      obtain ⟨K1, h1⟩ := refproduct_b (A := M) (C := colM x) (fun r hr => by rw [hM r hr, hcl, hx]) (fun r hr => by rw [hx0] at hr; simp [colM] at hr) (by omega) (by rw [hx0]; decide) (by omega)
      simp only at h1
      have hpr : (up2 (mulM M (colM x) (colsN (colM x)))).length = M.length := by rw [up2_length, mulM, tabM_length]
      refine ⟨K1 + M.length + c + 200, fun k hk => ?_⟩
      obtain ⟨k, rfl⟩ : ∃ j, k = j + 1 := ⟨k - 1, by omega⟩
      obtain ⟨b, hb⟩ := same_total (up2 (mulM M (colM x) (colsN (colM x)))) (up2 (colM v)) (by omega) (k := k) (by omega)
      simp only [kinkeeplaw04_MatrixSolves.l1]
      rw [if_neg (by rw [up_length]; omega), kinkeeplaw04_awake.f]
      simp only [Option.bind_some, if_true]
      rw [column_b x (by omega) (by omega), column_b v (by omega) (by omega)]
      simp only [Option.bind_some]
      rw [h1 k (by omega)]
      simp only [Option.bind_some]
      rw [hb]
      simp only [Option.bind_some]
      cases b with
      | true => rfl
      | false =>
        rw [if_neg (by simp)]
        by_cases hm0 : 0 < M.length
        · rw [if_pos (by rw [up2_length]; omega), refcols_b, colsN_up2, hcol, hx0, show c = 0 by omega]
          rfl
        · exfalso
          have e1 : M = [] := List.eq_nil_of_length_eq_zero (by omega)
          have e2 : v = [] := List.eq_nil_of_length_eq_zero (by omega)
          subst e1
          subst e2
          have : (up2 (mulM [] (colM x) (colsN (colM x)))) = up2 (colM []) := rfl
          rw [this, same_self _ (by simp [colM, up2]) (by simp [colM, up2]; omega)] at hb
          cases hb
  | succ m ih =>
    intro c hc
    refine (ih (c + 1) (by omega)).succ fun k hk => ?_
    simp only [kinkeeplaw04_MatrixSolves.l1]
    rw [if_pos (by rw [up_length]; omega), free_b piv (by omega) c (by omega)]
    by_cases hd : c ∈ piv
    · rw [decide_eq_true hd]
      simp only [Option.bind_some, Bool.not_true, Bool.false_eq_true, if_false]
      rw [wrap_nx' _ (by omega)]
    · rw [decide_eq_false hd]
      simp only [Option.bind_some, Bool.not_false, if_true]
      rw [if_pos (by omega), getD_up, hfree c hd, if_pos b2i_zero, wrap_nx' _ (by omega)]
theorem solves_l0 (hM : ∀ r ∈ M, r.length = n) (hcol : colsN M = n) (hn : n ≤ 63) (hml : M.length ≤ 64) (hv : validB M = true) (hvl : v.length = M.length) (hx : solveM M v = some x → x.length = n) (m : Nat) :
    ∀ i, i + m = M.length → Evt (fun k => kinkeeplaw04_MatrixSolves.l0 k (up2 M) (up v) (solveVal (solveM M v)) (solveCode (solveM M v)) (up2 ((wideS M v).take i)) (i : Int)) true := by
  have hW := wideS_rows (v := v) hM
  have hWl := wideS_length M v
  induction m with
  | zero =>
    intro i hi
    obtain rfl : i = M.length := by omega
    have htake : (wideS M v).take M.length = wideS M v := by rw [← hWl, List.take_length]
    have hvw : validB (wideS M v) = true := by
      by_cases h0 : 0 < M.length
      · have hc : colsN (wideS M v) = n + 1 := by
          cases hw : wideS M v with
          | nil => rw [hw] at hWl; simp at hWl; omega
          | cons a t => rw [hw] at hW; exact hW a List.mem_cons_self
        simp only [validB, Bool.and_eq_true, decide_eq_true_eq, List.all_eq_true]
        exact ⟨by omega, by omega, fun r hr => by rw [hW r hr, hc]⟩
      · have : wideS M v = [] := List.eq_nil_of_length_eq_zero (by omega)
        rw [this]; rfl
    have hrank : ((elimRun (wideS M v) (colsN (wideS M v))).2.1.length = (elimRun M n).2.1.length) ↔ lowZero M v n := by
      by_cases h0 : 0 < M.length
      · have hc : colsN (wideS M v) = n + 1 := by
          cases hw : wideS M v with
          | nil => rw [hw] at hWl; simp at hWl; omega
          | cons a t => rw [hw] at hW; exact hW a List.mem_cons_self
        rw [hc]
        exact rank_wide hM
      · have e1 : M = [] := List.eq_nil_of_length_eq_zero (by omega)
        subst e1
        have : n = 0 := by rw [← hcol]; rfl
        subst this
        constructor
        · intro _; rfl
        · intro _; rfl
    by_cases hz : lowZero M v n
    · have hs := solve_some (M := M) (v := v) (by rw [hcol]; exact hz)
      rw [hcol] at hs
      have hxl := hx
      generalize hxe : solveUpto (elimRun (wideS M v) n).1 (elimRun (wideS M v) n).2.1 n (elimRun (wideS M v) n).2.1.length = y at hs
      have hyl : y.length = n := by rw [← hxe]; exact solveUpto_length _ _ _ _
      obtain ⟨K, h⟩ := solves_l1 (M := M) (v := v) (x := y) (piv := (elimRun M n).2.1) hM hcol (by omega) hml hvl (by have := elimRun_piv M n; omega) hyl (fun d hd => by rw [← hxe]; exact solve_free hM hd) (fun i hi => by rw [← hxe]; exact solve_dot hM hz hi) n 0 (by omega)
      simp only at h
      refine ⟨K + 3, fun k hk => ?_⟩
      obtain ⟨k, rfl⟩ : ∃ j, k = j + 2 := ⟨k - 2, by omega⟩
      rw [hs]
      simp only [kinkeeplaw04_MatrixSolves.l0]
      rw [if_neg (by rw [up2_length]; omega), htake, rank_up _ hvw, rank_up _ hv, hcol]
      simp only [Option.bind_some]
      rw [if_pos (by have := hrank.2 hz; omega), refreduce_up M hv, hcol]
      simp only [Option.bind_some, solveCode, solveVal, if_true]
      rw [refcols_b, colsN_up2, hcol]
      simp only [Option.bind_some]
      rw [up_length, hyl, show ((n : Int) != (n : Int)) = false by simp]
      simp only [kinkeeplaw04_MatrixSolves.j3, Bool.false_eq_true, if_false]
      exact h k (by omega)
    · have hs := solve_none (M := M) (v := v) (by rw [hcol]; exact hz)
      refine Evt.of 1 fun k hk => ?_
      obtain ⟨k, rfl⟩ : ∃ j, k = j + 1 := ⟨k - 1, by omega⟩
      rw [hs]
      simp only [kinkeeplaw04_MatrixSolves.l0]
      rw [if_neg (by rw [up2_length]; omega), htake, rank_up _ hvw, rank_up _ hv, hcol]
      simp only [Option.bind_some]
      rw [if_neg (fun e => hz (hrank.1 (by omega))), kinkeeplaw04_awake.f]
      rfl
  | succ m ih =>
    intro i hi
    refine (ih (i + 1) (by omega)).succ fun k hk => ?_
    have hi' : i < M.length := by omega
    have l1 : (M.getD i []).length = n := hM _ (getD_mem' hi')
    simp only [kinkeeplaw04_MatrixSolves.l0]
    rw [if_pos (by rw [up2_length]; omega)]
    simp only [Option.bind_some]
    rw [if_pos (by omega), rd_L1_up2, if_pos (by rw [up_length, l1]; simp only [List.length_nil]; omega), if_pos (by rw [up_length]; omega)]
    simp only [List.nil_append]
    rw [if_pos (by rw [up_length, l1]; simp only [List.length_cons, List.length_nil]; omega), if_pos (by rw [up2_length, List.length_take]; simp only [List.length_cons, List.length_nil]; omega), wrap_nx' _ (by omega), getD_up]
    have e : (wideS M v).take (i + 1) = (wideS M v).take i ++ [M.getD i [] ++ [v.getD i 0]] := by
      rw [List.take_succ_eq_append_getElem (by omega)]
      congr 2
      rw [← row_at (by omega), wideS_row hi']
    rw [e, up2_append]
    congr 2
    rw [up2_cons, up_append]
    rfl
end
theorem MatrixSolves (M : List (List B)) (hM : (up2 M).length ≤ 9223372036854775807) (v : List B) (hv : (up v).length ≤ 9223372036854775807) : ∃ k, kinkeeplaw04_MatrixSolves.f k (up2 M) (up v) = some true := by
  have F : ∀ k, (up2 M).length < k → kinkeeplaw04_MatrixSolves.f k (up2 M) (up v) = kinkeeplaw04_MatrixSolves.j0 k (up2 M) (up v) (!(fewB (up2 M) 7 && decide ((up v).length ≤ 8))) := by
    intro k hk
    unfold kinkeeplaw04_MatrixSolves.f
    rw [show (7 : Int) = ((7 : Nat) : Int) from rfl, few_b (up2 M) 7 hM (by omega)]
    simp only [Option.bind_some]
    cases fewB (up2 M) 7 with
    | false => rfl
    | true =>
      rw [if_pos rfl, Bool.true_and]
      congr 1
      rw [← decide_not, decide_eq_decide]
      omega
  by_cases hf : (fewB (up2 M) 7 && decide ((up v).length ≤ 8)) = true
  · rw [Bool.and_eq_true, decide_eq_true_eq] at hf
    obtain ⟨f1, f2⟩ := fewB_true hf.1
    rw [up2_length] at f1
    by_cases hg : validB M = true ∧ v.length = M.length
    · obtain ⟨v1, v2, v3⟩ := validB_lim hg.1
      have hc7 : colsN M ≤ 7 := by
        cases M with
        | nil => exact Nat.zero_le _
        | cons a t =>
          have := f2 (up a) (by simp [up2])
          rwa [up_length] at this
      obtain ⟨K, h⟩ := solves_l0 (M := M) (v := v) (x := v) v3 rfl (by omega) v1 hg.1 hg.2 (fun e => by
        by_cases hz : lowZero M v (colsN M)
        · rw [solve_some hz] at e
          rw [← Option.some.inj e]
          exact solveUpto_length _ _ _ _
        · rw [solve_none hz] at e
          cases e) M.length 0 (by omega)
      simp only at h
      obtain ⟨k, hk⟩ : ∃ k, K + M.length + 200 ≤ k := ⟨_, Nat.le_refl _⟩
      refine ⟨k + 2, ?_⟩
      rw [F _ (by rw [up2_length]; omega), hf.1, decide_eq_true hf.2]
      simp only [kinkeeplaw04_MatrixSolves.j0, Bool.and_self, Bool.not_true, Bool.false_eq_true, if_false]
      rw [solve_up M v hg.1 hg.2, refvalid_b _ (by omega), validB_up2, hg.1]
      simp only [Option.bind_some, if_true]
      rw [show (((up v).length : Int) != ((up2 M).length : Int)) = false by rw [up_length, up2_length, hg.2]; simp]
      simp only [kinkeeplaw04_MatrixSolves.j1, Bool.false_eq_true, if_false]
      exact h _ (by omega)
    · obtain ⟨k, hk⟩ : ∃ k, (up2 M).length + 200 ≤ k := ⟨_, Nat.le_refl _⟩
      refine ⟨k + 2, ?_⟩
      rw [F _ (by omega), hf.1, decide_eq_true hf.2]
      simp only [kinkeeplaw04_MatrixSolves.j0, Bool.and_self, Bool.not_true, Bool.false_eq_true, if_false]
      have hs : matrix_Solve.f (up2 M) (up v) = some ([], 1) := by
        unfold matrix_Solve.f
        rw [if_neg]
        rw [validB_up2, up_length, up2_length]
        simpa using hg
      have tl : ∀ k, kinkeeplaw04_MatrixSolves.j1 (k + 1) (up2 M) (up v) [] 1 true = some true := by
        intro k
        simp only [kinkeeplaw04_MatrixSolves.j1, if_true, kinkeeplaw04_awake.f]
        rfl
      rw [hs, refvalid_b _ (by omega), validB_up2]
      simp only [Option.bind_some]
      by_cases g0 : validB M = true
      · rw [if_pos g0, show (((up v).length : Int) != ((up2 M).length : Int)) = true by rw [up_length, up2_length, bne_iff_ne]; intro e; exact hg ⟨g0, by omega⟩]
        exact tl _
      · rw [if_neg g0]
        exact tl _
  · obtain ⟨k, hk⟩ : ∃ k, (up2 M).length + 200 ≤ k := ⟨_, Nat.le_refl _⟩
    refine ⟨k + 1, ?_⟩
    rw [F _ (by omega), show (fewB (up2 M) 7 && decide ((up v).length ≤ 8)) = false by simpa using hf]
    simp only [kinkeeplaw04_MatrixSolves.j0, Bool.not_false, if_true, kinkeeplaw04_awake.f]
    rfl
end Go.Proofs.Ytpkghpljgjlmjaa.Pure
/- An argument that is a list of bytes or of ints, opened. -/
namespace Go.Proofs.Ytpkghpljgjlmjaa.K
open Go.RowKit Go.WideShapes Go.ChangeShapes Go.ChangeAt Go.Proofs.YtpkghpljgjlmjaaW.PrintWords Go.Proofs.YtpkghpljgjlmjaaW.PrintLast Go.Proofs.YtpkghpljgjlmjaaW.PrintMore
set_option linter.unusedVariables false
theorem C_of_cells {k : IntKind} {W : World} {x : Addr} {len cap : Nat} {zs : List Int} (hl : len ≤ cap) (hm : cap ≤ maxLen) (hz : zs.length = cap) (hcell : ∀ i, i < zs.length → W.cell? (x.add i) = some (.int k (zs.getD i 0))) :
    len = (zs.take len).length ∧ (zs.take len).length ≤ cap ∧ Kd.C (Kd.int k) W (some x) (zs.take len).length (zs.take len) := by
  have hlen : (zs.take len).length = len := by rw [List.length_take]; omega
  refine ⟨hlen.symm, by omega, rfl, by rw [hlen]; have : cap ≤ 9223372036854775807 := hm; omega, fun hp => ⟨x, rfl, fun i y hi => ?_⟩⟩
  have hil : i < len := by
    have := (List.getElem?_eq_some_iff.1 hi).1
    rwa [hlen] at this
  have hy : y = zs.getD i 0 := by
    rw [List.getElem?_take_of_lt hil] at hi
    rw [List.getD_eq_getElem?_getD, hi]; rfl
  subst hy
  refine ⟨[.int k (zs.getD i 0)], rfl, rfl, fun j u hj => ?_⟩
  cases j with
  | zero =>
    simp only [List.getElem?_cons_zero, Option.some.injEq] at hj
    subst hj
    rw [show i * (Kd.int k).sz + 0 = i from by show i * 1 + 0 = i; omega]
    exact hcell i (by omega)
  | succ j => simp at hj
theorem bytes_of_trod {H : Type} {enc : TypeId × Value → H} {W : World} {a : Option Addr} {len cap : Nat} {d : DataW H} {p : List MemPlace} (h : DataW.Trod enc Try.prog W 0 (fun _ => true) true 34 (.slice a len cap) d p) :
    ∃ zs : List Int, len = zs.length ∧ zs.length ≤ cap ∧ Kd.C (Kd.int .u8) W a zs.length zs ∧ ∀ x ∈ zs, isB x = true := by
  obtain ⟨fuel, hf⟩ := h
  rcases open_ints Try.underlying34 Try.underlying5 (by kernel_rfl) hf with ⟨hcs, _⟩ | ⟨x, l, c, zs, hcs, _, hl, hm, hz, _, hcell, hwz⟩
  · simp [Value.cells] at hcs
    obtain ⟨rfl, rfl, rfl⟩ := hcs
    exact ⟨[], rfl, Nat.zero_le _, ⟨rfl, by decide, fun hp => absurd hp (by decide)⟩, fun x hx => by simp at hx⟩
  · simp [Value.cells] at hcs
    obtain ⟨rfl, rfl, rfl⟩ := hcs
    obtain ⟨h1, h2, h3⟩ := C_of_cells hl hm (by simpa using hz) hcell
    exact ⟨zs.take len, h1, h2, h3, fun y hy => isB_of_wf (hwz y (List.mem_of_mem_take hy))⟩
end Go.Proofs.Ytpkghpljgjlmjaa.K
