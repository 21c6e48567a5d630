/- Walks and plain facts behind the laws of package matrix. No conditions. -/
import Derived.Test.YtpkghpljgjlmjaaClaimk2
-- Lines of this claim, written by the session's own program kprint.py (it runs print.py).
namespace Go.Proofs.Ytpkghpljgjlmjaa.K
open Go.RowKit Go.Proofs.YtpkghpljgjlmjaaW.PrintWords Go.Proofs.YtpkghpljgjlmjaaW.PrintLast Go.Proofs.YtpkghpljgjlmjaaW.PrintMore
attribute [local go_sem] max2_int min2_int max_two min_two max_three min_three max_four min_four   -- for this text's walks alone
set_option linter.unusedVariables false
set_option linter.unusedSimpArgs false

/-! ### kinkeeplaw04_MatrixKernels: function 4 -/
mutual
def kinkeeplaw04_MatrixKernels.l0 : Nat → List (List Int) → List (List Int) → Int → List Int → Int → Int → Option (Bool)
  | 0, _, _, _, _, _, _ => none
  | k + 1, x0, x3, x4, x6, x7, x8 => (kinkeepref04_Cols.f x0).bind fun t115 => (if x8 < t115 then ((kinkeeplaw04_free.f k x6 x8).bind fun t117 => (if t117 = true then (if x7 ≥ (x3.length : Int) then (kinkeeplaw04_MatrixKernels.j1 k x0 x3 x4 x6 x7 x8 true) else (if 0 ≤ x7 then (if x7 < (x3.length : Int) then ((kinkeepref04_Cols.f x0).bind fun t119 => (kinkeeplaw04_MatrixKernels.j1 k x0 x3 x4 x6 x7 x8 (((rd_L1 x3 x7).length : Int) != t119))) else (none)) else (none))) else (kinkeeplaw04_MatrixKernels.l0 k x0 x3 x4 x6 x7 (wrap64 (x8 + 1))))) else ((kinkeeplaw04_awake.f).bind fun t116 => (if t116 = true then (if x4 = 0 then (some (x7 == (x3.length : Int))) else (some false)) else (some false))))
def kinkeeplaw04_MatrixKernels.j1 : Nat → List (List Int) → List (List Int) → Int → List Int → Int → Int → Bool → Option (Bool)
  | 0, _, _, _, _, _, _, _ => none
  | k + 1, x0, x3, x4, x6, x7, x8, x60 => if x60 = true then (some false) else (kinkeeplaw04_MatrixKernels.l1 k x0 x3 x4 x6 x7 x8 0)
def kinkeeplaw04_MatrixKernels.l1 : Nat → List (List Int) → List (List Int) → Int → List Int → Int → Int → Int → Option (Bool)
  | 0, _, _, _, _, _, _, _ => none
  | k + 1, x0, x3, x4, x6, x7, x8, x9 => (kinkeepref04_Cols.f x0).bind fun t120 => (if x9 < t120 then ((kinkeeplaw04_free.f k x6 x9).bind fun t121 => (if t121 = true then (if 0 ≤ x7 then (if x7 < (x3.length : Int) then (if 0 ≤ x9 then (if x9 < ((rd_L1 x3 x7).length : Int) then (if (((rd (rd_L1 x3 x7) x9) == 1) != (x8 == x9)) = true then (some false) else ((kinkeeplaw04_free.f k x6 x9).bind fun t124 => (if t124 = true then (if x8 = x9 then (kinkeeplaw04_MatrixKernels.l1 k x0 x3 x4 x6 x7 x8 (wrap64 (x9 + 1))) else (if (rd (rd_L1 x3 x7) x9) = 0 then (kinkeeplaw04_MatrixKernels.l1 k x0 x3 x4 x6 x7 x8 (wrap64 (x9 + 1))) else (some false))) else (kinkeeplaw04_MatrixKernels.l1 k x0 x3 x4 x6 x7 x8 (wrap64 (x9 + 1)))))) else (none)) else (none)) else (none)) else (none)) else ((kinkeeplaw04_free.f k x6 x9).bind fun t127 => (if t127 = true then (if x8 = x9 then (kinkeeplaw04_MatrixKernels.l1 k x0 x3 x4 x6 x7 x8 (wrap64 (x9 + 1))) else (if 0 ≤ x7 then (if x7 < (x3.length : Int) then (if 0 ≤ x9 then (if x9 < ((rd_L1 x3 x7).length : Int) then (if (rd (rd_L1 x3 x7) x9) = 0 then (kinkeeplaw04_MatrixKernels.l1 k x0 x3 x4 x6 x7 x8 (wrap64 (x9 + 1))) else (some false)) else (none)) else (none)) else (none)) else (none))) else (kinkeeplaw04_MatrixKernels.l1 k x0 x3 x4 x6 x7 x8 (wrap64 (x9 + 1))))))) else (if 0 ≤ x7 then (if x7 < (x3.length : Int) then ((kinkeeplaw04_column.f k (rd_L1 x3 x7)).bind fun t131 => ((kinkeepref04_Product.f k x0 t131).bind fun t134 => ((kinkeepref04_Zero.f k (x0.length : Int) 1).bind fun t137 => ((kinkeepref04_Same.f k t134 t137).bind fun t140 => (if t140 = true then (kinkeeplaw04_MatrixKernels.l0 k x0 x3 x4 x6 (wrap64 (x7 + 1)) (wrap64 (x8 + 1))) else (some false)))))) else (none)) else (none)))
end
def kinkeeplaw04_MatrixKernels.f (k : Nat) (l0 : List (List Int)) : Option (Bool) := (kinkeeplaw04_few.f k l0 8).bind fun t101 => (if t101 = true then ((matrix_Kernel.f k l0).bind fun bt103 => ((kinkeepref04_Valid.f k l0).bind fun t107 => (if t107 = true then ((kinkeepref04_Reduce.f l0).bind fun bt109 => (kinkeeplaw04_MatrixKernels.l0 k l0 bt103.1 bt103.2 bt109.2 0 0)) else ((kinkeeplaw04_awake.f).bind fun t108 => (if t108 = true then (if bt103.2 = 1 then (some ((bt103.1.length : Int) == 0)) else (some false)) else (some false)))))) else ((kinkeeplaw04_awake.f).bind fun t102 => (some t102)))
set_option maxHeartbeats 40000000 in
set_option maxRecDepth 100000 in
theorem kinkeeplaw04_MatrixKernels.calls (k : Nat) (A0 : Option Addr) (c0 : Nat) (l0 : List (List Int)) (r : Bool) (hrt : r = true) (w : World) (hr0 : Kd.C (Kd.slice 5 (Kd.int .u8)) w A0 l0.length l0) (hc0 : l0.length ≤ c0) (h : kinkeeplaw04_MatrixKernels.f k l0 = some r) :
    Calls Try.prog 4 #[.slice A0 l0.length c0] w fun e w' => e = .returned (.bool r) ∧ Below w.heap.size w w' := by
  have HR0 := Aside0.mk hr0
  have HRT := Aside0.mk hrt
  clear hrt
  have HC0 := Aside0.mk hc0
  clear hr0 hc0
  have HB := Aside0.mk (Below.refl w.heap.size w)
  have H : ((kinkeeplaw04_few.f k l0 8).bind fun t101 => (if t101 = true then ((matrix_Kernel.f k l0).bind fun bt103 => ((kinkeepref04_Valid.f k l0).bind fun t107 => (if t107 = true then ((kinkeepref04_Reduce.f l0).bind fun bt109 => (kinkeeplaw04_MatrixKernels.l0 k l0 bt103.1 bt103.2 bt109.2 0 0)) else ((kinkeeplaw04_awake.f).bind fun t108 => (if t108 = true then (if bt103.2 = 1 then (some ((bt103.1.length : Int) == 0)) else (some false)) else (some false)))))) else ((kinkeeplaw04_awake.f).bind fun t102 => (some t102)))) = some r := h
  clear h
  replace H := Option.bind_eq_some_iff.mp H
  obtain ⟨t101, A20, H⟩ := H
  replace H : (if t101 = true then ((matrix_Kernel.f k l0).bind fun bt103 => ((kinkeepref04_Valid.f k l0).bind fun t107 => (if t107 = true then ((kinkeepref04_Reduce.f l0).bind fun bt109 => (kinkeeplaw04_MatrixKernels.l0 k l0 bt103.1 bt103.2 bt109.2 0 0)) else ((kinkeeplaw04_awake.f).bind fun t108 => (if t108 = true then (if bt103.2 = 1 then (some ((bt103.1.length : Int) == 0)) else (some false)) else (some false)))))) else ((kinkeeplaw04_awake.f).bind fun t102 => (some t102))) = some r := H
  have A2 := Aside0.mk A20
  clear A20
  by_cases c3 : t101 = true
  · subst c3
    have H1 : ((matrix_Kernel.f k l0).bind fun bt103 => ((kinkeepref04_Valid.f k l0).bind fun t107 => (if t107 = true then ((kinkeepref04_Reduce.f l0).bind fun bt109 => (kinkeeplaw04_MatrixKernels.l0 k l0 bt103.1 bt103.2 bt109.2 0 0)) else ((kinkeeplaw04_awake.f).bind fun t108 => (if t108 = true then (if bt103.2 = 1 then (some ((bt103.1.length : Int) == 0)) else (some false)) else (some false)))))) = some r := by rw [if_pos rfl] at H; exact H
    clear H
    have H := H1
    clear H1
    replace H := Option.bind_eq_some_iff.mp H
    obtain ⟨⟨t103, t104⟩, A40, H⟩ := H
    replace H : ((kinkeepref04_Valid.f k l0).bind fun t107 => (if t107 = true then ((kinkeepref04_Reduce.f l0).bind fun bt109 => (kinkeeplaw04_MatrixKernels.l0 k l0 t103 t104 bt109.2 0 0)) else ((kinkeeplaw04_awake.f).bind fun t108 => (if t108 = true then (if t104 = 1 then (some ((t103.length : Int) == 0)) else (some false)) else (some false))))) = some r := H
    have A4 := Aside0.mk A40
    clear A40
    replace H := Option.bind_eq_some_iff.mp H
    obtain ⟨t107, A50, H⟩ := H
    replace H : (if t107 = true then ((kinkeepref04_Reduce.f l0).bind fun bt109 => (kinkeeplaw04_MatrixKernels.l0 k l0 t103 t104 bt109.2 0 0)) else ((kinkeeplaw04_awake.f).bind fun t108 => (if t108 = true then (if t104 = 1 then (some ((t103.length : Int) == 0)) else (some false)) else (some false)))) = some r := H
    have A5 := Aside0.mk A50
    clear A50
    by_cases c6 : t107 = true
    · subst c6
      have H1 : ((kinkeepref04_Reduce.f l0).bind fun bt109 => (kinkeeplaw04_MatrixKernels.l0 k l0 t103 t104 bt109.2 0 0)) = some r := by rw [if_pos rfl] at H; exact H
      clear H
      have H := H1
      clear H1
      replace H := Option.bind_eq_some_iff.mp H
      obtain ⟨⟨t109, t110⟩, A70, H⟩ := H
      replace H : (kinkeeplaw04_MatrixKernels.l0 k l0 t103 t104 t110 0 0) = some r := H
      have A7 := Aside0.mk A70
      clear A70
      have H' := Aside0.mk H
      clear H
      go_enter Try.func4, Try.ntmps4
      go_wp2_with (first | (go_at_call 15; (with_reducible refine (kinkeeplaw04_few.calls k _ _ l0 8 true _ ?side1 ?side2 A2.out).mono ?_); (case side1 => repeat (first | exact HR0.out | (with_reducible refine Kd.C_alloc ?_ _) | (with_reducible refine Kd.C_drewN ?_ _) | (with_reducible refine Kd.C_drew ?_))); (case side2 => exact HC0.out); rintro e w' ⟨rfl, ⟨nd, rfl⟩⟩; (try first | exact ⟨rfl, _, World.drewN_drewN _ _ _⟩ | exact ⟨rfl, _, Eq.trans (World.drewN_drewN _ _ _) (congrArg (World.drewN _) (Nat.add_assoc _ _ _))⟩)) | (go_at_call 19; (with_reducible refine (matrix_Kernel.calls k _ _ l0 t103 t104 _ ?side1 ?side2 A4.out).mono ?_); (case side1 => repeat (first | exact HR0.out | (with_reducible refine Kd.C_alloc ?_ _) | (with_reducible refine Kd.C_drewN ?_ _) | (with_reducible refine Kd.C_drew ?_))); (case side2 => exact HC0.out); rintro e w8 ⟨v105, rfl, ho0, hb⟩; have n0_ := Aside0.mk (Kd.S_lower ho0 (below_size (by repeat (first | (with_reducible first | exact HB.out | apply below_alloc | apply pw_below_drewN | apply below_drew1) | exact HB.out)))); have n1_ := Aside0.mk (below_step (by repeat (first | (with_reducible first | exact HB.out | apply below_alloc | apply pw_below_drewN | apply below_drew1) | exact HB.out)) hb); clear HB; have HO106 := n0_; have HB := n1_; clear n0_ n1_; (try clear hb); (try clear hb2); (try clear hk); (try clear hi); (try clear ho0)) | (go_at_call 18; (with_reducible refine (kinkeepref04_Valid.calls k _ _ l0 true _ ?side1 ?side2 A5.out).mono ?_); (case side1 => repeat (first | exact (Kd.C_below HR0.out HB.out) | (with_reducible refine Kd.C_alloc ?_ _) | (with_reducible refine Kd.C_drewN ?_ _) | (with_reducible refine Kd.C_drew ?_))); (case side2 => exact HC0.out); rintro e w' ⟨rfl, ⟨nd, rfl⟩⟩; (try first | exact ⟨rfl, _, World.drewN_drewN _ _ _⟩ | exact ⟨rfl, _, Eq.trans (World.drewN_drewN _ _ _) (congrArg (World.drewN _) (Nat.add_assoc _ _ _))⟩)) | (go_at_call 20; (with_reducible refine (kinkeepref04_Reduce.calls _ _ l0 t109 t110 _ ?side1 ?side2 A7.out).mono ?_); (case side1 => repeat (first | exact (Kd.C_below HR0.out (by repeat (first | (with_reducible first | exact HB.out | apply below_alloc | apply pw_below_drewN | apply below_drew1) | exact HB.out))) | (with_reducible refine Kd.C_alloc ?_ _) | (with_reducible refine Kd.C_drewN ?_ _) | (with_reducible refine Kd.C_drew ?_))); (case side2 => exact HC0.out); rintro e w9 ⟨v111, v113, rfl, ho0, ho1, hb⟩; have n0_ := Aside0.mk (Kd.S_elder' (by (with_reducible repeat (first | apply Kd.S_alloc | apply Kd.S_drewN | apply Kd.S_drew)); exact HO106.out) (Kd.S_base ho0) hb); have n1_ := Aside0.mk (Kd.S_lower (Kd.S_new' ho0 (Kd.S_lt (by (with_reducible repeat (first | apply Kd.S_alloc | apply Kd.S_drewN | apply Kd.S_drew)); exact HO106.out))) (below_size (by repeat (first | (with_reducible first | exact HB.out | apply below_alloc | apply pw_below_drewN | apply below_drew1) | exact HB.out)))); have n2_ := Aside0.mk (Kd.R_lower ho1 (below_size (by repeat (first | (with_reducible first | exact HB.out | apply below_alloc | apply pw_below_drewN | apply below_drew1) | exact HB.out)))); have n3_ := Aside0.mk (below_step (by repeat (first | (with_reducible first | exact HB.out | apply below_alloc | apply pw_below_drewN | apply below_drew1) | exact HB.out)) hb); clear HO106; clear HB; have HO106 := n0_; have HO112 := n1_; have HO114 := n2_; have HB := n3_; clear n0_ n1_ n2_ n3_; (try clear hb); (try clear hb2); (try clear hk); (try clear hi); (try clear ho0); (try clear ho1)))
      repeat (go_quiet (first | (go_at_call 15; (with_reducible refine (kinkeeplaw04_few.calls k _ _ l0 8 true _ ?side1 ?side2 A2.out).mono ?_); (case side1 => repeat (first | exact HR0.out | (with_reducible refine Kd.C_alloc ?_ _) | (with_reducible refine Kd.C_drewN ?_ _) | (with_reducible refine Kd.C_drew ?_))); (case side2 => exact HC0.out); rintro e w' ⟨rfl, ⟨nd, rfl⟩⟩; (try first | exact ⟨rfl, _, World.drewN_drewN _ _ _⟩ | exact ⟨rfl, _, Eq.trans (World.drewN_drewN _ _ _) (congrArg (World.drewN _) (Nat.add_assoc _ _ _))⟩)) | (go_at_call 19; (with_reducible refine (matrix_Kernel.calls k _ _ l0 t103 t104 _ ?side1 ?side2 A4.out).mono ?_); (case side1 => repeat (first | exact HR0.out | (with_reducible refine Kd.C_alloc ?_ _) | (with_reducible refine Kd.C_drewN ?_ _) | (with_reducible refine Kd.C_drew ?_))); (case side2 => exact HC0.out); rintro e w8 ⟨v105, rfl, ho0, hb⟩; have n0_ := Aside0.mk (Kd.S_lower ho0 (below_size (by repeat (first | (with_reducible first | exact HB.out | apply below_alloc | apply pw_below_drewN | apply below_drew1) | exact HB.out)))); have n1_ := Aside0.mk (below_step (by repeat (first | (with_reducible first | exact HB.out | apply below_alloc | apply pw_below_drewN | apply below_drew1) | exact HB.out)) hb); clear HB; have HO106 := n0_; have HB := n1_; clear n0_ n1_; (try clear hb); (try clear hb2); (try clear hk); (try clear hi); (try clear ho0)) | (go_at_call 18; (with_reducible refine (kinkeepref04_Valid.calls k _ _ l0 true _ ?side1 ?side2 A5.out).mono ?_); (case side1 => repeat (first | exact (Kd.C_below HR0.out HB.out) | (with_reducible refine Kd.C_alloc ?_ _) | (with_reducible refine Kd.C_drewN ?_ _) | (with_reducible refine Kd.C_drew ?_))); (case side2 => exact HC0.out); rintro e w' ⟨rfl, ⟨nd, rfl⟩⟩; (try first | exact ⟨rfl, _, World.drewN_drewN _ _ _⟩ | exact ⟨rfl, _, Eq.trans (World.drewN_drewN _ _ _) (congrArg (World.drewN _) (Nat.add_assoc _ _ _))⟩)) | (go_at_call 20; (with_reducible refine (kinkeepref04_Reduce.calls _ _ l0 t109 t110 _ ?side1 ?side2 A7.out).mono ?_); (case side1 => repeat (first | exact (Kd.C_below HR0.out (by repeat (first | (with_reducible first | exact HB.out | apply below_alloc | apply pw_below_drewN | apply below_drew1) | exact HB.out))) | (with_reducible refine Kd.C_alloc ?_ _) | (with_reducible refine Kd.C_drewN ?_ _) | (with_reducible refine Kd.C_drew ?_))); (case side2 => exact HC0.out); rintro e w9 ⟨v111, v113, rfl, ho0, ho1, hb⟩; have n0_ := Aside0.mk (Kd.S_elder' (by (with_reducible repeat (first | apply Kd.S_alloc | apply Kd.S_drewN | apply Kd.S_drew)); exact HO106.out) (Kd.S_base ho0) hb); have n1_ := Aside0.mk (Kd.S_lower (Kd.S_new' ho0 (Kd.S_lt (by (with_reducible repeat (first | apply Kd.S_alloc | apply Kd.S_drewN | apply Kd.S_drew)); exact HO106.out))) (below_size (by repeat (first | (with_reducible first | exact HB.out | apply below_alloc | apply pw_below_drewN | apply below_drew1) | exact HB.out)))); have n2_ := Aside0.mk (Kd.R_lower ho1 (below_size (by repeat (first | (with_reducible first | exact HB.out | apply below_alloc | apply pw_below_drewN | apply below_drew1) | exact HB.out)))); have n3_ := Aside0.mk (below_step (by repeat (first | (with_reducible first | exact HB.out | apply below_alloc | apply pw_below_drewN | apply below_drew1) | exact HB.out)) hb); clear HO106; clear HB; have HO106 := n0_; have HO112 := n1_; have HO114 := n2_; have HB := n3_; clear n0_ n1_ n2_ n3_; (try clear hb); (try clear hb2); (try clear hk); (try clear hi); (try clear ho0); (try clear ho1))); try go_wp2_with (first | (go_at_call 15; (with_reducible refine (kinkeeplaw04_few.calls k _ _ l0 8 true _ ?side1 ?side2 A2.out).mono ?_); (case side1 => repeat (first | exact HR0.out | (with_reducible refine Kd.C_alloc ?_ _) | (with_reducible refine Kd.C_drewN ?_ _) | (with_reducible refine Kd.C_drew ?_))); (case side2 => exact HC0.out); rintro e w' ⟨rfl, ⟨nd, rfl⟩⟩; (try first | exact ⟨rfl, _, World.drewN_drewN _ _ _⟩ | exact ⟨rfl, _, Eq.trans (World.drewN_drewN _ _ _) (congrArg (World.drewN _) (Nat.add_assoc _ _ _))⟩)) | (go_at_call 19; (with_reducible refine (matrix_Kernel.calls k _ _ l0 t103 t104 _ ?side1 ?side2 A4.out).mono ?_); (case side1 => repeat (first | exact HR0.out | (with_reducible refine Kd.C_alloc ?_ _) | (with_reducible refine Kd.C_drewN ?_ _) | (with_reducible refine Kd.C_drew ?_))); (case side2 => exact HC0.out); rintro e w8 ⟨v105, rfl, ho0, hb⟩; have n0_ := Aside0.mk (Kd.S_lower ho0 (below_size (by repeat (first | (with_reducible first | exact HB.out | apply below_alloc | apply pw_below_drewN | apply below_drew1) | exact HB.out)))); have n1_ := Aside0.mk (below_step (by repeat (first | (with_reducible first | exact HB.out | apply below_alloc | apply pw_below_drewN | apply below_drew1) | exact HB.out)) hb); clear HB; have HO106 := n0_; have HB := n1_; clear n0_ n1_; (try clear hb); (try clear hb2); (try clear hk); (try clear hi); (try clear ho0)) | (go_at_call 18; (with_reducible refine (kinkeepref04_Valid.calls k _ _ l0 true _ ?side1 ?side2 A5.out).mono ?_); (case side1 => repeat (first | exact (Kd.C_below HR0.out HB.out) | (with_reducible refine Kd.C_alloc ?_ _) | (with_reducible refine Kd.C_drewN ?_ _) | (with_reducible refine Kd.C_drew ?_))); (case side2 => exact HC0.out); rintro e w' ⟨rfl, ⟨nd, rfl⟩⟩; (try first | exact ⟨rfl, _, World.drewN_drewN _ _ _⟩ | exact ⟨rfl, _, Eq.trans (World.drewN_drewN _ _ _) (congrArg (World.drewN _) (Nat.add_assoc _ _ _))⟩)) | (go_at_call 20; (with_reducible refine (kinkeepref04_Reduce.calls _ _ l0 t109 t110 _ ?side1 ?side2 A7.out).mono ?_); (case side1 => repeat (first | exact (Kd.C_below HR0.out (by repeat (first | (with_reducible first | exact HB.out | apply below_alloc | apply pw_below_drewN | apply below_drew1) | exact HB.out))) | (with_reducible refine Kd.C_alloc ?_ _) | (with_reducible refine Kd.C_drewN ?_ _) | (with_reducible refine Kd.C_drew ?_))); (case side2 => exact HC0.out); rintro e w9 ⟨v111, v113, rfl, ho0, ho1, hb⟩; have n0_ := Aside0.mk (Kd.S_elder' (by (with_reducible repeat (first | apply Kd.S_alloc | apply Kd.S_drewN | apply Kd.S_drew)); exact HO106.out) (Kd.S_base ho0) hb); have n1_ := Aside0.mk (Kd.S_lower (Kd.S_new' ho0 (Kd.S_lt (by (with_reducible repeat (first | apply Kd.S_alloc | apply Kd.S_drewN | apply Kd.S_drew)); exact HO106.out))) (below_size (by repeat (first | (with_reducible first | exact HB.out | apply below_alloc | apply pw_below_drewN | apply below_drew1) | exact HB.out)))); have n2_ := Aside0.mk (Kd.R_lower ho1 (below_size (by repeat (first | (with_reducible first | exact HB.out | apply below_alloc | apply pw_below_drewN | apply below_drew1) | exact HB.out)))); have n3_ := Aside0.mk (below_step (by repeat (first | (with_reducible first | exact HB.out | apply below_alloc | apply pw_below_drewN | apply below_drew1) | exact HB.out)) hb); clear HO106; clear HB; have HO106 := n0_; have HO112 := n1_; have HO114 := n2_; have HB := n3_; clear n0_ n1_ n2_ n3_; (try clear hb); (try clear hb2); (try clear hk); (try clear hi); (try clear ho0); (try clear ho1))))
      go_loopg [7, 8] k (fun kq v7 v8 w' => ∃ (x7_1 : Int) (x8_1 : Int), v7 = .int .i64 x7_1 ∧ v8 = .int .i64 x8_1 ∧ Aside0 (kinkeeplaw04_MatrixKernels.l0 kq l0 t103 t104 t110 x7_1 x8_1 = some r) ∧ Aside0 (kq ≤ k) ∧ Aside0 (Kd.S (Kd.slice 5 (Kd.int .u8)) 34 w' w.heap.size (fun _ => True) v105 t103) ∧ Aside0 (Kd.R (Kd.int .i64) 3 w' w.heap.size (fun _ => True) v113 t110) ∧ Aside0 (Below w.heap.size w w'))
      case atStart => exact ⟨(0), (0), (by first | rfl | (simp; done) | (simp [*]; done)), (by first | rfl | (simp; done) | (simp [*]; done)), H', ⟨Nat.le_refl _⟩, ⟨by (with_reducible repeat (first | apply Kd.S_alloc | apply Kd.S_drewN | apply Kd.S_drew)); exact Kd.S_mono HO106.out (fun _ hk => trivial)⟩, ⟨by (with_reducible repeat (first | apply Kd.R_alloc | apply Kd.R_drewN | apply Kd.R_drew)); exact HO114.out⟩, ⟨by repeat (first | (with_reducible first | exact HB.out | apply below_alloc | apply pw_below_drewN | apply below_drew1) | exact HB.out)⟩⟩
      case round =>
        clear H'; (try clear p2); (try clear c3); (try clear c4); (try clear c6)
        obtain ⟨x7_1, x8_1, rfl, rfl, HA, HK1, HO_3, HO_6, HB⟩ := hrel
        cases gk with
        | zero => exact absurd HA.out (by simp [kinkeeplaw04_MatrixKernels.l0])
        | succ k1 =>
          have H := HA.out
          clear HA
          simp only [kinkeeplaw04_MatrixKernels.l0] at H
          replace H := Option.bind_eq_some_iff.mp H
          obtain ⟨t115, A100, H⟩ := H
          replace H : (if x8_1 < t115 then ((kinkeeplaw04_free.f k1 t110 x8_1).bind fun t117 => (if t117 = true then (if x7_1 ≥ (t103.length : Int) then (kinkeeplaw04_MatrixKernels.j1 k1 l0 t103 t104 t110 x7_1 x8_1 true) else (if 0 ≤ x7_1 then (if x7_1 < (t103.length : Int) then ((kinkeepref04_Cols.f l0).bind fun t119 => (kinkeeplaw04_MatrixKernels.j1 k1 l0 t103 t104 t110 x7_1 x8_1 (((rd_L1 t103 x7_1).length : Int) != t119))) else (none)) else (none))) else (kinkeeplaw04_MatrixKernels.l0 k1 l0 t103 t104 t110 x7_1 (wrap64 (x8_1 + 1))))) else ((kinkeeplaw04_awake.f).bind fun t116 => (if t116 = true then (if t104 = 0 then (some (x7_1 == (t103.length : Int))) else (some false)) else (some false)))) = some r := H
          have A10 := Aside0.mk A100
          clear A100
          by_cases c11 : x8_1 < t115
          · rw [if_pos c11] at H
            have c11b0 : decide (x8_1 < t115) = true := decide_eq_true c11
            clear c11
            replace H := Option.bind_eq_some_iff.mp H
            obtain ⟨t117, A120, H⟩ := H
            replace H : (if t117 = true then (if x7_1 ≥ (t103.length : Int) then (kinkeeplaw04_MatrixKernels.j1 k1 l0 t103 t104 t110 x7_1 x8_1 true) else (if 0 ≤ x7_1 then (if x7_1 < (t103.length : Int) then ((kinkeepref04_Cols.f l0).bind fun t119 => (kinkeeplaw04_MatrixKernels.j1 k1 l0 t103 t104 t110 x7_1 x8_1 (((rd_L1 t103 x7_1).length : Int) != t119))) else (none)) else (none))) else (kinkeeplaw04_MatrixKernels.l0 k1 l0 t103 t104 t110 x7_1 (wrap64 (x8_1 + 1)))) = some r := H
            have A12 := Aside0.mk A120
            clear A120
            by_cases c13 : t117 = true
            · subst c13
              have H1 : (if x7_1 ≥ (t103.length : Int) then (kinkeeplaw04_MatrixKernels.j1 k1 l0 t103 t104 t110 x7_1 x8_1 true) else (if 0 ≤ x7_1 then (if x7_1 < (t103.length : Int) then ((kinkeepref04_Cols.f l0).bind fun t119 => (kinkeeplaw04_MatrixKernels.j1 k1 l0 t103 t104 t110 x7_1 x8_1 (((rd_L1 t103 x7_1).length : Int) != t119))) else (none)) else (none))) = some r := by rw [if_pos rfl] at H; exact H
              clear H
              have H := H1
              clear H1
              have HC14 := Aside0.mk H
              clear H
              go_upto_region 12 with (first | (go_at_call 21; (with_reducible refine (kinkeepref04_Cols.calls _ _ l0 t115 _ ?side1 ?side2 A10.out).mono ?_); (case side1 => repeat (first | exact (Kd.C_below HR0.out HB.out) | (with_reducible refine Kd.C_alloc ?_ _) | (with_reducible refine Kd.C_drewN ?_ _) | (with_reducible refine Kd.C_drew ?_))); (case side2 => exact HC0.out); rintro e w' ⟨rfl, ⟨nd, rfl⟩⟩; (try first | exact ⟨rfl, _, World.drewN_drewN _ _ _⟩ | exact ⟨rfl, _, Eq.trans (World.drewN_drewN _ _ _) (congrArg (World.drewN _) (Nat.add_assoc _ _ _))⟩); obtain ⟨Ao15, co15, eo15⟩ := Kd.R_slice HO_6.out; subst eo15) | (go_at_call 22; (with_reducible refine (kinkeeplaw04_free.calls k1 _ _ t110 x8_1 true _ ?side1 ?side2 A12.out).mono ?_); (case side1 => repeat (first | exact (Kd.R_reads' HO_6.out).2.2 | (with_reducible refine Kd.C_alloc ?_ _) | (with_reducible refine Kd.C_drewN ?_ _) | (with_reducible refine Kd.C_drew ?_))); (case side2 => exact (Kd.R_reads' HO_6.out).2.1); rintro e w' ⟨rfl, ⟨nd, rfl⟩⟩; (try first | exact ⟨rfl, _, World.drewN_drewN _ _ _⟩ | exact ⟨rfl, _, Eq.trans (World.drewN_drewN _ _ _) (congrArg (World.drewN _) (Nat.add_assoc _ _ _))⟩)))
              repeat (go_quiet (first | (go_at_call 21; (with_reducible refine (kinkeepref04_Cols.calls _ _ l0 t115 _ ?side1 ?side2 A10.out).mono ?_); (case side1 => repeat (first | exact (Kd.C_below HR0.out HB.out) | (with_reducible refine Kd.C_alloc ?_ _) | (with_reducible refine Kd.C_drewN ?_ _) | (with_reducible refine Kd.C_drew ?_))); (case side2 => exact HC0.out); rintro e w' ⟨rfl, ⟨nd, rfl⟩⟩; (try first | exact ⟨rfl, _, World.drewN_drewN _ _ _⟩ | exact ⟨rfl, _, Eq.trans (World.drewN_drewN _ _ _) (congrArg (World.drewN _) (Nat.add_assoc _ _ _))⟩); obtain ⟨Ao15, co15, eo15⟩ := Kd.R_slice HO_6.out; subst eo15) | (go_at_call 22; (with_reducible refine (kinkeeplaw04_free.calls k1 _ _ t110 x8_1 true _ ?side1 ?side2 A12.out).mono ?_); (case side1 => repeat (first | exact (Kd.R_reads' HO_6.out).2.2 | (with_reducible refine Kd.C_alloc ?_ _) | (with_reducible refine Kd.C_drewN ?_ _) | (with_reducible refine Kd.C_drew ?_))); (case side2 => exact (Kd.R_reads' HO_6.out).2.1); rintro e w' ⟨rfl, ⟨nd, rfl⟩⟩; (try first | exact ⟨rfl, _, World.drewN_drewN _ _ _⟩ | exact ⟨rfl, _, Eq.trans (World.drewN_drewN _ _ _) (congrArg (World.drewN _) (Nat.add_assoc _ _ _))⟩))); go_upto_region 12 with (first | (go_at_call 21; (with_reducible refine (kinkeepref04_Cols.calls _ _ l0 t115 _ ?side1 ?side2 A10.out).mono ?_); (case side1 => repeat (first | exact (Kd.C_below HR0.out HB.out) | (with_reducible refine Kd.C_alloc ?_ _) | (with_reducible refine Kd.C_drewN ?_ _) | (with_reducible refine Kd.C_drew ?_))); (case side2 => exact HC0.out); rintro e w' ⟨rfl, ⟨nd, rfl⟩⟩; (try first | exact ⟨rfl, _, World.drewN_drewN _ _ _⟩ | exact ⟨rfl, _, Eq.trans (World.drewN_drewN _ _ _) (congrArg (World.drewN _) (Nat.add_assoc _ _ _))⟩); obtain ⟨Ao15, co15, eo15⟩ := Kd.R_slice HO_6.out; subst eo15) | (go_at_call 22; (with_reducible refine (kinkeeplaw04_free.calls k1 _ _ t110 x8_1 true _ ?side1 ?side2 A12.out).mono ?_); (case side1 => repeat (first | exact (Kd.R_reads' HO_6.out).2.2 | (with_reducible refine Kd.C_alloc ?_ _) | (with_reducible refine Kd.C_drewN ?_ _) | (with_reducible refine Kd.C_drew ?_))); (case side2 => exact (Kd.R_reads' HO_6.out).2.1); rintro e w' ⟨rfl, ⟨nd, rfl⟩⟩; (try first | exact ⟨rfl, _, World.drewN_drewN _ _ _⟩ | exact ⟨rfl, _, Eq.trans (World.drewN_drewN _ _ _) (congrArg (World.drewN _) (Nat.add_assoc _ _ _))⟩))))
              (try simp only [Act.put, List.setIfInBounds_toArray, List.set_cons_zero, List.set_cons_succ])
              go_cut [60] (fun v60 wc => ∃ (kq : Nat) (x60_13 : Bool), v60 = .bool x60_13 ∧ Aside0 (kinkeeplaw04_MatrixKernels.j1 kq l0 t103 t104 t110 x7_1 x8_1 x60_13 = some r) ∧ Aside0 (kq ≤ k1) ∧ Aside0 (Kd.S (Kd.slice 5 (Kd.int .u8)) 34 wc w.heap.size (fun _ => True) v105 t103) ∧ Aside0 (Kd.R (Kd.int .i64) 3 wc w.heap.size (fun _ => True) (.slice Ao15 t110.length co15) t110) ∧ Aside0 (Below w.heap.size w wc))
              case first =>
                have H := HC14.out
                clear HC14
                by_cases c16 : x7_1 ≥ (t103.length : Int)
                · rw [if_pos c16] at H
                  have c16b0 : decide ((t103.length : Int) ≤ x7_1) = true := decide_eq_true c16
                  clear c16
                  (first | rw [c16b0] | rw [c16b1] | rw [c16b2] | (simp only [i64_w, i32_w]; rw [c16b0]) | skip)
                  have H' := Aside0.mk H
                  clear H
                  obtain ⟨Ao17, co17, eo17⟩ := Kd.S_slice HO_3.out
                  subst eo17
                  go_wp2
                  repeat (go_quiet (fail); try go_wp2)
                  go_meet
                  case rel => exact ⟨_, (true), (by first | rfl | (simp; done) | (simp [*]; done)), H', ⟨by have := HK1.out; first | omega | exact Nat.le_refl _⟩, ⟨by (with_reducible repeat (first | apply Kd.S_alloc | apply Kd.S_drewN | apply Kd.S_drew)); exact HO_3.out⟩, ⟨by (with_reducible repeat (first | apply Kd.R_alloc | apply Kd.R_drewN | apply Kd.R_drew)); exact HO_6.out⟩, ⟨by repeat (first | (with_reducible first | exact HB.out | apply below_alloc | apply pw_below_drewN | apply below_drew1) | exact HB.out)⟩⟩
                · rw [if_neg c16] at H
                  have c16b0 : decide ((t103.length : Int) ≤ x7_1) = false := decide_eq_false c16
                  clear c16
                  (first | rw [c16b0] | rw [c16b1] | rw [c16b2] | (simp only [i64_w, i32_w]; rw [c16b0]) | skip)
                  by_cases c18 : 0 ≤ x7_1
                  · rw [if_pos c18] at H
                    have c18b0 : decide (0 ≤ x7_1) = true := decide_eq_true c18
                    clear c18
                    by_cases c19 : x7_1 < (t103.length : Int)
                    · rw [if_pos c19] at H
                      have c19b0 : decide (x7_1 < (t103.length : Int)) = true := decide_eq_true c19
                      clear c19
                      replace H := Option.bind_eq_some_iff.mp H
                      obtain ⟨t119, A200, H⟩ := H
                      replace H : (kinkeeplaw04_MatrixKernels.j1 k1 l0 t103 t104 t110 x7_1 x8_1 (((rd_L1 t103 x7_1).length : Int) != t119)) = some r := H
                      have A20 := Aside0.mk A200
                      clear A200
                      have H' := Aside0.mk H
                      clear H
                      obtain ⟨Ao21, co21, eo21⟩ := Kd.S_slice HO_3.out
                      subst eo21
                      have p118 : 0 ≤ (x7_1 : Int) := of_decide_eq_true (by first | (with_reducible assumption) | assumption)
                      have q118 : x7_1 < (t103.length : Int) := of_decide_eq_true (by first | (with_reducible assumption) | assumption)
                      obtain ⟨ad118, A118_0, c118_0, e118, hx118_0, hl118_0, hi118_0⟩ := at_L1 (Kd.S_reads' HO_3.out).2.2 x7_1 p118 q118
                      cases e118
                      obtain ⟨ce118, hce118, hMe118, hcc118⟩ := Kd.S_get HO_3.out [] x7_1 p118 (by first | exact q118 | exact of_decide_eq_true (by first | (with_reducible assumption) | assumption) | (have e_ := (Kd.S_reads' HO_3.out).1; omega))
                      obtain ⟨ve118_0, rfl, ge118_0⟩ := hMe118
                      have hv118_0 := hcc118 0 _ rfl
                      rw [Nat.add_zero, show ((Kd.slice 5 (Kd.int .u8))).sz = 1 from rfl, Nat.mul_one] at hv118_0
                      replace hv118_0 := Option.some.inj (hv118_0.symm.trans hx118_0)
                      rw [hv118_0] at ge118_0
                      have HL118_0 := Aside0.mk (show Kd.R (Kd.int .u8) 5 _ _ _ _ (rd_L1 t103 x7_1) from ge118_0)
                      clear hv118_0 ge118_0; clear hcc118 hce118
                      have HR118_0 := Aside0.mk hi118_0
                      have HC118_0 := Aside0.mk hl118_0
                      clear hi118_0 hl118_0
                      replace p118 := eq_true p118
                      replace q118 := eq_true q118
                      go_wp2_with (first | (go_at_call 21; (with_reducible refine (kinkeepref04_Cols.calls _ _ l0 t119 _ ?side1 ?side2 A20.out).mono ?_); (case side1 => repeat (first | exact (Kd.C_below HR0.out HB.out) | (with_reducible refine Kd.C_alloc ?_ _) | (with_reducible refine Kd.C_drewN ?_ _) | (with_reducible refine Kd.C_drew ?_))); (case side2 => exact HC0.out); rintro e w' ⟨rfl, ⟨nd, rfl⟩⟩; (try first | exact ⟨rfl, _, World.drewN_drewN _ _ _⟩ | exact ⟨rfl, _, Eq.trans (World.drewN_drewN _ _ _) (congrArg (World.drewN _) (Nat.add_assoc _ _ _))⟩)))
                      repeat (go_quiet (first | (go_at_call 21; (with_reducible refine (kinkeepref04_Cols.calls _ _ l0 t119 _ ?side1 ?side2 A20.out).mono ?_); (case side1 => repeat (first | exact (Kd.C_below HR0.out HB.out) | (with_reducible refine Kd.C_alloc ?_ _) | (with_reducible refine Kd.C_drewN ?_ _) | (with_reducible refine Kd.C_drew ?_))); (case side2 => exact HC0.out); rintro e w' ⟨rfl, ⟨nd, rfl⟩⟩; (try first | exact ⟨rfl, _, World.drewN_drewN _ _ _⟩ | exact ⟨rfl, _, Eq.trans (World.drewN_drewN _ _ _) (congrArg (World.drewN _) (Nat.add_assoc _ _ _))⟩))); try go_wp2_with (first | (go_at_call 21; (with_reducible refine (kinkeepref04_Cols.calls _ _ l0 t119 _ ?side1 ?side2 A20.out).mono ?_); (case side1 => repeat (first | exact (Kd.C_below HR0.out HB.out) | (with_reducible refine Kd.C_alloc ?_ _) | (with_reducible refine Kd.C_drewN ?_ _) | (with_reducible refine Kd.C_drew ?_))); (case side2 => exact HC0.out); rintro e w' ⟨rfl, ⟨nd, rfl⟩⟩; (try first | exact ⟨rfl, _, World.drewN_drewN _ _ _⟩ | exact ⟨rfl, _, Eq.trans (World.drewN_drewN _ _ _) (congrArg (World.drewN _) (Nat.add_assoc _ _ _))⟩))))
                      go_meet
                      case rel => exact ⟨_, ((((rd_L1 t103 x7_1).length : Int) != t119)), (by first | rfl | (simp; done) | (simp [*]; done)), H', ⟨by have := HK1.out; first | omega | exact Nat.le_refl _⟩, ⟨by (with_reducible repeat (first | apply Kd.S_alloc | apply Kd.S_drewN | apply Kd.S_drew)); exact HO_3.out⟩, ⟨by (with_reducible repeat (first | apply Kd.R_alloc | apply Kd.R_drewN | apply Kd.R_drew)); exact HO_6.out⟩, ⟨by repeat (first | (with_reducible first | exact HB.out | apply below_alloc | apply pw_below_drewN | apply below_drew1) | exact HB.out)⟩⟩
                    · rw [if_neg c19] at H
                      exact absurd H (by simp)
                  · rw [if_neg c18] at H
                    exact absurd H (by simp)
              case rest =>
                clear HC14; (try clear c1); (try clear p1); (try clear q1); (try clear hx1); (try clear p2); (try clear c3); (try clear c4); (try clear c6); (try clear p6); (try clear c11); (try clear c11b0); (try clear p11); (try clear q11); (try clear hx11); (try clear c13); (try clear c16); (try clear c16b0); (try clear c18); (try clear c18b0); (try clear c19); (try clear c19b0); (try clear hx118_0); (try clear p118); (try clear p2); (try clear q118)
                obtain ⟨kq, x60_13, rfl, HA, HJ13, HO_3, HO_6, HB⟩ := hcut
                cases kq with
                | zero => exact absurd HA.out (by simp [kinkeeplaw04_MatrixKernels.j1])
                | succ kj13 =>
                  have H := HA.out
                  clear HA
                  simp only [kinkeeplaw04_MatrixKernels.j1] at H
                  by_cases c22 : x60_13 = true
                  · subst c22
                    have H1 : (some false) = some r := by rw [if_pos rfl] at H; exact H
                    clear H
                    have H := H1
                    clear H1
                    obtain rfl := Option.some.inj H
                    exact absurd HRT.out (by decide)
                  · replace c22 := Bool.eq_false_iff.mpr c22
                    subst c22
                    have H1 : (kinkeeplaw04_MatrixKernels.l1 kj13 l0 t103 t104 t110 x7_1 x8_1 0) = some r := by rw [if_neg (show ¬ (false = true) by decide)] at H; exact H
                    clear H
                    have H := H1
                    clear H1
                    have H' := Aside0.mk H
                    clear H
                    go_wp2
                    repeat (go_quiet (fail); try go_wp2)
                    go_loopg [9] kj13 (fun kq v9 w' => ∃ (x9_3 : Int), v9 = .int .i64 x9_3 ∧ Aside0 (kinkeeplaw04_MatrixKernels.l1 kq l0 t103 t104 t110 x7_1 x8_1 x9_3 = some r) ∧ Aside0 (kq ≤ kj13) ∧ Aside0 (Kd.S (Kd.slice 5 (Kd.int .u8)) 34 w' w.heap.size (fun _ => True) v105 t103) ∧ Aside0 (Kd.R (Kd.int .i64) 3 w' w.heap.size (fun _ => True) (.slice Ao15 t110.length co15) t110) ∧ Aside0 (Below w.heap.size w w'))
                    case atStart => exact ⟨(0), (by first | rfl | (simp; done) | (simp [*]; done)), H', ⟨Nat.le_refl _⟩, ⟨by (with_reducible repeat (first | apply Kd.S_alloc | apply Kd.S_drewN | apply Kd.S_drew)); exact HO_3.out⟩, ⟨by (with_reducible repeat (first | apply Kd.R_alloc | apply Kd.R_drewN | apply Kd.R_drew)); exact HO_6.out⟩, ⟨by repeat (first | (with_reducible first | exact HB.out | apply below_alloc | apply pw_below_drewN | apply below_drew1) | exact HB.out)⟩⟩
                    case round =>
                      clear H'; (try clear c1); (try clear p1); (try clear q1); (try clear hx1); (try clear c2); (try clear p2); (try clear c3); (try clear c4); (try clear c6); (try clear p6); (try clear c11); (try clear c11b0); (try clear p11); (try clear q11); (try clear hx11); (try clear c13); (try clear c16); (try clear c16b0); (try clear c18); (try clear c18b0); (try clear c19); (try clear c19b0); (try clear c22); (try clear hx118_0); (try clear p1); (try clear p11); (try clear p118); (try clear p2); (try clear p6); (try clear q1); (try clear q11); (try clear q118)
                      obtain ⟨x9_3, rfl, HA, HK3, HO_3, HO_6, HB⟩ := hrel
                      cases gk with
                      | zero => exact absurd HA.out (by simp [kinkeeplaw04_MatrixKernels.l1])
                      | succ k3 =>
                        have H := HA.out
                        clear HA
                        simp only [kinkeeplaw04_MatrixKernels.l1] at H
                        replace H := Option.bind_eq_some_iff.mp H
                        obtain ⟨t120, A230, H⟩ := H
                        replace H : (if x9_3 < t120 then ((kinkeeplaw04_free.f k3 t110 x9_3).bind fun t121 => (if t121 = true then (if 0 ≤ x7_1 then (if x7_1 < (t103.length : Int) then (if 0 ≤ x9_3 then (if x9_3 < ((rd_L1 t103 x7_1).length : Int) then (if (((rd (rd_L1 t103 x7_1) x9_3) == 1) != (x8_1 == x9_3)) = true then (some false) else ((kinkeeplaw04_free.f k3 t110 x9_3).bind fun t124 => (if t124 = true then (if x8_1 = x9_3 then (kinkeeplaw04_MatrixKernels.l1 k3 l0 t103 t104 t110 x7_1 x8_1 (wrap64 (x9_3 + 1))) else (if (rd (rd_L1 t103 x7_1) x9_3) = 0 then (kinkeeplaw04_MatrixKernels.l1 k3 l0 t103 t104 t110 x7_1 x8_1 (wrap64 (x9_3 + 1))) else (some false))) else (kinkeeplaw04_MatrixKernels.l1 k3 l0 t103 t104 t110 x7_1 x8_1 (wrap64 (x9_3 + 1)))))) else (none)) else (none)) else (none)) else (none)) else ((kinkeeplaw04_free.f k3 t110 x9_3).bind fun t127 => (if t127 = true then (if x8_1 = x9_3 then (kinkeeplaw04_MatrixKernels.l1 k3 l0 t103 t104 t110 x7_1 x8_1 (wrap64 (x9_3 + 1))) else (if 0 ≤ x7_1 then (if x7_1 < (t103.length : Int) then (if 0 ≤ x9_3 then (if x9_3 < ((rd_L1 t103 x7_1).length : Int) then (if (rd (rd_L1 t103 x7_1) x9_3) = 0 then (kinkeeplaw04_MatrixKernels.l1 k3 l0 t103 t104 t110 x7_1 x8_1 (wrap64 (x9_3 + 1))) else (some false)) else (none)) else (none)) else (none)) else (none))) else (kinkeeplaw04_MatrixKernels.l1 k3 l0 t103 t104 t110 x7_1 x8_1 (wrap64 (x9_3 + 1))))))) else (if 0 ≤ x7_1 then (if x7_1 < (t103.length : Int) then ((kinkeeplaw04_column.f k3 (rd_L1 t103 x7_1)).bind fun t131 => ((kinkeepref04_Product.f k3 l0 t131).bind fun t134 => ((kinkeepref04_Zero.f k3 (l0.length : Int) 1).bind fun t137 => ((kinkeepref04_Same.f k3 t134 t137).bind fun t140 => (if t140 = true then (kinkeeplaw04_MatrixKernels.l0 k3 l0 t103 t104 t110 (wrap64 (x7_1 + 1)) (wrap64 (x8_1 + 1))) else (some false)))))) else (none)) else (none))) = some r := H
                        have A23 := Aside0.mk A230
                        clear A230
                        by_cases c24 : x9_3 < t120
                        · rw [if_pos c24] at H
                          have c24b0 : decide (x9_3 < t120) = true := decide_eq_true c24
                          clear c24
                          replace H := Option.bind_eq_some_iff.mp H
                          obtain ⟨t121, A250, H⟩ := H
                          replace H : (if t121 = true then (if 0 ≤ x7_1 then (if x7_1 < (t103.length : Int) then (if 0 ≤ x9_3 then (if x9_3 < ((rd_L1 t103 x7_1).length : Int) then (if (((rd (rd_L1 t103 x7_1) x9_3) == 1) != (x8_1 == x9_3)) = true then (some false) else ((kinkeeplaw04_free.f k3 t110 x9_3).bind fun t124 => (if t124 = true then (if x8_1 = x9_3 then (kinkeeplaw04_MatrixKernels.l1 k3 l0 t103 t104 t110 x7_1 x8_1 (wrap64 (x9_3 + 1))) else (if (rd (rd_L1 t103 x7_1) x9_3) = 0 then (kinkeeplaw04_MatrixKernels.l1 k3 l0 t103 t104 t110 x7_1 x8_1 (wrap64 (x9_3 + 1))) else (some false))) else (kinkeeplaw04_MatrixKernels.l1 k3 l0 t103 t104 t110 x7_1 x8_1 (wrap64 (x9_3 + 1)))))) else (none)) else (none)) else (none)) else (none)) else ((kinkeeplaw04_free.f k3 t110 x9_3).bind fun t127 => (if t127 = true then (if x8_1 = x9_3 then (kinkeeplaw04_MatrixKernels.l1 k3 l0 t103 t104 t110 x7_1 x8_1 (wrap64 (x9_3 + 1))) else (if 0 ≤ x7_1 then (if x7_1 < (t103.length : Int) then (if 0 ≤ x9_3 then (if x9_3 < ((rd_L1 t103 x7_1).length : Int) then (if (rd (rd_L1 t103 x7_1) x9_3) = 0 then (kinkeeplaw04_MatrixKernels.l1 k3 l0 t103 t104 t110 x7_1 x8_1 (wrap64 (x9_3 + 1))) else (some false)) else (none)) else (none)) else (none)) else (none))) else (kinkeeplaw04_MatrixKernels.l1 k3 l0 t103 t104 t110 x7_1 x8_1 (wrap64 (x9_3 + 1)))))) = some r := H
                          have A25 := Aside0.mk A250
                          clear A250
                          by_cases c26 : t121 = true
                          · subst c26
                            have H1 : (if 0 ≤ x7_1 then (if x7_1 < (t103.length : Int) then (if 0 ≤ x9_3 then (if x9_3 < ((rd_L1 t103 x7_1).length : Int) then (if (((rd (rd_L1 t103 x7_1) x9_3) == 1) != (x8_1 == x9_3)) = true then (some false) else ((kinkeeplaw04_free.f k3 t110 x9_3).bind fun t124 => (if t124 = true then (if x8_1 = x9_3 then (kinkeeplaw04_MatrixKernels.l1 k3 l0 t103 t104 t110 x7_1 x8_1 (wrap64 (x9_3 + 1))) else (if (rd (rd_L1 t103 x7_1) x9_3) = 0 then (kinkeeplaw04_MatrixKernels.l1 k3 l0 t103 t104 t110 x7_1 x8_1 (wrap64 (x9_3 + 1))) else (some false))) else (kinkeeplaw04_MatrixKernels.l1 k3 l0 t103 t104 t110 x7_1 x8_1 (wrap64 (x9_3 + 1)))))) else (none)) else (none)) else (none)) else (none)) = some r := by rw [if_pos rfl] at H; exact H
                            clear H
                            have H := H1
                            clear H1
                            by_cases c27 : 0 ≤ x7_1
                            · rw [if_pos c27] at H
                              have c27b0 : decide (0 ≤ x7_1) = true := decide_eq_true c27
                              clear c27
                              by_cases c28 : x7_1 < (t103.length : Int)
                              · rw [if_pos c28] at H
                                have c28b0 : decide (x7_1 < (t103.length : Int)) = true := decide_eq_true c28
                                clear c28
                                by_cases c29 : 0 ≤ x9_3
                                · rw [if_pos c29] at H
                                  have c29b0 : decide (0 ≤ x9_3) = true := decide_eq_true c29
                                  clear c29
                                  by_cases c30 : x9_3 < ((rd_L1 t103 x7_1).length : Int)
                                  · rw [if_pos c30] at H
                                    have c30b0 : decide (x9_3 < ((rd_L1 t103 x7_1).length : Int)) = true := decide_eq_true c30
                                    clear c30
                                    by_cases c31 : (((rd (rd_L1 t103 x7_1) x9_3) == 1) != (x8_1 == x9_3)) = true
                                    · rw [if_pos c31] at H
                                      have c31b0 : (((rd (rd_L1 t103 x7_1) x9_3) == 1) != (x8_1 == x9_3)) = true := c31
                                      (try (have c31b1 : decide (((rd (rd_L1 t103 x7_1) x9_3) == 1) = (x8_1 == x9_3)) = false := by simpa using c31))
                                      (try (have c31b2 : (((rd (rd_L1 t103 x7_1) x9_3) == 1) == (x8_1 == x9_3)) = false := by simpa using c31))
                                      (try (have c31b3 : ¬ (((rd (rd_L1 t103 x7_1) x9_3) == 1) = (x8_1 == x9_3)) := by simpa using c31))
                                      clear c31
                                      obtain rfl := Option.some.inj H
                                      exact absurd HRT.out (by decide)
                                    · rw [if_neg c31] at H
                                      have c31b0 : (((rd (rd_L1 t103 x7_1) x9_3) == 1) != (x8_1 == x9_3)) = false := by simpa using c31
                                      (try (have c31b1 : decide (((rd (rd_L1 t103 x7_1) x9_3) == 1) = (x8_1 == x9_3)) = true := by simpa using c31))
                                      (try (have c31b2 : (((rd (rd_L1 t103 x7_1) x9_3) == 1) == (x8_1 == x9_3)) = true := by simpa using c31))
                                      clear c31
                                      replace H := Option.bind_eq_some_iff.mp H
                                      obtain ⟨t124, A330, H⟩ := H
                                      replace H : (if t124 = true then (if x8_1 = x9_3 then (kinkeeplaw04_MatrixKernels.l1 k3 l0 t103 t104 t110 x7_1 x8_1 (wrap64 (x9_3 + 1))) else (if (rd (rd_L1 t103 x7_1) x9_3) = 0 then (kinkeeplaw04_MatrixKernels.l1 k3 l0 t103 t104 t110 x7_1 x8_1 (wrap64 (x9_3 + 1))) else (some false))) else (kinkeeplaw04_MatrixKernels.l1 k3 l0 t103 t104 t110 x7_1 x8_1 (wrap64 (x9_3 + 1)))) = some r := H
                                      have A33 := Aside0.mk A330
                                      clear A330
                                      by_cases c34 : t124 = true
                                      · subst c34
                                        have H1 : (if x8_1 = x9_3 then (kinkeeplaw04_MatrixKernels.l1 k3 l0 t103 t104 t110 x7_1 x8_1 (wrap64 (x9_3 + 1))) else (if (rd (rd_L1 t103 x7_1) x9_3) = 0 then (kinkeeplaw04_MatrixKernels.l1 k3 l0 t103 t104 t110 x7_1 x8_1 (wrap64 (x9_3 + 1))) else (some false))) = some r := by rw [if_pos rfl] at H; exact H
                                        clear H
                                        have H := H1
                                        clear H1
                                        by_cases c35 : x8_1 = x9_3
                                        · rw [if_pos c35] at H
                                          have c35b0 : (x8_1 == x9_3) = true := beq_iff_eq.mpr c35
                                          (try (have c31ec35 : ((rd (rd_L1 t103 x7_1) x9_3) == 1) = true := by have h_ := c31b0; rw [c35b0] at h_; revert h_; cases ((rd (rd_L1 t103 x7_1) x9_3) == 1) <;> decide))
                                          have c35b1 : (x8_1 != x9_3) = false := bne_eq_false_iff_eq.mpr c35
                                          clear c35
                                          have H' := Aside0.mk H
                                          clear H
                                          go_wp2_with (first | (go_at_call 21; (with_reducible refine (kinkeepref04_Cols.calls _ _ l0 t120 _ ?side1 ?side2 A23.out).mono ?_); (case side1 => repeat (first | exact (Kd.C_below HR0.out HB.out) | (with_reducible refine Kd.C_alloc ?_ _) | (with_reducible refine Kd.C_drewN ?_ _) | (with_reducible refine Kd.C_drew ?_))); (case side2 => exact HC0.out); rintro e w' ⟨rfl, ⟨nd, rfl⟩⟩; (try first | exact ⟨rfl, _, World.drewN_drewN _ _ _⟩ | exact ⟨rfl, _, Eq.trans (World.drewN_drewN _ _ _) (congrArg (World.drewN _) (Nat.add_assoc _ _ _))⟩)) | (go_at_call 22; (with_reducible refine (kinkeeplaw04_free.calls k3 _ _ t110 x9_3 true _ ?side1 ?side2 A25.out).mono ?_); (case side1 => repeat (first | exact (Kd.R_reads' HO_6.out).2.2 | (with_reducible refine Kd.C_alloc ?_ _) | (with_reducible refine Kd.C_drewN ?_ _) | (with_reducible refine Kd.C_drew ?_))); (case side2 => exact (Kd.R_reads' HO_6.out).2.1); rintro e w' ⟨rfl, ⟨nd, rfl⟩⟩; (try first | exact ⟨rfl, _, World.drewN_drewN _ _ _⟩ | exact ⟨rfl, _, Eq.trans (World.drewN_drewN _ _ _) (congrArg (World.drewN _) (Nat.add_assoc _ _ _))⟩); obtain ⟨Ao36, co36, eo36⟩ := Kd.S_slice HO_3.out; subst eo36; have p122 : 0 ≤ (x7_1 : Int) := of_decide_eq_true (by first | (with_reducible assumption) | assumption); have q122 : x7_1 < (t103.length : Int) := of_decide_eq_true (by first | (with_reducible assumption) | assumption); obtain ⟨ad122, A122_0, c122_0, e122, hx122_0, hl122_0, hi122_0⟩ := at_L1 (Kd.S_reads' HO_3.out).2.2 x7_1 p122 q122; cases e122; obtain ⟨ce122, hce122, hMe122, hcc122⟩ := Kd.S_get HO_3.out [] x7_1 p122 (by first | exact q122 | exact of_decide_eq_true (by first | (with_reducible assumption) | assumption) | (have e_ := (Kd.S_reads' HO_3.out).1; omega)); obtain ⟨ve122_0, rfl, ge122_0⟩ := hMe122; have hv122_0 := hcc122 0 _ rfl; rw [Nat.add_zero, show ((Kd.slice 5 (Kd.int .u8))).sz = 1 from rfl, Nat.mul_one] at hv122_0; replace hv122_0 := Option.some.inj (hv122_0.symm.trans hx122_0); rw [hv122_0] at ge122_0; have HL122_0 := Aside0.mk (show Kd.R (Kd.int .u8) 5 _ _ _ _ (rd_L1 t103 x7_1) from ge122_0); clear hv122_0 ge122_0; clear hcc122 hce122; have HR122_0 := Aside0.mk hi122_0; have HC122_0 := Aside0.mk hl122_0; clear hi122_0 hl122_0; replace p122 := eq_true p122; replace q122 := eq_true q122; have p123 : 0 ≤ (x9_3 : Int) := of_decide_eq_true (by first | (with_reducible assumption) | assumption); have q123 : x9_3 < ((rd_L1 t103 x7_1).length : Int) := of_decide_eq_true (by first | (with_reducible assumption) | assumption); obtain ⟨ad123, e123, hx123_0⟩ := Kd.at_int (by repeat (first | (with_reducible exact HR122_0.out) | (with_reducible refine Kd.C_alloc ?_ _) | (with_reducible refine Kd.C_drewN ?_ _) | (with_reducible refine Kd.C_drew ?_) | exact HR122_0.out)) x9_3 p123 q123; cases e123; replace p123 := eq_true p123; replace q123 := eq_true q123) | (go_at_call 22; (with_reducible refine (kinkeeplaw04_free.calls k3 _ _ t110 x9_3 true _ ?side1 ?side2 A33.out).mono ?_); (case side1 => repeat (first | exact (Kd.R_reads' HO_6.out).2.2 | (with_reducible refine Kd.C_alloc ?_ _) | (with_reducible refine Kd.C_drewN ?_ _) | (with_reducible refine Kd.C_drew ?_))); (case side2 => exact (Kd.R_reads' HO_6.out).2.1); rintro e w' ⟨rfl, ⟨nd, rfl⟩⟩; (try first | exact ⟨rfl, _, World.drewN_drewN _ _ _⟩ | exact ⟨rfl, _, Eq.trans (World.drewN_drewN _ _ _) (congrArg (World.drewN _) (Nat.add_assoc _ _ _))⟩)))
                                          repeat (go_quiet (first | (go_at_call 21; (with_reducible refine (kinkeepref04_Cols.calls _ _ l0 t120 _ ?side1 ?side2 A23.out).mono ?_); (case side1 => repeat (first | exact (Kd.C_below HR0.out HB.out) | (with_reducible refine Kd.C_alloc ?_ _) | (with_reducible refine Kd.C_drewN ?_ _) | (with_reducible refine Kd.C_drew ?_))); (case side2 => exact HC0.out); rintro e w' ⟨rfl, ⟨nd, rfl⟩⟩; (try first | exact ⟨rfl, _, World.drewN_drewN _ _ _⟩ | exact ⟨rfl, _, Eq.trans (World.drewN_drewN _ _ _) (congrArg (World.drewN _) (Nat.add_assoc _ _ _))⟩)) | (go_at_call 22; (with_reducible refine (kinkeeplaw04_free.calls k3 _ _ t110 x9_3 true _ ?side1 ?side2 A25.out).mono ?_); (case side1 => repeat (first | exact (Kd.R_reads' HO_6.out).2.2 | (with_reducible refine Kd.C_alloc ?_ _) | (with_reducible refine Kd.C_drewN ?_ _) | (with_reducible refine Kd.C_drew ?_))); (case side2 => exact (Kd.R_reads' HO_6.out).2.1); rintro e w' ⟨rfl, ⟨nd, rfl⟩⟩; (try first | exact ⟨rfl, _, World.drewN_drewN _ _ _⟩ | exact ⟨rfl, _, Eq.trans (World.drewN_drewN _ _ _) (congrArg (World.drewN _) (Nat.add_assoc _ _ _))⟩); obtain ⟨Ao36, co36, eo36⟩ := Kd.S_slice HO_3.out; subst eo36; have p122 : 0 ≤ (x7_1 : Int) := of_decide_eq_true (by first | (with_reducible assumption) | assumption); have q122 : x7_1 < (t103.length : Int) := of_decide_eq_true (by first | (with_reducible assumption) | assumption); obtain ⟨ad122, A122_0, c122_0, e122, hx122_0, hl122_0, hi122_0⟩ := at_L1 (Kd.S_reads' HO_3.out).2.2 x7_1 p122 q122; cases e122; obtain ⟨ce122, hce122, hMe122, hcc122⟩ := Kd.S_get HO_3.out [] x7_1 p122 (by first | exact q122 | exact of_decide_eq_true (by first | (with_reducible assumption) | assumption) | (have e_ := (Kd.S_reads' HO_3.out).1; omega)); obtain ⟨ve122_0, rfl, ge122_0⟩ := hMe122; have hv122_0 := hcc122 0 _ rfl; rw [Nat.add_zero, show ((Kd.slice 5 (Kd.int .u8))).sz = 1 from rfl, Nat.mul_one] at hv122_0; replace hv122_0 := Option.some.inj (hv122_0.symm.trans hx122_0); rw [hv122_0] at ge122_0; have HL122_0 := Aside0.mk (show Kd.R (Kd.int .u8) 5 _ _ _ _ (rd_L1 t103 x7_1) from ge122_0); clear hv122_0 ge122_0; clear hcc122 hce122; have HR122_0 := Aside0.mk hi122_0; have HC122_0 := Aside0.mk hl122_0; clear hi122_0 hl122_0; replace p122 := eq_true p122; replace q122 := eq_true q122; have p123 : 0 ≤ (x9_3 : Int) := of_decide_eq_true (by first | (with_reducible assumption) | assumption); have q123 : x9_3 < ((rd_L1 t103 x7_1).length : Int) := of_decide_eq_true (by first | (with_reducible assumption) | assumption); obtain ⟨ad123, e123, hx123_0⟩ := Kd.at_int (by repeat (first | (with_reducible exact HR122_0.out) | (with_reducible refine Kd.C_alloc ?_ _) | (with_reducible refine Kd.C_drewN ?_ _) | (with_reducible refine Kd.C_drew ?_) | exact HR122_0.out)) x9_3 p123 q123; cases e123; replace p123 := eq_true p123; replace q123 := eq_true q123) | (go_at_call 22; (with_reducible refine (kinkeeplaw04_free.calls k3 _ _ t110 x9_3 true _ ?side1 ?side2 A33.out).mono ?_); (case side1 => repeat (first | exact (Kd.R_reads' HO_6.out).2.2 | (with_reducible refine Kd.C_alloc ?_ _) | (with_reducible refine Kd.C_drewN ?_ _) | (with_reducible refine Kd.C_drew ?_))); (case side2 => exact (Kd.R_reads' HO_6.out).2.1); rintro e w' ⟨rfl, ⟨nd, rfl⟩⟩; (try first | exact ⟨rfl, _, World.drewN_drewN _ _ _⟩ | exact ⟨rfl, _, Eq.trans (World.drewN_drewN _ _ _) (congrArg (World.drewN _) (Nat.add_assoc _ _ _))⟩))); try go_wp2_with (first | (go_at_call 21; (with_reducible refine (kinkeepref04_Cols.calls _ _ l0 t120 _ ?side1 ?side2 A23.out).mono ?_); (case side1 => repeat (first | exact (Kd.C_below HR0.out HB.out) | (with_reducible refine Kd.C_alloc ?_ _) | (with_reducible refine Kd.C_drewN ?_ _) | (with_reducible refine Kd.C_drew ?_))); (case side2 => exact HC0.out); rintro e w' ⟨rfl, ⟨nd, rfl⟩⟩; (try first | exact ⟨rfl, _, World.drewN_drewN _ _ _⟩ | exact ⟨rfl, _, Eq.trans (World.drewN_drewN _ _ _) (congrArg (World.drewN _) (Nat.add_assoc _ _ _))⟩)) | (go_at_call 22; (with_reducible refine (kinkeeplaw04_free.calls k3 _ _ t110 x9_3 true _ ?side1 ?side2 A25.out).mono ?_); (case side1 => repeat (first | exact (Kd.R_reads' HO_6.out).2.2 | (with_reducible refine Kd.C_alloc ?_ _) | (with_reducible refine Kd.C_drewN ?_ _) | (with_reducible refine Kd.C_drew ?_))); (case side2 => exact (Kd.R_reads' HO_6.out).2.1); rintro e w' ⟨rfl, ⟨nd, rfl⟩⟩; (try first | exact ⟨rfl, _, World.drewN_drewN _ _ _⟩ | exact ⟨rfl, _, Eq.trans (World.drewN_drewN _ _ _) (congrArg (World.drewN _) (Nat.add_assoc _ _ _))⟩); obtain ⟨Ao36, co36, eo36⟩ := Kd.S_slice HO_3.out; subst eo36; have p122 : 0 ≤ (x7_1 : Int) := of_decide_eq_true (by first | (with_reducible assumption) | assumption); have q122 : x7_1 < (t103.length : Int) := of_decide_eq_true (by first | (with_reducible assumption) | assumption); obtain ⟨ad122, A122_0, c122_0, e122, hx122_0, hl122_0, hi122_0⟩ := at_L1 (Kd.S_reads' HO_3.out).2.2 x7_1 p122 q122; cases e122; obtain ⟨ce122, hce122, hMe122, hcc122⟩ := Kd.S_get HO_3.out [] x7_1 p122 (by first | exact q122 | exact of_decide_eq_true (by first | (with_reducible assumption) | assumption) | (have e_ := (Kd.S_reads' HO_3.out).1; omega)); obtain ⟨ve122_0, rfl, ge122_0⟩ := hMe122; have hv122_0 := hcc122 0 _ rfl; rw [Nat.add_zero, show ((Kd.slice 5 (Kd.int .u8))).sz = 1 from rfl, Nat.mul_one] at hv122_0; replace hv122_0 := Option.some.inj (hv122_0.symm.trans hx122_0); rw [hv122_0] at ge122_0; have HL122_0 := Aside0.mk (show Kd.R (Kd.int .u8) 5 _ _ _ _ (rd_L1 t103 x7_1) from ge122_0); clear hv122_0 ge122_0; clear hcc122 hce122; have HR122_0 := Aside0.mk hi122_0; have HC122_0 := Aside0.mk hl122_0; clear hi122_0 hl122_0; replace p122 := eq_true p122; replace q122 := eq_true q122; have p123 : 0 ≤ (x9_3 : Int) := of_decide_eq_true (by first | (with_reducible assumption) | assumption); have q123 : x9_3 < ((rd_L1 t103 x7_1).length : Int) := of_decide_eq_true (by first | (with_reducible assumption) | assumption); obtain ⟨ad123, e123, hx123_0⟩ := Kd.at_int (by repeat (first | (with_reducible exact HR122_0.out) | (with_reducible refine Kd.C_alloc ?_ _) | (with_reducible refine Kd.C_drewN ?_ _) | (with_reducible refine Kd.C_drew ?_) | exact HR122_0.out)) x9_3 p123 q123; cases e123; replace p123 := eq_true p123; replace q123 := eq_true q123) | (go_at_call 22; (with_reducible refine (kinkeeplaw04_free.calls k3 _ _ t110 x9_3 true _ ?side1 ?side2 A33.out).mono ?_); (case side1 => repeat (first | exact (Kd.R_reads' HO_6.out).2.2 | (with_reducible refine Kd.C_alloc ?_ _) | (with_reducible refine Kd.C_drewN ?_ _) | (with_reducible refine Kd.C_drew ?_))); (case side2 => exact (Kd.R_reads' HO_6.out).2.1); rintro e w' ⟨rfl, ⟨nd, rfl⟩⟩; (try first | exact ⟨rfl, _, World.drewN_drewN _ _ _⟩ | exact ⟨rfl, _, Eq.trans (World.drewN_drewN _ _ _) (congrArg (World.drewN _) (Nat.add_assoc _ _ _))⟩))))
                                          go_roundg k3
                                          case measure => have := HK1.out; have := HJ13.out; have := HK3.out; omega
                                          case rel => exact ⟨(wrap64 (x9_3 + 1)), (by first | rfl | (simp; done) | (simp [*]; done)), H', ⟨by have := HK1.out; have := HJ13.out; have := HK3.out; omega⟩, ⟨by (with_reducible repeat (first | apply Kd.S_alloc | apply Kd.S_drewN | apply Kd.S_drew)); exact HO_3.out⟩, ⟨by (with_reducible repeat (first | apply Kd.R_alloc | apply Kd.R_drewN | apply Kd.R_drew)); exact HO_6.out⟩, ⟨by repeat (first | (with_reducible first | exact HB.out | apply below_alloc | apply pw_below_drewN | apply below_drew1) | exact HB.out)⟩⟩
                                        · rw [if_neg c35] at H
                                          have c35b0 : (x8_1 == x9_3) = false := beq_eq_false_iff_ne.mpr c35
                                          (try (have c31ec35 : ((rd (rd_L1 t103 x7_1) x9_3) == 1) = false := by have h_ := c31b0; rw [c35b0] at h_; revert h_; cases ((rd (rd_L1 t103 x7_1) x9_3) == 1) <;> decide))
                                          have c35b1 : (x8_1 != x9_3) = true := bne_iff_ne.mpr c35
                                          by_cases c37 : (rd (rd_L1 t103 x7_1) x9_3) = 0
                                          · rw [if_pos c37] at H
                                            have c37b0 : ((rd (rd_L1 t103 x7_1) x9_3) == 0) = true := beq_iff_eq.mpr c37
                                            have c37b1 : ((rd (rd_L1 t103 x7_1) x9_3) != 0) = false := bne_eq_false_iff_eq.mpr c37
                                            clear c37
                                            have H' := Aside0.mk H
                                            clear H
                                            go_wp2_with (first | (go_at_call 21; (with_reducible refine (kinkeepref04_Cols.calls _ _ l0 t120 _ ?side1 ?side2 A23.out).mono ?_); (case side1 => repeat (first | exact (Kd.C_below HR0.out HB.out) | (with_reducible refine Kd.C_alloc ?_ _) | (with_reducible refine Kd.C_drewN ?_ _) | (with_reducible refine Kd.C_drew ?_))); (case side2 => exact HC0.out); rintro e w' ⟨rfl, ⟨nd, rfl⟩⟩; (try first | exact ⟨rfl, _, World.drewN_drewN _ _ _⟩ | exact ⟨rfl, _, Eq.trans (World.drewN_drewN _ _ _) (congrArg (World.drewN _) (Nat.add_assoc _ _ _))⟩)) | (go_at_call 22; (with_reducible refine (kinkeeplaw04_free.calls k3 _ _ t110 x9_3 true _ ?side1 ?side2 A25.out).mono ?_); (case side1 => repeat (first | exact (Kd.R_reads' HO_6.out).2.2 | (with_reducible refine Kd.C_alloc ?_ _) | (with_reducible refine Kd.C_drewN ?_ _) | (with_reducible refine Kd.C_drew ?_))); (case side2 => exact (Kd.R_reads' HO_6.out).2.1); rintro e w' ⟨rfl, ⟨nd, rfl⟩⟩; (try first | exact ⟨rfl, _, World.drewN_drewN _ _ _⟩ | exact ⟨rfl, _, Eq.trans (World.drewN_drewN _ _ _) (congrArg (World.drewN _) (Nat.add_assoc _ _ _))⟩); obtain ⟨Ao38, co38, eo38⟩ := Kd.S_slice HO_3.out; subst eo38; have p122 : 0 ≤ (x7_1 : Int) := of_decide_eq_true (by first | (with_reducible assumption) | assumption); have q122 : x7_1 < (t103.length : Int) := of_decide_eq_true (by first | (with_reducible assumption) | assumption); obtain ⟨ad122, A122_0, c122_0, e122, hx122_0, hl122_0, hi122_0⟩ := at_L1 (Kd.S_reads' HO_3.out).2.2 x7_1 p122 q122; cases e122; obtain ⟨ce122, hce122, hMe122, hcc122⟩ := Kd.S_get HO_3.out [] x7_1 p122 (by first | exact q122 | exact of_decide_eq_true (by first | (with_reducible assumption) | assumption) | (have e_ := (Kd.S_reads' HO_3.out).1; omega)); obtain ⟨ve122_0, rfl, ge122_0⟩ := hMe122; have hv122_0 := hcc122 0 _ rfl; rw [Nat.add_zero, show ((Kd.slice 5 (Kd.int .u8))).sz = 1 from rfl, Nat.mul_one] at hv122_0; replace hv122_0 := Option.some.inj (hv122_0.symm.trans hx122_0); rw [hv122_0] at ge122_0; have HL122_0 := Aside0.mk (show Kd.R (Kd.int .u8) 5 _ _ _ _ (rd_L1 t103 x7_1) from ge122_0); clear hv122_0 ge122_0; clear hcc122 hce122; have HR122_0 := Aside0.mk hi122_0; have HC122_0 := Aside0.mk hl122_0; clear hi122_0 hl122_0; replace p122 := eq_true p122; replace q122 := eq_true q122; have p123 : 0 ≤ (x9_3 : Int) := of_decide_eq_true (by first | (with_reducible assumption) | assumption); have q123 : x9_3 < ((rd_L1 t103 x7_1).length : Int) := of_decide_eq_true (by first | (with_reducible assumption) | assumption); obtain ⟨ad123, e123, hx123_0⟩ := Kd.at_int (by repeat (first | (with_reducible exact HR122_0.out) | (with_reducible refine Kd.C_alloc ?_ _) | (with_reducible refine Kd.C_drewN ?_ _) | (with_reducible refine Kd.C_drew ?_) | exact HR122_0.out)) x9_3 p123 q123; cases e123; replace p123 := eq_true p123; replace q123 := eq_true q123) | (go_at_call 22; (with_reducible refine (kinkeeplaw04_free.calls k3 _ _ t110 x9_3 true _ ?side1 ?side2 A33.out).mono ?_); (case side1 => repeat (first | exact (Kd.R_reads' HO_6.out).2.2 | (with_reducible refine Kd.C_alloc ?_ _) | (with_reducible refine Kd.C_drewN ?_ _) | (with_reducible refine Kd.C_drew ?_))); (case side2 => exact (Kd.R_reads' HO_6.out).2.1); rintro e w' ⟨rfl, ⟨nd, rfl⟩⟩; (try first | exact ⟨rfl, _, World.drewN_drewN _ _ _⟩ | exact ⟨rfl, _, Eq.trans (World.drewN_drewN _ _ _) (congrArg (World.drewN _) (Nat.add_assoc _ _ _))⟩); have p125 : 0 ≤ (x7_1 : Int) := of_decide_eq_true (by first | (with_reducible assumption) | assumption); have q125 : x7_1 < (t103.length : Int) := of_decide_eq_true (by first | (with_reducible assumption) | assumption); obtain ⟨ad125, A125_0, c125_0, e125, hx125_0, hl125_0, hi125_0⟩ := at_L1 (Kd.S_reads' HO_3.out).2.2 x7_1 p125 q125; obtain rfl : ad122 = ad125 := (by injection e125); obtain ⟨ce125, hce125, hMe125, hcc125⟩ := Kd.S_get HO_3.out [] x7_1 p125 (by first | exact q125 | exact of_decide_eq_true (by first | (with_reducible assumption) | assumption) | (have e_ := (Kd.S_reads' HO_3.out).1; omega)); obtain ⟨ve125_0, rfl, ge125_0⟩ := hMe125; have hv125_0 := hcc125 0 _ rfl; rw [Nat.add_zero, show ((Kd.slice 5 (Kd.int .u8))).sz = 1 from rfl, Nat.mul_one] at hv125_0; replace hv125_0 := Option.some.inj (hv125_0.symm.trans hx125_0); rw [hv125_0] at ge125_0; have HL125_0 := Aside0.mk (show Kd.R (Kd.int .u8) 5 _ _ _ _ (rd_L1 t103 x7_1) from ge125_0); clear hv125_0 ge125_0; clear hcc125 hce125; have HR125_0 := Aside0.mk hi125_0; have HC125_0 := Aside0.mk hl125_0; clear hi125_0 hl125_0; replace p125 := eq_true p125; replace q125 := eq_true q125; have ea_ := Option.some.inj (hx122_0.symm.trans hx125_0); injection ea_ with ea_ en_ ec_; subst ea_; subst ec_; clear en_; have p126 : 0 ≤ (x9_3 : Int) := of_decide_eq_true (by first | (with_reducible assumption) | assumption); have q126 : x9_3 < ((rd_L1 t103 x7_1).length : Int) := of_decide_eq_true (by first | (with_reducible assumption) | assumption); obtain ⟨ad126, e126, hx126_0⟩ := Kd.at_int (by repeat (first | (with_reducible exact HR125_0.out) | (with_reducible refine Kd.C_alloc ?_ _) | (with_reducible refine Kd.C_drewN ?_ _) | (with_reducible refine Kd.C_drew ?_) | exact HR125_0.out)) x9_3 p126 q126; cases e126; replace p126 := eq_true p126; replace q126 := eq_true q126))
                                            repeat (go_quiet (first | (go_at_call 21; (with_reducible refine (kinkeepref04_Cols.calls _ _ l0 t120 _ ?side1 ?side2 A23.out).mono ?_); (case side1 => repeat (first | exact (Kd.C_below HR0.out HB.out) | (with_reducible refine Kd.C_alloc ?_ _) | (with_reducible refine Kd.C_drewN ?_ _) | (with_reducible refine Kd.C_drew ?_))); (case side2 => exact HC0.out); rintro e w' ⟨rfl, ⟨nd, rfl⟩⟩; (try first | exact ⟨rfl, _, World.drewN_drewN _ _ _⟩ | exact ⟨rfl, _, Eq.trans (World.drewN_drewN _ _ _) (congrArg (World.drewN _) (Nat.add_assoc _ _ _))⟩)) | (go_at_call 22; (with_reducible refine (kinkeeplaw04_free.calls k3 _ _ t110 x9_3 true _ ?side1 ?side2 A25.out).mono ?_); (case side1 => repeat (first | exact (Kd.R_reads' HO_6.out).2.2 | (with_reducible refine Kd.C_alloc ?_ _) | (with_reducible refine Kd.C_drewN ?_ _) | (with_reducible refine Kd.C_drew ?_))); (case side2 => exact (Kd.R_reads' HO_6.out).2.1); rintro e w' ⟨rfl, ⟨nd, rfl⟩⟩; (try first | exact ⟨rfl, _, World.drewN_drewN _ _ _⟩ | exact ⟨rfl, _, Eq.trans (World.drewN_drewN _ _ _) (congrArg (World.drewN _) (Nat.add_assoc _ _ _))⟩); obtain ⟨Ao38, co38, eo38⟩ := Kd.S_slice HO_3.out; subst eo38; have p122 : 0 ≤ (x7_1 : Int) := of_decide_eq_true (by first | (with_reducible assumption) | assumption); have q122 : x7_1 < (t103.length : Int) := of_decide_eq_true (by first | (with_reducible assumption) | assumption); obtain ⟨ad122, A122_0, c122_0, e122, hx122_0, hl122_0, hi122_0⟩ := at_L1 (Kd.S_reads' HO_3.out).2.2 x7_1 p122 q122; cases e122; obtain ⟨ce122, hce122, hMe122, hcc122⟩ := Kd.S_get HO_3.out [] x7_1 p122 (by first | exact q122 | exact of_decide_eq_true (by first | (with_reducible assumption) | assumption) | (have e_ := (Kd.S_reads' HO_3.out).1; omega)); obtain ⟨ve122_0, rfl, ge122_0⟩ := hMe122; have hv122_0 := hcc122 0 _ rfl; rw [Nat.add_zero, show ((Kd.slice 5 (Kd.int .u8))).sz = 1 from rfl, Nat.mul_one] at hv122_0; replace hv122_0 := Option.some.inj (hv122_0.symm.trans hx122_0); rw [hv122_0] at ge122_0; have HL122_0 := Aside0.mk (show Kd.R (Kd.int .u8) 5 _ _ _ _ (rd_L1 t103 x7_1) from ge122_0); clear hv122_0 ge122_0; clear hcc122 hce122; have HR122_0 := Aside0.mk hi122_0; have HC122_0 := Aside0.mk hl122_0; clear hi122_0 hl122_0; replace p122 := eq_true p122; replace q122 := eq_true q122; have p123 : 0 ≤ (x9_3 : Int) := of_decide_eq_true (by first | (with_reducible assumption) | assumption); have q123 : x9_3 < ((rd_L1 t103 x7_1).length : Int) := of_decide_eq_true (by first | (with_reducible assumption) | assumption); obtain ⟨ad123, e123, hx123_0⟩ := Kd.at_int (by repeat (first | (with_reducible exact HR122_0.out) | (with_reducible refine Kd.C_alloc ?_ _) | (with_reducible refine Kd.C_drewN ?_ _) | (with_reducible refine Kd.C_drew ?_) | exact HR122_0.out)) x9_3 p123 q123; cases e123; replace p123 := eq_true p123; replace q123 := eq_true q123) | (go_at_call 22; (with_reducible refine (kinkeeplaw04_free.calls k3 _ _ t110 x9_3 true _ ?side1 ?side2 A33.out).mono ?_); (case side1 => repeat (first | exact (Kd.R_reads' HO_6.out).2.2 | (with_reducible refine Kd.C_alloc ?_ _) | (with_reducible refine Kd.C_drewN ?_ _) | (with_reducible refine Kd.C_drew ?_))); (case side2 => exact (Kd.R_reads' HO_6.out).2.1); rintro e w' ⟨rfl, ⟨nd, rfl⟩⟩; (try first | exact ⟨rfl, _, World.drewN_drewN _ _ _⟩ | exact ⟨rfl, _, Eq.trans (World.drewN_drewN _ _ _) (congrArg (World.drewN _) (Nat.add_assoc _ _ _))⟩); have p125 : 0 ≤ (x7_1 : Int) := of_decide_eq_true (by first | (with_reducible assumption) | assumption); have q125 : x7_1 < (t103.length : Int) := of_decide_eq_true (by first | (with_reducible assumption) | assumption); obtain ⟨ad125, A125_0, c125_0, e125, hx125_0, hl125_0, hi125_0⟩ := at_L1 (Kd.S_reads' HO_3.out).2.2 x7_1 p125 q125; obtain rfl : ad122 = ad125 := (by injection e125); obtain ⟨ce125, hce125, hMe125, hcc125⟩ := Kd.S_get HO_3.out [] x7_1 p125 (by first | exact q125 | exact of_decide_eq_true (by first | (with_reducible assumption) | assumption) | (have e_ := (Kd.S_reads' HO_3.out).1; omega)); obtain ⟨ve125_0, rfl, ge125_0⟩ := hMe125; have hv125_0 := hcc125 0 _ rfl; rw [Nat.add_zero, show ((Kd.slice 5 (Kd.int .u8))).sz = 1 from rfl, Nat.mul_one] at hv125_0; replace hv125_0 := Option.some.inj (hv125_0.symm.trans hx125_0); rw [hv125_0] at ge125_0; have HL125_0 := Aside0.mk (show Kd.R (Kd.int .u8) 5 _ _ _ _ (rd_L1 t103 x7_1) from ge125_0); clear hv125_0 ge125_0; clear hcc125 hce125; have HR125_0 := Aside0.mk hi125_0; have HC125_0 := Aside0.mk hl125_0; clear hi125_0 hl125_0; replace p125 := eq_true p125; replace q125 := eq_true q125; have ea_ := Option.some.inj (hx122_0.symm.trans hx125_0); injection ea_ with ea_ en_ ec_; subst ea_; subst ec_; clear en_; have p126 : 0 ≤ (x9_3 : Int) := of_decide_eq_true (by first | (with_reducible assumption) | assumption); have q126 : x9_3 < ((rd_L1 t103 x7_1).length : Int) := of_decide_eq_true (by first | (with_reducible assumption) | assumption); obtain ⟨ad126, e126, hx126_0⟩ := Kd.at_int (by repeat (first | (with_reducible exact HR125_0.out) | (with_reducible refine Kd.C_alloc ?_ _) | (with_reducible refine Kd.C_drewN ?_ _) | (with_reducible refine Kd.C_drew ?_) | exact HR125_0.out)) x9_3 p126 q126; cases e126; replace p126 := eq_true p126; replace q126 := eq_true q126)); try go_wp2_with (first | (go_at_call 21; (with_reducible refine (kinkeepref04_Cols.calls _ _ l0 t120 _ ?side1 ?side2 A23.out).mono ?_); (case side1 => repeat (first | exact (Kd.C_below HR0.out HB.out) | (with_reducible refine Kd.C_alloc ?_ _) | (with_reducible refine Kd.C_drewN ?_ _) | (with_reducible refine Kd.C_drew ?_))); (case side2 => exact HC0.out); rintro e w' ⟨rfl, ⟨nd, rfl⟩⟩; (try first | exact ⟨rfl, _, World.drewN_drewN _ _ _⟩ | exact ⟨rfl, _, Eq.trans (World.drewN_drewN _ _ _) (congrArg (World.drewN _) (Nat.add_assoc _ _ _))⟩)) | (go_at_call 22; (with_reducible refine (kinkeeplaw04_free.calls k3 _ _ t110 x9_3 true _ ?side1 ?side2 A25.out).mono ?_); (case side1 => repeat (first | exact (Kd.R_reads' HO_6.out).2.2 | (with_reducible refine Kd.C_alloc ?_ _) | (with_reducible refine Kd.C_drewN ?_ _) | (with_reducible refine Kd.C_drew ?_))); (case side2 => exact (Kd.R_reads' HO_6.out).2.1); rintro e w' ⟨rfl, ⟨nd, rfl⟩⟩; (try first | exact ⟨rfl, _, World.drewN_drewN _ _ _⟩ | exact ⟨rfl, _, Eq.trans (World.drewN_drewN _ _ _) (congrArg (World.drewN _) (Nat.add_assoc _ _ _))⟩); obtain ⟨Ao38, co38, eo38⟩ := Kd.S_slice HO_3.out; subst eo38; have p122 : 0 ≤ (x7_1 : Int) := of_decide_eq_true (by first | (with_reducible assumption) | assumption); have q122 : x7_1 < (t103.length : Int) := of_decide_eq_true (by first | (with_reducible assumption) | assumption); obtain ⟨ad122, A122_0, c122_0, e122, hx122_0, hl122_0, hi122_0⟩ := at_L1 (Kd.S_reads' HO_3.out).2.2 x7_1 p122 q122; cases e122; obtain ⟨ce122, hce122, hMe122, hcc122⟩ := Kd.S_get HO_3.out [] x7_1 p122 (by first | exact q122 | exact of_decide_eq_true (by first | (with_reducible assumption) | assumption) | (have e_ := (Kd.S_reads' HO_3.out).1; omega)); obtain ⟨ve122_0, rfl, ge122_0⟩ := hMe122; have hv122_0 := hcc122 0 _ rfl; rw [Nat.add_zero, show ((Kd.slice 5 (Kd.int .u8))).sz = 1 from rfl, Nat.mul_one] at hv122_0; replace hv122_0 := Option.some.inj (hv122_0.symm.trans hx122_0); rw [hv122_0] at ge122_0; have HL122_0 := Aside0.mk (show Kd.R (Kd.int .u8) 5 _ _ _ _ (rd_L1 t103 x7_1) from ge122_0); clear hv122_0 ge122_0; clear hcc122 hce122; have HR122_0 := Aside0.mk hi122_0; have HC122_0 := Aside0.mk hl122_0; clear hi122_0 hl122_0; replace p122 := eq_true p122; replace q122 := eq_true q122; have p123 : 0 ≤ (x9_3 : Int) := of_decide_eq_true (by first | (with_reducible assumption) | assumption); have q123 : x9_3 < ((rd_L1 t103 x7_1).length : Int) := of_decide_eq_true (by first | (with_reducible assumption) | assumption); obtain ⟨ad123, e123, hx123_0⟩ := Kd.at_int (by repeat (first | (with_reducible exact HR122_0.out) | (with_reducible refine Kd.C_alloc ?_ _) | (with_reducible refine Kd.C_drewN ?_ _) | (with_reducible refine Kd.C_drew ?_) | exact HR122_0.out)) x9_3 p123 q123; cases e123; replace p123 := eq_true p123; replace q123 := eq_true q123) | (go_at_call 22; (with_reducible refine (kinkeeplaw04_free.calls k3 _ _ t110 x9_3 true _ ?side1 ?side2 A33.out).mono ?_); (case side1 => repeat (first | exact (Kd.R_reads' HO_6.out).2.2 | (with_reducible refine Kd.C_alloc ?_ _) | (with_reducible refine Kd.C_drewN ?_ _) | (with_reducible refine Kd.C_drew ?_))); (case side2 => exact (Kd.R_reads' HO_6.out).2.1); rintro e w' ⟨rfl, ⟨nd, rfl⟩⟩; (try first | exact ⟨rfl, _, World.drewN_drewN _ _ _⟩ | exact ⟨rfl, _, Eq.trans (World.drewN_drewN _ _ _) (congrArg (World.drewN _) (Nat.add_assoc _ _ _))⟩); have p125 : 0 ≤ (x7_1 : Int) := of_decide_eq_true (by first | (with_reducible assumption) | assumption); have q125 : x7_1 < (t103.length : Int) := of_decide_eq_true (by first | (with_reducible assumption) | assumption); obtain ⟨ad125, A125_0, c125_0, e125, hx125_0, hl125_0, hi125_0⟩ := at_L1 (Kd.S_reads' HO_3.out).2.2 x7_1 p125 q125; obtain rfl : ad122 = ad125 := (by injection e125); obtain ⟨ce125, hce125, hMe125, hcc125⟩ := Kd.S_get HO_3.out [] x7_1 p125 (by first | exact q125 | exact of_decide_eq_true (by first | (with_reducible assumption) | assumption) | (have e_ := (Kd.S_reads' HO_3.out).1; omega)); obtain ⟨ve125_0, rfl, ge125_0⟩ := hMe125; have hv125_0 := hcc125 0 _ rfl; rw [Nat.add_zero, show ((Kd.slice 5 (Kd.int .u8))).sz = 1 from rfl, Nat.mul_one] at hv125_0; replace hv125_0 := Option.some.inj (hv125_0.symm.trans hx125_0); rw [hv125_0] at ge125_0; have HL125_0 := Aside0.mk (show Kd.R (Kd.int .u8) 5 _ _ _ _ (rd_L1 t103 x7_1) from ge125_0); clear hv125_0 ge125_0; clear hcc125 hce125; have HR125_0 := Aside0.mk hi125_0; have HC125_0 := Aside0.mk hl125_0; clear hi125_0 hl125_0; replace p125 := eq_true p125; replace q125 := eq_true q125; have ea_ := Option.some.inj (hx122_0.symm.trans hx125_0); injection ea_ with ea_ en_ ec_; subst ea_; subst ec_; clear en_; have p126 : 0 ≤ (x9_3 : Int) := of_decide_eq_true (by first | (with_reducible assumption) | assumption); have q126 : x9_3 < ((rd_L1 t103 x7_1).length : Int) := of_decide_eq_true (by first | (with_reducible assumption) | assumption); obtain ⟨ad126, e126, hx126_0⟩ := Kd.at_int (by repeat (first | (with_reducible exact HR125_0.out) | (with_reducible refine Kd.C_alloc ?_ _) | (with_reducible refine Kd.C_drewN ?_ _) | (with_reducible refine Kd.C_drew ?_) | exact HR125_0.out)) x9_3 p126 q126; cases e126; replace p126 := eq_true p126; replace q126 := eq_true q126)))
                                            go_roundg k3
                                            case measure => have := HK1.out; have := HJ13.out; have := HK3.out; omega
                                            case rel => exact ⟨(wrap64 (x9_3 + 1)), (by first | rfl | (simp; done) | (simp [*]; done)), H', ⟨by have := HK1.out; have := HJ13.out; have := HK3.out; omega⟩, ⟨by (with_reducible repeat (first | apply Kd.S_alloc | apply Kd.S_drewN | apply Kd.S_drew)); exact HO_3.out⟩, ⟨by (with_reducible repeat (first | apply Kd.R_alloc | apply Kd.R_drewN | apply Kd.R_drew)); exact HO_6.out⟩, ⟨by repeat (first | (with_reducible first | exact HB.out | apply below_alloc | apply pw_below_drewN | apply below_drew1) | exact HB.out)⟩⟩
                                          · rw [if_neg c37] at H
                                            have c37b0 : ((rd (rd_L1 t103 x7_1) x9_3) == 0) = false := beq_eq_false_iff_ne.mpr c37
                                            have c37b1 : ((rd (rd_L1 t103 x7_1) x9_3) != 0) = true := bne_iff_ne.mpr c37
                                            obtain rfl := Option.some.inj H
                                            exact absurd HRT.out (by decide)
                                      · replace c34 := Bool.eq_false_iff.mpr c34
                                        subst c34
                                        have H1 : (kinkeeplaw04_MatrixKernels.l1 k3 l0 t103 t104 t110 x7_1 x8_1 (wrap64 (x9_3 + 1))) = some r := by rw [if_neg (show ¬ (false = true) by decide)] at H; exact H
                                        clear H
                                        have H := H1
                                        clear H1
                                        have H' := Aside0.mk H
                                        clear H
                                        go_wp2_with (first | (go_at_call 21; (with_reducible refine (kinkeepref04_Cols.calls _ _ l0 t120 _ ?side1 ?side2 A23.out).mono ?_); (case side1 => repeat (first | exact (Kd.C_below HR0.out HB.out) | (with_reducible refine Kd.C_alloc ?_ _) | (with_reducible refine Kd.C_drewN ?_ _) | (with_reducible refine Kd.C_drew ?_))); (case side2 => exact HC0.out); rintro e w' ⟨rfl, ⟨nd, rfl⟩⟩; (try first | exact ⟨rfl, _, World.drewN_drewN _ _ _⟩ | exact ⟨rfl, _, Eq.trans (World.drewN_drewN _ _ _) (congrArg (World.drewN _) (Nat.add_assoc _ _ _))⟩)) | (go_at_call 22; (with_reducible refine (kinkeeplaw04_free.calls k3 _ _ t110 x9_3 true _ ?side1 ?side2 A25.out).mono ?_); (case side1 => repeat (first | exact (Kd.R_reads' HO_6.out).2.2 | (with_reducible refine Kd.C_alloc ?_ _) | (with_reducible refine Kd.C_drewN ?_ _) | (with_reducible refine Kd.C_drew ?_))); (case side2 => exact (Kd.R_reads' HO_6.out).2.1); rintro e w' ⟨rfl, ⟨nd, rfl⟩⟩; (try first | exact ⟨rfl, _, World.drewN_drewN _ _ _⟩ | exact ⟨rfl, _, Eq.trans (World.drewN_drewN _ _ _) (congrArg (World.drewN _) (Nat.add_assoc _ _ _))⟩); obtain ⟨Ao40, co40, eo40⟩ := Kd.S_slice HO_3.out; subst eo40; have p122 : 0 ≤ (x7_1 : Int) := of_decide_eq_true (by first | (with_reducible assumption) | assumption); have q122 : x7_1 < (t103.length : Int) := of_decide_eq_true (by first | (with_reducible assumption) | assumption); obtain ⟨ad122, A122_0, c122_0, e122, hx122_0, hl122_0, hi122_0⟩ := at_L1 (Kd.S_reads' HO_3.out).2.2 x7_1 p122 q122; cases e122; obtain ⟨ce122, hce122, hMe122, hcc122⟩ := Kd.S_get HO_3.out [] x7_1 p122 (by first | exact q122 | exact of_decide_eq_true (by first | (with_reducible assumption) | assumption) | (have e_ := (Kd.S_reads' HO_3.out).1; omega)); obtain ⟨ve122_0, rfl, ge122_0⟩ := hMe122; have hv122_0 := hcc122 0 _ rfl; rw [Nat.add_zero, show ((Kd.slice 5 (Kd.int .u8))).sz = 1 from rfl, Nat.mul_one] at hv122_0; replace hv122_0 := Option.some.inj (hv122_0.symm.trans hx122_0); rw [hv122_0] at ge122_0; have HL122_0 := Aside0.mk (show Kd.R (Kd.int .u8) 5 _ _ _ _ (rd_L1 t103 x7_1) from ge122_0); clear hv122_0 ge122_0; clear hcc122 hce122; have HR122_0 := Aside0.mk hi122_0; have HC122_0 := Aside0.mk hl122_0; clear hi122_0 hl122_0; replace p122 := eq_true p122; replace q122 := eq_true q122; have p123 : 0 ≤ (x9_3 : Int) := of_decide_eq_true (by first | (with_reducible assumption) | assumption); have q123 : x9_3 < ((rd_L1 t103 x7_1).length : Int) := of_decide_eq_true (by first | (with_reducible assumption) | assumption); obtain ⟨ad123, e123, hx123_0⟩ := Kd.at_int (by repeat (first | (with_reducible exact HR122_0.out) | (with_reducible refine Kd.C_alloc ?_ _) | (with_reducible refine Kd.C_drewN ?_ _) | (with_reducible refine Kd.C_drew ?_) | exact HR122_0.out)) x9_3 p123 q123; cases e123; replace p123 := eq_true p123; replace q123 := eq_true q123) | (go_at_call 22; (with_reducible refine (kinkeeplaw04_free.calls k3 _ _ t110 x9_3 false _ ?side1 ?side2 A33.out).mono ?_); (case side1 => repeat (first | exact (Kd.R_reads' HO_6.out).2.2 | (with_reducible refine Kd.C_alloc ?_ _) | (with_reducible refine Kd.C_drewN ?_ _) | (with_reducible refine Kd.C_drew ?_))); (case side2 => exact (Kd.R_reads' HO_6.out).2.1); rintro e w' ⟨rfl, ⟨nd, rfl⟩⟩; (try first | exact ⟨rfl, _, World.drewN_drewN _ _ _⟩ | exact ⟨rfl, _, Eq.trans (World.drewN_drewN _ _ _) (congrArg (World.drewN _) (Nat.add_assoc _ _ _))⟩)))
                                        repeat (go_quiet (first | (go_at_call 21; (with_reducible refine (kinkeepref04_Cols.calls _ _ l0 t120 _ ?side1 ?side2 A23.out).mono ?_); (case side1 => repeat (first | exact (Kd.C_below HR0.out HB.out) | (with_reducible refine Kd.C_alloc ?_ _) | (with_reducible refine Kd.C_drewN ?_ _) | (with_reducible refine Kd.C_drew ?_))); (case side2 => exact HC0.out); rintro e w' ⟨rfl, ⟨nd, rfl⟩⟩; (try first | exact ⟨rfl, _, World.drewN_drewN _ _ _⟩ | exact ⟨rfl, _, Eq.trans (World.drewN_drewN _ _ _) (congrArg (World.drewN _) (Nat.add_assoc _ _ _))⟩)) | (go_at_call 22; (with_reducible refine (kinkeeplaw04_free.calls k3 _ _ t110 x9_3 true _ ?side1 ?side2 A25.out).mono ?_); (case side1 => repeat (first | exact (Kd.R_reads' HO_6.out).2.2 | (with_reducible refine Kd.C_alloc ?_ _) | (with_reducible refine Kd.C_drewN ?_ _) | (with_reducible refine Kd.C_drew ?_))); (case side2 => exact (Kd.R_reads' HO_6.out).2.1); rintro e w' ⟨rfl, ⟨nd, rfl⟩⟩; (try first | exact ⟨rfl, _, World.drewN_drewN _ _ _⟩ | exact ⟨rfl, _, Eq.trans (World.drewN_drewN _ _ _) (congrArg (World.drewN _) (Nat.add_assoc _ _ _))⟩); obtain ⟨Ao40, co40, eo40⟩ := Kd.S_slice HO_3.out; subst eo40; have p122 : 0 ≤ (x7_1 : Int) := of_decide_eq_true (by first | (with_reducible assumption) | assumption); have q122 : x7_1 < (t103.length : Int) := of_decide_eq_true (by first | (with_reducible assumption) | assumption); obtain ⟨ad122, A122_0, c122_0, e122, hx122_0, hl122_0, hi122_0⟩ := at_L1 (Kd.S_reads' HO_3.out).2.2 x7_1 p122 q122; cases e122; obtain ⟨ce122, hce122, hMe122, hcc122⟩ := Kd.S_get HO_3.out [] x7_1 p122 (by first | exact q122 | exact of_decide_eq_true (by first | (with_reducible assumption) | assumption) | (have e_ := (Kd.S_reads' HO_3.out).1; omega)); obtain ⟨ve122_0, rfl, ge122_0⟩ := hMe122; have hv122_0 := hcc122 0 _ rfl; rw [Nat.add_zero, show ((Kd.slice 5 (Kd.int .u8))).sz = 1 from rfl, Nat.mul_one] at hv122_0; replace hv122_0 := Option.some.inj (hv122_0.symm.trans hx122_0); rw [hv122_0] at ge122_0; have HL122_0 := Aside0.mk (show Kd.R (Kd.int .u8) 5 _ _ _ _ (rd_L1 t103 x7_1) from ge122_0); clear hv122_0 ge122_0; clear hcc122 hce122; have HR122_0 := Aside0.mk hi122_0; have HC122_0 := Aside0.mk hl122_0; clear hi122_0 hl122_0; replace p122 := eq_true p122; replace q122 := eq_true q122; have p123 : 0 ≤ (x9_3 : Int) := of_decide_eq_true (by first | (with_reducible assumption) | assumption); have q123 : x9_3 < ((rd_L1 t103 x7_1).length : Int) := of_decide_eq_true (by first | (with_reducible assumption) | assumption); obtain ⟨ad123, e123, hx123_0⟩ := Kd.at_int (by repeat (first | (with_reducible exact HR122_0.out) | (with_reducible refine Kd.C_alloc ?_ _) | (with_reducible refine Kd.C_drewN ?_ _) | (with_reducible refine Kd.C_drew ?_) | exact HR122_0.out)) x9_3 p123 q123; cases e123; replace p123 := eq_true p123; replace q123 := eq_true q123) | (go_at_call 22; (with_reducible refine (kinkeeplaw04_free.calls k3 _ _ t110 x9_3 false _ ?side1 ?side2 A33.out).mono ?_); (case side1 => repeat (first | exact (Kd.R_reads' HO_6.out).2.2 | (with_reducible refine Kd.C_alloc ?_ _) | (with_reducible refine Kd.C_drewN ?_ _) | (with_reducible refine Kd.C_drew ?_))); (case side2 => exact (Kd.R_reads' HO_6.out).2.1); rintro e w' ⟨rfl, ⟨nd, rfl⟩⟩; (try first | exact ⟨rfl, _, World.drewN_drewN _ _ _⟩ | exact ⟨rfl, _, Eq.trans (World.drewN_drewN _ _ _) (congrArg (World.drewN _) (Nat.add_assoc _ _ _))⟩))); try go_wp2_with (first | (go_at_call 21; (with_reducible refine (kinkeepref04_Cols.calls _ _ l0 t120 _ ?side1 ?side2 A23.out).mono ?_); (case side1 => repeat (first | exact (Kd.C_below HR0.out HB.out) | (with_reducible refine Kd.C_alloc ?_ _) | (with_reducible refine Kd.C_drewN ?_ _) | (with_reducible refine Kd.C_drew ?_))); (case side2 => exact HC0.out); rintro e w' ⟨rfl, ⟨nd, rfl⟩⟩; (try first | exact ⟨rfl, _, World.drewN_drewN _ _ _⟩ | exact ⟨rfl, _, Eq.trans (World.drewN_drewN _ _ _) (congrArg (World.drewN _) (Nat.add_assoc _ _ _))⟩)) | (go_at_call 22; (with_reducible refine (kinkeeplaw04_free.calls k3 _ _ t110 x9_3 true _ ?side1 ?side2 A25.out).mono ?_); (case side1 => repeat (first | exact (Kd.R_reads' HO_6.out).2.2 | (with_reducible refine Kd.C_alloc ?_ _) | (with_reducible refine Kd.C_drewN ?_ _) | (with_reducible refine Kd.C_drew ?_))); (case side2 => exact (Kd.R_reads' HO_6.out).2.1); rintro e w' ⟨rfl, ⟨nd, rfl⟩⟩; (try first | exact ⟨rfl, _, World.drewN_drewN _ _ _⟩ | exact ⟨rfl, _, Eq.trans (World.drewN_drewN _ _ _) (congrArg (World.drewN _) (Nat.add_assoc _ _ _))⟩); obtain ⟨Ao40, co40, eo40⟩ := Kd.S_slice HO_3.out; subst eo40; have p122 : 0 ≤ (x7_1 : Int) := of_decide_eq_true (by first | (with_reducible assumption) | assumption); have q122 : x7_1 < (t103.length : Int) := of_decide_eq_true (by first | (with_reducible assumption) | assumption); obtain ⟨ad122, A122_0, c122_0, e122, hx122_0, hl122_0, hi122_0⟩ := at_L1 (Kd.S_reads' HO_3.out).2.2 x7_1 p122 q122; cases e122; obtain ⟨ce122, hce122, hMe122, hcc122⟩ := Kd.S_get HO_3.out [] x7_1 p122 (by first | exact q122 | exact of_decide_eq_true (by first | (with_reducible assumption) | assumption) | (have e_ := (Kd.S_reads' HO_3.out).1; omega)); obtain ⟨ve122_0, rfl, ge122_0⟩ := hMe122; have hv122_0 := hcc122 0 _ rfl; rw [Nat.add_zero, show ((Kd.slice 5 (Kd.int .u8))).sz = 1 from rfl, Nat.mul_one] at hv122_0; replace hv122_0 := Option.some.inj (hv122_0.symm.trans hx122_0); rw [hv122_0] at ge122_0; have HL122_0 := Aside0.mk (show Kd.R (Kd.int .u8) 5 _ _ _ _ (rd_L1 t103 x7_1) from ge122_0); clear hv122_0 ge122_0; clear hcc122 hce122; have HR122_0 := Aside0.mk hi122_0; have HC122_0 := Aside0.mk hl122_0; clear hi122_0 hl122_0; replace p122 := eq_true p122; replace q122 := eq_true q122; have p123 : 0 ≤ (x9_3 : Int) := of_decide_eq_true (by first | (with_reducible assumption) | assumption); have q123 : x9_3 < ((rd_L1 t103 x7_1).length : Int) := of_decide_eq_true (by first | (with_reducible assumption) | assumption); obtain ⟨ad123, e123, hx123_0⟩ := Kd.at_int (by repeat (first | (with_reducible exact HR122_0.out) | (with_reducible refine Kd.C_alloc ?_ _) | (with_reducible refine Kd.C_drewN ?_ _) | (with_reducible refine Kd.C_drew ?_) | exact HR122_0.out)) x9_3 p123 q123; cases e123; replace p123 := eq_true p123; replace q123 := eq_true q123) | (go_at_call 22; (with_reducible refine (kinkeeplaw04_free.calls k3 _ _ t110 x9_3 false _ ?side1 ?side2 A33.out).mono ?_); (case side1 => repeat (first | exact (Kd.R_reads' HO_6.out).2.2 | (with_reducible refine Kd.C_alloc ?_ _) | (with_reducible refine Kd.C_drewN ?_ _) | (with_reducible refine Kd.C_drew ?_))); (case side2 => exact (Kd.R_reads' HO_6.out).2.1); rintro e w' ⟨rfl, ⟨nd, rfl⟩⟩; (try first | exact ⟨rfl, _, World.drewN_drewN _ _ _⟩ | exact ⟨rfl, _, Eq.trans (World.drewN_drewN _ _ _) (congrArg (World.drewN _) (Nat.add_assoc _ _ _))⟩))))
                                        go_roundg k3
                                        case measure => have := HK1.out; have := HJ13.out; have := HK3.out; omega
                                        case rel => exact ⟨(wrap64 (x9_3 + 1)), (by first | rfl | (simp; done) | (simp [*]; done)), H', ⟨by have := HK1.out; have := HJ13.out; have := HK3.out; omega⟩, ⟨by (with_reducible repeat (first | apply Kd.S_alloc | apply Kd.S_drewN | apply Kd.S_drew)); exact HO_3.out⟩, ⟨by (with_reducible repeat (first | apply Kd.R_alloc | apply Kd.R_drewN | apply Kd.R_drew)); exact HO_6.out⟩, ⟨by repeat (first | (with_reducible first | exact HB.out | apply below_alloc | apply pw_below_drewN | apply below_drew1) | exact HB.out)⟩⟩
                                  · rw [if_neg c30] at H
                                    exact absurd H (by simp)
                                · rw [if_neg c29] at H
                                  exact absurd H (by simp)
                              · rw [if_neg c28] at H
                                exact absurd H (by simp)
                            · rw [if_neg c27] at H
                              exact absurd H (by simp)
                          · replace c26 := Bool.eq_false_iff.mpr c26
                            subst c26
                            have H1 : ((kinkeeplaw04_free.f k3 t110 x9_3).bind fun t127 => (if t127 = true then (if x8_1 = x9_3 then (kinkeeplaw04_MatrixKernels.l1 k3 l0 t103 t104 t110 x7_1 x8_1 (wrap64 (x9_3 + 1))) else (if 0 ≤ x7_1 then (if x7_1 < (t103.length : Int) then (if 0 ≤ x9_3 then (if x9_3 < ((rd_L1 t103 x7_1).length : Int) then (if (rd (rd_L1 t103 x7_1) x9_3) = 0 then (kinkeeplaw04_MatrixKernels.l1 k3 l0 t103 t104 t110 x7_1 x8_1 (wrap64 (x9_3 + 1))) else (some false)) else (none)) else (none)) else (none)) else (none))) else (kinkeeplaw04_MatrixKernels.l1 k3 l0 t103 t104 t110 x7_1 x8_1 (wrap64 (x9_3 + 1))))) = some r := by rw [if_neg (show ¬ (false = true) by decide)] at H; exact H
                            clear H
                            have H := H1
                            clear H1
                            replace H := Option.bind_eq_some_iff.mp H
                            obtain ⟨t127, A410, H⟩ := H
                            replace H : (if t127 = true then (if x8_1 = x9_3 then (kinkeeplaw04_MatrixKernels.l1 k3 l0 t103 t104 t110 x7_1 x8_1 (wrap64 (x9_3 + 1))) else (if 0 ≤ x7_1 then (if x7_1 < (t103.length : Int) then (if 0 ≤ x9_3 then (if x9_3 < ((rd_L1 t103 x7_1).length : Int) then (if (rd (rd_L1 t103 x7_1) x9_3) = 0 then (kinkeeplaw04_MatrixKernels.l1 k3 l0 t103 t104 t110 x7_1 x8_1 (wrap64 (x9_3 + 1))) else (some false)) else (none)) else (none)) else (none)) else (none))) else (kinkeeplaw04_MatrixKernels.l1 k3 l0 t103 t104 t110 x7_1 x8_1 (wrap64 (x9_3 + 1)))) = some r := H
                            have A41 := Aside0.mk A410
                            clear A410
                            by_cases c42 : t127 = true
                            · subst c42
                              have H1 : (if x8_1 = x9_3 then (kinkeeplaw04_MatrixKernels.l1 k3 l0 t103 t104 t110 x7_1 x8_1 (wrap64 (x9_3 + 1))) else (if 0 ≤ x7_1 then (if x7_1 < (t103.length : Int) then (if 0 ≤ x9_3 then (if x9_3 < ((rd_L1 t103 x7_1).length : Int) then (if (rd (rd_L1 t103 x7_1) x9_3) = 0 then (kinkeeplaw04_MatrixKernels.l1 k3 l0 t103 t104 t110 x7_1 x8_1 (wrap64 (x9_3 + 1))) else (some false)) else (none)) else (none)) else (none)) else (none))) = some r := by rw [if_pos rfl] at H; exact H
                              clear H
                              have H := H1
                              clear H1
                              by_cases c43 : x8_1 = x9_3
                              · rw [if_pos c43] at H
                                have c43b0 : (x8_1 == x9_3) = true := beq_iff_eq.mpr c43
                                have c43b1 : (x8_1 != x9_3) = false := bne_eq_false_iff_eq.mpr c43
                                clear c43
                                have H' := Aside0.mk H
                                clear H
                                go_wp2_with (first | (go_at_call 21; (with_reducible refine (kinkeepref04_Cols.calls _ _ l0 t120 _ ?side1 ?side2 A23.out).mono ?_); (case side1 => repeat (first | exact (Kd.C_below HR0.out HB.out) | (with_reducible refine Kd.C_alloc ?_ _) | (with_reducible refine Kd.C_drewN ?_ _) | (with_reducible refine Kd.C_drew ?_))); (case side2 => exact HC0.out); rintro e w' ⟨rfl, ⟨nd, rfl⟩⟩; (try first | exact ⟨rfl, _, World.drewN_drewN _ _ _⟩ | exact ⟨rfl, _, Eq.trans (World.drewN_drewN _ _ _) (congrArg (World.drewN _) (Nat.add_assoc _ _ _))⟩)) | (go_at_call 22; (with_reducible refine (kinkeeplaw04_free.calls k3 _ _ t110 x9_3 false _ ?side1 ?side2 A25.out).mono ?_); (case side1 => repeat (first | exact (Kd.R_reads' HO_6.out).2.2 | (with_reducible refine Kd.C_alloc ?_ _) | (with_reducible refine Kd.C_drewN ?_ _) | (with_reducible refine Kd.C_drew ?_))); (case side2 => exact (Kd.R_reads' HO_6.out).2.1); rintro e w' ⟨rfl, ⟨nd, rfl⟩⟩; (try first | exact ⟨rfl, _, World.drewN_drewN _ _ _⟩ | exact ⟨rfl, _, Eq.trans (World.drewN_drewN _ _ _) (congrArg (World.drewN _) (Nat.add_assoc _ _ _))⟩)) | (go_at_call 22; (with_reducible refine (kinkeeplaw04_free.calls k3 _ _ t110 x9_3 true _ ?side1 ?side2 A41.out).mono ?_); (case side1 => repeat (first | exact (Kd.R_reads' HO_6.out).2.2 | (with_reducible refine Kd.C_alloc ?_ _) | (with_reducible refine Kd.C_drewN ?_ _) | (with_reducible refine Kd.C_drew ?_))); (case side2 => exact (Kd.R_reads' HO_6.out).2.1); rintro e w' ⟨rfl, ⟨nd, rfl⟩⟩; (try first | exact ⟨rfl, _, World.drewN_drewN _ _ _⟩ | exact ⟨rfl, _, Eq.trans (World.drewN_drewN _ _ _) (congrArg (World.drewN _) (Nat.add_assoc _ _ _))⟩)))
                                repeat (go_quiet (first | (go_at_call 21; (with_reducible refine (kinkeepref04_Cols.calls _ _ l0 t120 _ ?side1 ?side2 A23.out).mono ?_); (case side1 => repeat (first | exact (Kd.C_below HR0.out HB.out) | (with_reducible refine Kd.C_alloc ?_ _) | (with_reducible refine Kd.C_drewN ?_ _) | (with_reducible refine Kd.C_drew ?_))); (case side2 => exact HC0.out); rintro e w' ⟨rfl, ⟨nd, rfl⟩⟩; (try first | exact ⟨rfl, _, World.drewN_drewN _ _ _⟩ | exact ⟨rfl, _, Eq.trans (World.drewN_drewN _ _ _) (congrArg (World.drewN _) (Nat.add_assoc _ _ _))⟩)) | (go_at_call 22; (with_reducible refine (kinkeeplaw04_free.calls k3 _ _ t110 x9_3 false _ ?side1 ?side2 A25.out).mono ?_); (case side1 => repeat (first | exact (Kd.R_reads' HO_6.out).2.2 | (with_reducible refine Kd.C_alloc ?_ _) | (with_reducible refine Kd.C_drewN ?_ _) | (with_reducible refine Kd.C_drew ?_))); (case side2 => exact (Kd.R_reads' HO_6.out).2.1); rintro e w' ⟨rfl, ⟨nd, rfl⟩⟩; (try first | exact ⟨rfl, _, World.drewN_drewN _ _ _⟩ | exact ⟨rfl, _, Eq.trans (World.drewN_drewN _ _ _) (congrArg (World.drewN _) (Nat.add_assoc _ _ _))⟩)) | (go_at_call 22; (with_reducible refine (kinkeeplaw04_free.calls k3 _ _ t110 x9_3 true _ ?side1 ?side2 A41.out).mono ?_); (case side1 => repeat (first | exact (Kd.R_reads' HO_6.out).2.2 | (with_reducible refine Kd.C_alloc ?_ _) | (with_reducible refine Kd.C_drewN ?_ _) | (with_reducible refine Kd.C_drew ?_))); (case side2 => exact (Kd.R_reads' HO_6.out).2.1); rintro e w' ⟨rfl, ⟨nd, rfl⟩⟩; (try first | exact ⟨rfl, _, World.drewN_drewN _ _ _⟩ | exact ⟨rfl, _, Eq.trans (World.drewN_drewN _ _ _) (congrArg (World.drewN _) (Nat.add_assoc _ _ _))⟩))); try go_wp2_with (first | (go_at_call 21; (with_reducible refine (kinkeepref04_Cols.calls _ _ l0 t120 _ ?side1 ?side2 A23.out).mono ?_); (case side1 => repeat (first | exact (Kd.C_below HR0.out HB.out) | (with_reducible refine Kd.C_alloc ?_ _) | (with_reducible refine Kd.C_drewN ?_ _) | (with_reducible refine Kd.C_drew ?_))); (case side2 => exact HC0.out); rintro e w' ⟨rfl, ⟨nd, rfl⟩⟩; (try first | exact ⟨rfl, _, World.drewN_drewN _ _ _⟩ | exact ⟨rfl, _, Eq.trans (World.drewN_drewN _ _ _) (congrArg (World.drewN _) (Nat.add_assoc _ _ _))⟩)) | (go_at_call 22; (with_reducible refine (kinkeeplaw04_free.calls k3 _ _ t110 x9_3 false _ ?side1 ?side2 A25.out).mono ?_); (case side1 => repeat (first | exact (Kd.R_reads' HO_6.out).2.2 | (with_reducible refine Kd.C_alloc ?_ _) | (with_reducible refine Kd.C_drewN ?_ _) | (with_reducible refine Kd.C_drew ?_))); (case side2 => exact (Kd.R_reads' HO_6.out).2.1); rintro e w' ⟨rfl, ⟨nd, rfl⟩⟩; (try first | exact ⟨rfl, _, World.drewN_drewN _ _ _⟩ | exact ⟨rfl, _, Eq.trans (World.drewN_drewN _ _ _) (congrArg (World.drewN _) (Nat.add_assoc _ _ _))⟩)) | (go_at_call 22; (with_reducible refine (kinkeeplaw04_free.calls k3 _ _ t110 x9_3 true _ ?side1 ?side2 A41.out).mono ?_); (case side1 => repeat (first | exact (Kd.R_reads' HO_6.out).2.2 | (with_reducible refine Kd.C_alloc ?_ _) | (with_reducible refine Kd.C_drewN ?_ _) | (with_reducible refine Kd.C_drew ?_))); (case side2 => exact (Kd.R_reads' HO_6.out).2.1); rintro e w' ⟨rfl, ⟨nd, rfl⟩⟩; (try first | exact ⟨rfl, _, World.drewN_drewN _ _ _⟩ | exact ⟨rfl, _, Eq.trans (World.drewN_drewN _ _ _) (congrArg (World.drewN _) (Nat.add_assoc _ _ _))⟩))))
                                go_roundg k3
                                case measure => have := HK1.out; have := HJ13.out; have := HK3.out; omega
                                case rel => exact ⟨(wrap64 (x9_3 + 1)), (by first | rfl | (simp; done) | (simp [*]; done)), H', ⟨by have := HK1.out; have := HJ13.out; have := HK3.out; omega⟩, ⟨by (with_reducible repeat (first | apply Kd.S_alloc | apply Kd.S_drewN | apply Kd.S_drew)); exact HO_3.out⟩, ⟨by (with_reducible repeat (first | apply Kd.R_alloc | apply Kd.R_drewN | apply Kd.R_drew)); exact HO_6.out⟩, ⟨by repeat (first | (with_reducible first | exact HB.out | apply below_alloc | apply pw_below_drewN | apply below_drew1) | exact HB.out)⟩⟩
                              · rw [if_neg c43] at H
                                have c43b0 : (x8_1 == x9_3) = false := beq_eq_false_iff_ne.mpr c43
                                have c43b1 : (x8_1 != x9_3) = true := bne_iff_ne.mpr c43
                                by_cases c44 : 0 ≤ x7_1
                                · rw [if_pos c44] at H
                                  have c44b0 : decide (0 ≤ x7_1) = true := decide_eq_true c44
                                  clear c44
                                  by_cases c45 : x7_1 < (t103.length : Int)
                                  · rw [if_pos c45] at H
                                    have c45b0 : decide (x7_1 < (t103.length : Int)) = true := decide_eq_true c45
                                    clear c45
                                    by_cases c46 : 0 ≤ x9_3
                                    · rw [if_pos c46] at H
                                      have c46b0 : decide (0 ≤ x9_3) = true := decide_eq_true c46
                                      clear c46
                                      by_cases c47 : x9_3 < ((rd_L1 t103 x7_1).length : Int)
                                      · rw [if_pos c47] at H
                                        have c47b0 : decide (x9_3 < ((rd_L1 t103 x7_1).length : Int)) = true := decide_eq_true c47
                                        clear c47
                                        by_cases c48 : (rd (rd_L1 t103 x7_1) x9_3) = 0
                                        · rw [if_pos c48] at H
                                          have c48b0 : ((rd (rd_L1 t103 x7_1) x9_3) == 0) = true := beq_iff_eq.mpr c48
                                          have c48b1 : ((rd (rd_L1 t103 x7_1) x9_3) != 0) = false := bne_eq_false_iff_eq.mpr c48
                                          clear c48
                                          have H' := Aside0.mk H
                                          clear H
                                          go_wp2_with (first | (go_at_call 21; (with_reducible refine (kinkeepref04_Cols.calls _ _ l0 t120 _ ?side1 ?side2 A23.out).mono ?_); (case side1 => repeat (first | exact (Kd.C_below HR0.out HB.out) | (with_reducible refine Kd.C_alloc ?_ _) | (with_reducible refine Kd.C_drewN ?_ _) | (with_reducible refine Kd.C_drew ?_))); (case side2 => exact HC0.out); rintro e w' ⟨rfl, ⟨nd, rfl⟩⟩; (try first | exact ⟨rfl, _, World.drewN_drewN _ _ _⟩ | exact ⟨rfl, _, Eq.trans (World.drewN_drewN _ _ _) (congrArg (World.drewN _) (Nat.add_assoc _ _ _))⟩)) | (go_at_call 22; (with_reducible refine (kinkeeplaw04_free.calls k3 _ _ t110 x9_3 false _ ?side1 ?side2 A25.out).mono ?_); (case side1 => repeat (first | exact (Kd.R_reads' HO_6.out).2.2 | (with_reducible refine Kd.C_alloc ?_ _) | (with_reducible refine Kd.C_drewN ?_ _) | (with_reducible refine Kd.C_drew ?_))); (case side2 => exact (Kd.R_reads' HO_6.out).2.1); rintro e w' ⟨rfl, ⟨nd, rfl⟩⟩; (try first | exact ⟨rfl, _, World.drewN_drewN _ _ _⟩ | exact ⟨rfl, _, Eq.trans (World.drewN_drewN _ _ _) (congrArg (World.drewN _) (Nat.add_assoc _ _ _))⟩)) | (go_at_call 22; (with_reducible refine (kinkeeplaw04_free.calls k3 _ _ t110 x9_3 true _ ?side1 ?side2 A41.out).mono ?_); (case side1 => repeat (first | exact (Kd.R_reads' HO_6.out).2.2 | (with_reducible refine Kd.C_alloc ?_ _) | (with_reducible refine Kd.C_drewN ?_ _) | (with_reducible refine Kd.C_drew ?_))); (case side2 => exact (Kd.R_reads' HO_6.out).2.1); rintro e w' ⟨rfl, ⟨nd, rfl⟩⟩; (try first | exact ⟨rfl, _, World.drewN_drewN _ _ _⟩ | exact ⟨rfl, _, Eq.trans (World.drewN_drewN _ _ _) (congrArg (World.drewN _) (Nat.add_assoc _ _ _))⟩); obtain ⟨Ao49, co49, eo49⟩ := Kd.S_slice HO_3.out; subst eo49; have p128 : 0 ≤ (x7_1 : Int) := of_decide_eq_true (by first | (with_reducible assumption) | assumption); have q128 : x7_1 < (t103.length : Int) := of_decide_eq_true (by first | (with_reducible assumption) | assumption); obtain ⟨ad128, A128_0, c128_0, e128, hx128_0, hl128_0, hi128_0⟩ := at_L1 (Kd.S_reads' HO_3.out).2.2 x7_1 p128 q128; cases e128; obtain ⟨ce128, hce128, hMe128, hcc128⟩ := Kd.S_get HO_3.out [] x7_1 p128 (by first | exact q128 | exact of_decide_eq_true (by first | (with_reducible assumption) | assumption) | (have e_ := (Kd.S_reads' HO_3.out).1; omega)); obtain ⟨ve128_0, rfl, ge128_0⟩ := hMe128; have hv128_0 := hcc128 0 _ rfl; rw [Nat.add_zero, show ((Kd.slice 5 (Kd.int .u8))).sz = 1 from rfl, Nat.mul_one] at hv128_0; replace hv128_0 := Option.some.inj (hv128_0.symm.trans hx128_0); rw [hv128_0] at ge128_0; have HL128_0 := Aside0.mk (show Kd.R (Kd.int .u8) 5 _ _ _ _ (rd_L1 t103 x7_1) from ge128_0); clear hv128_0 ge128_0; clear hcc128 hce128; have HR128_0 := Aside0.mk hi128_0; have HC128_0 := Aside0.mk hl128_0; clear hi128_0 hl128_0; replace p128 := eq_true p128; replace q128 := eq_true q128; have p129 : 0 ≤ (x9_3 : Int) := of_decide_eq_true (by first | (with_reducible assumption) | assumption); have q129 : x9_3 < ((rd_L1 t103 x7_1).length : Int) := of_decide_eq_true (by first | (with_reducible assumption) | assumption); obtain ⟨ad129, e129, hx129_0⟩ := Kd.at_int (by repeat (first | (with_reducible exact HR128_0.out) | (with_reducible refine Kd.C_alloc ?_ _) | (with_reducible refine Kd.C_drewN ?_ _) | (with_reducible refine Kd.C_drew ?_) | exact HR128_0.out)) x9_3 p129 q129; cases e129; replace p129 := eq_true p129; replace q129 := eq_true q129))
                                          repeat (go_quiet (first | (go_at_call 21; (with_reducible refine (kinkeepref04_Cols.calls _ _ l0 t120 _ ?side1 ?side2 A23.out).mono ?_); (case side1 => repeat (first | exact (Kd.C_below HR0.out HB.out) | (with_reducible refine Kd.C_alloc ?_ _) | (with_reducible refine Kd.C_drewN ?_ _) | (with_reducible refine Kd.C_drew ?_))); (case side2 => exact HC0.out); rintro e w' ⟨rfl, ⟨nd, rfl⟩⟩; (try first | exact ⟨rfl, _, World.drewN_drewN _ _ _⟩ | exact ⟨rfl, _, Eq.trans (World.drewN_drewN _ _ _) (congrArg (World.drewN _) (Nat.add_assoc _ _ _))⟩)) | (go_at_call 22; (with_reducible refine (kinkeeplaw04_free.calls k3 _ _ t110 x9_3 false _ ?side1 ?side2 A25.out).mono ?_); (case side1 => repeat (first | exact (Kd.R_reads' HO_6.out).2.2 | (with_reducible refine Kd.C_alloc ?_ _) | (with_reducible refine Kd.C_drewN ?_ _) | (with_reducible refine Kd.C_drew ?_))); (case side2 => exact (Kd.R_reads' HO_6.out).2.1); rintro e w' ⟨rfl, ⟨nd, rfl⟩⟩; (try first | exact ⟨rfl, _, World.drewN_drewN _ _ _⟩ | exact ⟨rfl, _, Eq.trans (World.drewN_drewN _ _ _) (congrArg (World.drewN _) (Nat.add_assoc _ _ _))⟩)) | (go_at_call 22; (with_reducible refine (kinkeeplaw04_free.calls k3 _ _ t110 x9_3 true _ ?side1 ?side2 A41.out).mono ?_); (case side1 => repeat (first | exact (Kd.R_reads' HO_6.out).2.2 | (with_reducible refine Kd.C_alloc ?_ _) | (with_reducible refine Kd.C_drewN ?_ _) | (with_reducible refine Kd.C_drew ?_))); (case side2 => exact (Kd.R_reads' HO_6.out).2.1); rintro e w' ⟨rfl, ⟨nd, rfl⟩⟩; (try first | exact ⟨rfl, _, World.drewN_drewN _ _ _⟩ | exact ⟨rfl, _, Eq.trans (World.drewN_drewN _ _ _) (congrArg (World.drewN _) (Nat.add_assoc _ _ _))⟩); obtain ⟨Ao49, co49, eo49⟩ := Kd.S_slice HO_3.out; subst eo49; have p128 : 0 ≤ (x7_1 : Int) := of_decide_eq_true (by first | (with_reducible assumption) | assumption); have q128 : x7_1 < (t103.length : Int) := of_decide_eq_true (by first | (with_reducible assumption) | assumption); obtain ⟨ad128, A128_0, c128_0, e128, hx128_0, hl128_0, hi128_0⟩ := at_L1 (Kd.S_reads' HO_3.out).2.2 x7_1 p128 q128; cases e128; obtain ⟨ce128, hce128, hMe128, hcc128⟩ := Kd.S_get HO_3.out [] x7_1 p128 (by first | exact q128 | exact of_decide_eq_true (by first | (with_reducible assumption) | assumption) | (have e_ := (Kd.S_reads' HO_3.out).1; omega)); obtain ⟨ve128_0, rfl, ge128_0⟩ := hMe128; have hv128_0 := hcc128 0 _ rfl; rw [Nat.add_zero, show ((Kd.slice 5 (Kd.int .u8))).sz = 1 from rfl, Nat.mul_one] at hv128_0; replace hv128_0 := Option.some.inj (hv128_0.symm.trans hx128_0); rw [hv128_0] at ge128_0; have HL128_0 := Aside0.mk (show Kd.R (Kd.int .u8) 5 _ _ _ _ (rd_L1 t103 x7_1) from ge128_0); clear hv128_0 ge128_0; clear hcc128 hce128; have HR128_0 := Aside0.mk hi128_0; have HC128_0 := Aside0.mk hl128_0; clear hi128_0 hl128_0; replace p128 := eq_true p128; replace q128 := eq_true q128; have p129 : 0 ≤ (x9_3 : Int) := of_decide_eq_true (by first | (with_reducible assumption) | assumption); have q129 : x9_3 < ((rd_L1 t103 x7_1).length : Int) := of_decide_eq_true (by first | (with_reducible assumption) | assumption); obtain ⟨ad129, e129, hx129_0⟩ := Kd.at_int (by repeat (first | (with_reducible exact HR128_0.out) | (with_reducible refine Kd.C_alloc ?_ _) | (with_reducible refine Kd.C_drewN ?_ _) | (with_reducible refine Kd.C_drew ?_) | exact HR128_0.out)) x9_3 p129 q129; cases e129; replace p129 := eq_true p129; replace q129 := eq_true q129)); try go_wp2_with (first | (go_at_call 21; (with_reducible refine (kinkeepref04_Cols.calls _ _ l0 t120 _ ?side1 ?side2 A23.out).mono ?_); (case side1 => repeat (first | exact (Kd.C_below HR0.out HB.out) | (with_reducible refine Kd.C_alloc ?_ _) | (with_reducible refine Kd.C_drewN ?_ _) | (with_reducible refine Kd.C_drew ?_))); (case side2 => exact HC0.out); rintro e w' ⟨rfl, ⟨nd, rfl⟩⟩; (try first | exact ⟨rfl, _, World.drewN_drewN _ _ _⟩ | exact ⟨rfl, _, Eq.trans (World.drewN_drewN _ _ _) (congrArg (World.drewN _) (Nat.add_assoc _ _ _))⟩)) | (go_at_call 22; (with_reducible refine (kinkeeplaw04_free.calls k3 _ _ t110 x9_3 false _ ?side1 ?side2 A25.out).mono ?_); (case side1 => repeat (first | exact (Kd.R_reads' HO_6.out).2.2 | (with_reducible refine Kd.C_alloc ?_ _) | (with_reducible refine Kd.C_drewN ?_ _) | (with_reducible refine Kd.C_drew ?_))); (case side2 => exact (Kd.R_reads' HO_6.out).2.1); rintro e w' ⟨rfl, ⟨nd, rfl⟩⟩; (try first | exact ⟨rfl, _, World.drewN_drewN _ _ _⟩ | exact ⟨rfl, _, Eq.trans (World.drewN_drewN _ _ _) (congrArg (World.drewN _) (Nat.add_assoc _ _ _))⟩)) | (go_at_call 22; (with_reducible refine (kinkeeplaw04_free.calls k3 _ _ t110 x9_3 true _ ?side1 ?side2 A41.out).mono ?_); (case side1 => repeat (first | exact (Kd.R_reads' HO_6.out).2.2 | (with_reducible refine Kd.C_alloc ?_ _) | (with_reducible refine Kd.C_drewN ?_ _) | (with_reducible refine Kd.C_drew ?_))); (case side2 => exact (Kd.R_reads' HO_6.out).2.1); rintro e w' ⟨rfl, ⟨nd, rfl⟩⟩; (try first | exact ⟨rfl, _, World.drewN_drewN _ _ _⟩ | exact ⟨rfl, _, Eq.trans (World.drewN_drewN _ _ _) (congrArg (World.drewN _) (Nat.add_assoc _ _ _))⟩); obtain ⟨Ao49, co49, eo49⟩ := Kd.S_slice HO_3.out; subst eo49; have p128 : 0 ≤ (x7_1 : Int) := of_decide_eq_true (by first | (with_reducible assumption) | assumption); have q128 : x7_1 < (t103.length : Int) := of_decide_eq_true (by first | (with_reducible assumption) | assumption); obtain ⟨ad128, A128_0, c128_0, e128, hx128_0, hl128_0, hi128_0⟩ := at_L1 (Kd.S_reads' HO_3.out).2.2 x7_1 p128 q128; cases e128; obtain ⟨ce128, hce128, hMe128, hcc128⟩ := Kd.S_get HO_3.out [] x7_1 p128 (by first | exact q128 | exact of_decide_eq_true (by first | (with_reducible assumption) | assumption) | (have e_ := (Kd.S_reads' HO_3.out).1; omega)); obtain ⟨ve128_0, rfl, ge128_0⟩ := hMe128; have hv128_0 := hcc128 0 _ rfl; rw [Nat.add_zero, show ((Kd.slice 5 (Kd.int .u8))).sz = 1 from rfl, Nat.mul_one] at hv128_0; replace hv128_0 := Option.some.inj (hv128_0.symm.trans hx128_0); rw [hv128_0] at ge128_0; have HL128_0 := Aside0.mk (show Kd.R (Kd.int .u8) 5 _ _ _ _ (rd_L1 t103 x7_1) from ge128_0); clear hv128_0 ge128_0; clear hcc128 hce128; have HR128_0 := Aside0.mk hi128_0; have HC128_0 := Aside0.mk hl128_0; clear hi128_0 hl128_0; replace p128 := eq_true p128; replace q128 := eq_true q128; have p129 : 0 ≤ (x9_3 : Int) := of_decide_eq_true (by first | (with_reducible assumption) | assumption); have q129 : x9_3 < ((rd_L1 t103 x7_1).length : Int) := of_decide_eq_true (by first | (with_reducible assumption) | assumption); obtain ⟨ad129, e129, hx129_0⟩ := Kd.at_int (by repeat (first | (with_reducible exact HR128_0.out) | (with_reducible refine Kd.C_alloc ?_ _) | (with_reducible refine Kd.C_drewN ?_ _) | (with_reducible refine Kd.C_drew ?_) | exact HR128_0.out)) x9_3 p129 q129; cases e129; replace p129 := eq_true p129; replace q129 := eq_true q129)))
                                          go_roundg k3
                                          case measure => have := HK1.out; have := HJ13.out; have := HK3.out; omega
                                          case rel => exact ⟨(wrap64 (x9_3 + 1)), (by first | rfl | (simp; done) | (simp [*]; done)), H', ⟨by have := HK1.out; have := HJ13.out; have := HK3.out; omega⟩, ⟨by (with_reducible repeat (first | apply Kd.S_alloc | apply Kd.S_drewN | apply Kd.S_drew)); exact HO_3.out⟩, ⟨by (with_reducible repeat (first | apply Kd.R_alloc | apply Kd.R_drewN | apply Kd.R_drew)); exact HO_6.out⟩, ⟨by repeat (first | (with_reducible first | exact HB.out | apply below_alloc | apply pw_below_drewN | apply below_drew1) | exact HB.out)⟩⟩
                                        · rw [if_neg c48] at H
                                          have c48b0 : ((rd (rd_L1 t103 x7_1) x9_3) == 0) = false := beq_eq_false_iff_ne.mpr c48
                                          have c48b1 : ((rd (rd_L1 t103 x7_1) x9_3) != 0) = true := bne_iff_ne.mpr c48
                                          obtain rfl := Option.some.inj H
                                          exact absurd HRT.out (by decide)
                                      · rw [if_neg c47] at H
                                        exact absurd H (by simp)
                                    · rw [if_neg c46] at H
                                      exact absurd H (by simp)
                                  · rw [if_neg c45] at H
                                    exact absurd H (by simp)
                                · rw [if_neg c44] at H
                                  exact absurd H (by simp)
                            · replace c42 := Bool.eq_false_iff.mpr c42
                              subst c42
                              have H1 : (kinkeeplaw04_MatrixKernels.l1 k3 l0 t103 t104 t110 x7_1 x8_1 (wrap64 (x9_3 + 1))) = some r := by rw [if_neg (show ¬ (false = true) by decide)] at H; exact H
                              clear H
                              have H := H1
                              clear H1
                              have H' := Aside0.mk H
                              clear H
                              go_wp2_with (first | (go_at_call 21; (with_reducible refine (kinkeepref04_Cols.calls _ _ l0 t120 _ ?side1 ?side2 A23.out).mono ?_); (case side1 => repeat (first | exact (Kd.C_below HR0.out HB.out) | (with_reducible refine Kd.C_alloc ?_ _) | (with_reducible refine Kd.C_drewN ?_ _) | (with_reducible refine Kd.C_drew ?_))); (case side2 => exact HC0.out); rintro e w' ⟨rfl, ⟨nd, rfl⟩⟩; (try first | exact ⟨rfl, _, World.drewN_drewN _ _ _⟩ | exact ⟨rfl, _, Eq.trans (World.drewN_drewN _ _ _) (congrArg (World.drewN _) (Nat.add_assoc _ _ _))⟩)) | (go_at_call 22; (with_reducible refine (kinkeeplaw04_free.calls k3 _ _ t110 x9_3 false _ ?side1 ?side2 A25.out).mono ?_); (case side1 => repeat (first | exact (Kd.R_reads' HO_6.out).2.2 | (with_reducible refine Kd.C_alloc ?_ _) | (with_reducible refine Kd.C_drewN ?_ _) | (with_reducible refine Kd.C_drew ?_))); (case side2 => exact (Kd.R_reads' HO_6.out).2.1); rintro e w' ⟨rfl, ⟨nd, rfl⟩⟩; (try first | exact ⟨rfl, _, World.drewN_drewN _ _ _⟩ | exact ⟨rfl, _, Eq.trans (World.drewN_drewN _ _ _) (congrArg (World.drewN _) (Nat.add_assoc _ _ _))⟩)) | (go_at_call 22; (with_reducible refine (kinkeeplaw04_free.calls k3 _ _ t110 x9_3 false _ ?side1 ?side2 A41.out).mono ?_); (case side1 => repeat (first | exact (Kd.R_reads' HO_6.out).2.2 | (with_reducible refine Kd.C_alloc ?_ _) | (with_reducible refine Kd.C_drewN ?_ _) | (with_reducible refine Kd.C_drew ?_))); (case side2 => exact (Kd.R_reads' HO_6.out).2.1); rintro e w' ⟨rfl, ⟨nd, rfl⟩⟩; (try first | exact ⟨rfl, _, World.drewN_drewN _ _ _⟩ | exact ⟨rfl, _, Eq.trans (World.drewN_drewN _ _ _) (congrArg (World.drewN _) (Nat.add_assoc _ _ _))⟩)))
                              repeat (go_quiet (first | (go_at_call 21; (with_reducible refine (kinkeepref04_Cols.calls _ _ l0 t120 _ ?side1 ?side2 A23.out).mono ?_); (case side1 => repeat (first | exact (Kd.C_below HR0.out HB.out) | (with_reducible refine Kd.C_alloc ?_ _) | (with_reducible refine Kd.C_drewN ?_ _) | (with_reducible refine Kd.C_drew ?_))); (case side2 => exact HC0.out); rintro e w' ⟨rfl, ⟨nd, rfl⟩⟩; (try first | exact ⟨rfl, _, World.drewN_drewN _ _ _⟩ | exact ⟨rfl, _, Eq.trans (World.drewN_drewN _ _ _) (congrArg (World.drewN _) (Nat.add_assoc _ _ _))⟩)) | (go_at_call 22; (with_reducible refine (kinkeeplaw04_free.calls k3 _ _ t110 x9_3 false _ ?side1 ?side2 A25.out).mono ?_); (case side1 => repeat (first | exact (Kd.R_reads' HO_6.out).2.2 | (with_reducible refine Kd.C_alloc ?_ _) | (with_reducible refine Kd.C_drewN ?_ _) | (with_reducible refine Kd.C_drew ?_))); (case side2 => exact (Kd.R_reads' HO_6.out).2.1); rintro e w' ⟨rfl, ⟨nd, rfl⟩⟩; (try first | exact ⟨rfl, _, World.drewN_drewN _ _ _⟩ | exact ⟨rfl, _, Eq.trans (World.drewN_drewN _ _ _) (congrArg (World.drewN _) (Nat.add_assoc _ _ _))⟩)) | (go_at_call 22; (with_reducible refine (kinkeeplaw04_free.calls k3 _ _ t110 x9_3 false _ ?side1 ?side2 A41.out).mono ?_); (case side1 => repeat (first | exact (Kd.R_reads' HO_6.out).2.2 | (with_reducible refine Kd.C_alloc ?_ _) | (with_reducible refine Kd.C_drewN ?_ _) | (with_reducible refine Kd.C_drew ?_))); (case side2 => exact (Kd.R_reads' HO_6.out).2.1); rintro e w' ⟨rfl, ⟨nd, rfl⟩⟩; (try first | exact ⟨rfl, _, World.drewN_drewN _ _ _⟩ | exact ⟨rfl, _, Eq.trans (World.drewN_drewN _ _ _) (congrArg (World.drewN _) (Nat.add_assoc _ _ _))⟩))); try go_wp2_with (first | (go_at_call 21; (with_reducible refine (kinkeepref04_Cols.calls _ _ l0 t120 _ ?side1 ?side2 A23.out).mono ?_); (case side1 => repeat (first | exact (Kd.C_below HR0.out HB.out) | (with_reducible refine Kd.C_alloc ?_ _) | (with_reducible refine Kd.C_drewN ?_ _) | (with_reducible refine Kd.C_drew ?_))); (case side2 => exact HC0.out); rintro e w' ⟨rfl, ⟨nd, rfl⟩⟩; (try first | exact ⟨rfl, _, World.drewN_drewN _ _ _⟩ | exact ⟨rfl, _, Eq.trans (World.drewN_drewN _ _ _) (congrArg (World.drewN _) (Nat.add_assoc _ _ _))⟩)) | (go_at_call 22; (with_reducible refine (kinkeeplaw04_free.calls k3 _ _ t110 x9_3 false _ ?side1 ?side2 A25.out).mono ?_); (case side1 => repeat (first | exact (Kd.R_reads' HO_6.out).2.2 | (with_reducible refine Kd.C_alloc ?_ _) | (with_reducible refine Kd.C_drewN ?_ _) | (with_reducible refine Kd.C_drew ?_))); (case side2 => exact (Kd.R_reads' HO_6.out).2.1); rintro e w' ⟨rfl, ⟨nd, rfl⟩⟩; (try first | exact ⟨rfl, _, World.drewN_drewN _ _ _⟩ | exact ⟨rfl, _, Eq.trans (World.drewN_drewN _ _ _) (congrArg (World.drewN _) (Nat.add_assoc _ _ _))⟩)) | (go_at_call 22; (with_reducible refine (kinkeeplaw04_free.calls k3 _ _ t110 x9_3 false _ ?side1 ?side2 A41.out).mono ?_); (case side1 => repeat (first | exact (Kd.R_reads' HO_6.out).2.2 | (with_reducible refine Kd.C_alloc ?_ _) | (with_reducible refine Kd.C_drewN ?_ _) | (with_reducible refine Kd.C_drew ?_))); (case side2 => exact (Kd.R_reads' HO_6.out).2.1); rintro e w' ⟨rfl, ⟨nd, rfl⟩⟩; (try first | exact ⟨rfl, _, World.drewN_drewN _ _ _⟩ | exact ⟨rfl, _, Eq.trans (World.drewN_drewN _ _ _) (congrArg (World.drewN _) (Nat.add_assoc _ _ _))⟩))))
                              go_roundg k3
                              case measure => have := HK1.out; have := HJ13.out; have := HK3.out; omega
                              case rel => exact ⟨(wrap64 (x9_3 + 1)), (by first | rfl | (simp; done) | (simp [*]; done)), H', ⟨by have := HK1.out; have := HJ13.out; have := HK3.out; omega⟩, ⟨by (with_reducible repeat (first | apply Kd.S_alloc | apply Kd.S_drewN | apply Kd.S_drew)); exact HO_3.out⟩, ⟨by (with_reducible repeat (first | apply Kd.R_alloc | apply Kd.R_drewN | apply Kd.R_drew)); exact HO_6.out⟩, ⟨by repeat (first | (with_reducible first | exact HB.out | apply below_alloc | apply pw_below_drewN | apply below_drew1) | exact HB.out)⟩⟩
                        · rw [if_neg c24] at H
                          have c24b0 : decide (x9_3 < t120) = false := decide_eq_false c24
                          clear c24
                          by_cases c51 : 0 ≤ x7_1
                          · rw [if_pos c51] at H
                            have c51b0 : decide (0 ≤ x7_1) = true := decide_eq_true c51
                            clear c51
                            by_cases c52 : x7_1 < (t103.length : Int)
                            · rw [if_pos c52] at H
                              have c52b0 : decide (x7_1 < (t103.length : Int)) = true := decide_eq_true c52
                              clear c52
                              replace H := Option.bind_eq_some_iff.mp H
                              obtain ⟨t131, A530, H⟩ := H
                              replace H : ((kinkeepref04_Product.f k3 l0 t131).bind fun t134 => ((kinkeepref04_Zero.f k3 (l0.length : Int) 1).bind fun t137 => ((kinkeepref04_Same.f k3 t134 t137).bind fun t140 => (if t140 = true then (kinkeeplaw04_MatrixKernels.l0 k3 l0 t103 t104 t110 (wrap64 (x7_1 + 1)) (wrap64 (x8_1 + 1))) else (some false))))) = some r := H
                              have A53 := Aside0.mk A530
                              clear A530
                              replace H := Option.bind_eq_some_iff.mp H
                              obtain ⟨t134, A540, H⟩ := H
                              replace H : ((kinkeepref04_Zero.f k3 (l0.length : Int) 1).bind fun t137 => ((kinkeepref04_Same.f k3 t134 t137).bind fun t140 => (if t140 = true then (kinkeeplaw04_MatrixKernels.l0 k3 l0 t103 t104 t110 (wrap64 (x7_1 + 1)) (wrap64 (x8_1 + 1))) else (some false)))) = some r := H
                              have A54 := Aside0.mk A540
                              clear A540
                              replace H := Option.bind_eq_some_iff.mp H
                              obtain ⟨t137, A550, H⟩ := H
                              replace H : ((kinkeepref04_Same.f k3 t134 t137).bind fun t140 => (if t140 = true then (kinkeeplaw04_MatrixKernels.l0 k3 l0 t103 t104 t110 (wrap64 (x7_1 + 1)) (wrap64 (x8_1 + 1))) else (some false))) = some r := H
                              have A55 := Aside0.mk A550
                              clear A550
                              replace H := Option.bind_eq_some_iff.mp H
                              obtain ⟨t140, A560, H⟩ := H
                              replace H : (if t140 = true then (kinkeeplaw04_MatrixKernels.l0 k3 l0 t103 t104 t110 (wrap64 (x7_1 + 1)) (wrap64 (x8_1 + 1))) else (some false)) = some r := H
                              have A56 := Aside0.mk A560
                              clear A560
                              by_cases c57 : t140 = true
                              · subst c57
                                have H1 : (kinkeeplaw04_MatrixKernels.l0 k3 l0 t103 t104 t110 (wrap64 (x7_1 + 1)) (wrap64 (x8_1 + 1))) = some r := by rw [if_pos rfl] at H; exact H
                                clear H
                                have H := H1
                                clear H1
                                have H' := Aside0.mk H
                                clear H
                                go_wp2_with (first | (go_at_call 21; (with_reducible refine (kinkeepref04_Cols.calls _ _ l0 t120 _ ?side1 ?side2 A23.out).mono ?_); (case side1 => repeat (first | exact (Kd.C_below HR0.out HB.out) | (with_reducible refine Kd.C_alloc ?_ _) | (with_reducible refine Kd.C_drewN ?_ _) | (with_reducible refine Kd.C_drew ?_))); (case side2 => exact HC0.out); rintro e w' ⟨rfl, ⟨nd, rfl⟩⟩; (try first | exact ⟨rfl, _, World.drewN_drewN _ _ _⟩ | exact ⟨rfl, _, Eq.trans (World.drewN_drewN _ _ _) (congrArg (World.drewN _) (Nat.add_assoc _ _ _))⟩); obtain ⟨Ao58, co58, eo58⟩ := Kd.S_slice HO_3.out; subst eo58; have p130 : 0 ≤ (x7_1 : Int) := of_decide_eq_true (by first | (with_reducible assumption) | assumption); have q130 : x7_1 < (t103.length : Int) := of_decide_eq_true (by first | (with_reducible assumption) | assumption); obtain ⟨ad130, A130_0, c130_0, e130, hx130_0, hl130_0, hi130_0⟩ := at_L1 (Kd.S_reads' HO_3.out).2.2 x7_1 p130 q130; cases e130; obtain ⟨ce130, hce130, hMe130, hcc130⟩ := Kd.S_get HO_3.out [] x7_1 p130 (by first | exact q130 | exact of_decide_eq_true (by first | (with_reducible assumption) | assumption) | (have e_ := (Kd.S_reads' HO_3.out).1; omega)); obtain ⟨ve130_0, rfl, ge130_0⟩ := hMe130; have hv130_0 := hcc130 0 _ rfl; rw [Nat.add_zero, show ((Kd.slice 5 (Kd.int .u8))).sz = 1 from rfl, Nat.mul_one] at hv130_0; replace hv130_0 := Option.some.inj (hv130_0.symm.trans hx130_0); rw [hv130_0] at ge130_0; have HL130_0 := Aside0.mk (show Kd.R (Kd.int .u8) 5 _ _ _ _ (rd_L1 t103 x7_1) from ge130_0); clear hv130_0 ge130_0; clear hcc130 hce130; have HR130_0 := Aside0.mk hi130_0; have HC130_0 := Aside0.mk hl130_0; clear hi130_0 hl130_0; replace p130 := eq_true p130; replace q130 := eq_true q130) | (go_at_call 25; (with_reducible refine (kinkeeplaw04_column.calls k3 _ _ (rd_L1 t103 x7_1) t131 _ ?side1 ?side2 A53.out).mono ?_); (case side1 => repeat (first | exact (by repeat (first | (with_reducible exact HR130_0.out) | (with_reducible refine Kd.C_alloc ?_ _) | (with_reducible refine Kd.C_drewN ?_ _) | (with_reducible refine Kd.C_drew ?_) | exact HR130_0.out)) | (with_reducible refine Kd.C_alloc ?_ _) | (with_reducible refine Kd.C_drewN ?_ _) | (with_reducible refine Kd.C_drew ?_))); (case side2 => exact HC130_0.out); rintro e w59 ⟨v132, rfl, ho0, hb⟩; have n0_ := Aside0.mk (Kd.S_elder' (by (with_reducible repeat (first | apply Kd.S_alloc | apply Kd.S_drewN | apply Kd.S_drew)); exact HO_3.out) (Kd.S_base ho0) hb); have n1_ := Aside0.mk (Kd.R_below (by (with_reducible repeat (first | apply Kd.R_alloc | apply Kd.R_drewN | apply Kd.R_drew)); exact HO_6.out) hb); have n2_ := Aside0.mk (Kd.R_below (by (with_reducible repeat (first | apply Kd.R_alloc | apply Kd.R_drewN | apply Kd.R_drew)); exact HL130_0.out) hb); have n3_ := Aside0.mk (Kd.S_lower (Kd.S_new' (Kd.S_new' ho0 (Kd.S_lt (by (with_reducible repeat (first | apply Kd.S_alloc | apply Kd.S_drewN | apply Kd.S_drew)); exact HO_3.out))) (Kd.R_lt (by (with_reducible repeat (first | apply Kd.R_alloc | apply Kd.R_drewN | apply Kd.R_drew)); exact HL130_0.out))) (below_size (by repeat (first | (with_reducible first | exact HB.out | apply below_alloc | apply pw_below_drewN | apply below_drew1) | exact HB.out)))); have n4_ := Aside0.mk (Kd.C_below (by repeat (first | (with_reducible exact HR130_0.out) | (with_reducible refine Kd.C_alloc ?_ _) | (with_reducible refine Kd.C_drewN ?_ _) | (with_reducible refine Kd.C_drew ?_) | exact HR130_0.out)) hb); have n5_ := Aside0.mk (below_step (by repeat (first | (with_reducible first | exact HB.out | apply below_alloc | apply pw_below_drewN | apply below_drew1) | exact HB.out)) hb); clear HO_3; clear HO_6; clear HL130_0; clear HR130_0; clear HB; have HO_3 := n0_; have HO_6 := n1_; have HL130_0 := n2_; have HO133 := n3_; have HR130_0 := n4_; have HB := n5_; clear n0_ n1_ n2_ n3_ n4_ n5_; (try clear hb); (try clear hb2); (try clear hk); (try clear hi); (try clear ho0); obtain ⟨Ao60, co60, eo60⟩ := Kd.S_slice HO133.out; subst eo60) | (go_at_call 24; (with_reducible refine (kinkeepref04_Product.calls k3 _ _ l0 _ _ t131 t134 _ ?side1 ?side2 ?side3 ?side4 A54.out).mono ?_); (case side1 => repeat (first | exact (Kd.C_below HR0.out HB.out) | (with_reducible refine Kd.C_alloc ?_ _) | (with_reducible refine Kd.C_drewN ?_ _) | (with_reducible refine Kd.C_drew ?_))); (case side2 => exact HC0.out); (case side3 => repeat (first | exact (Kd.S_reads' HO133.out).2.2 | (with_reducible refine Kd.C_alloc ?_ _) | (with_reducible refine Kd.C_drewN ?_ _) | (with_reducible refine Kd.C_drew ?_))); (case side4 => exact (Kd.S_reads' HO133.out).2.1); rintro e w61 ⟨v135, rfl, ho0, hb⟩; have n0_ := Aside0.mk (Kd.S_elder' (by (with_reducible repeat (first | apply Kd.S_alloc | apply Kd.S_drewN | apply Kd.S_drew)); exact HO_3.out) (Kd.S_base ho0) hb); have n1_ := Aside0.mk (Kd.R_below (by (with_reducible repeat (first | apply Kd.R_alloc | apply Kd.R_drewN | apply Kd.R_drew)); exact HO_6.out) hb); have n2_ := Aside0.mk (Kd.R_below (by (with_reducible repeat (first | apply Kd.R_alloc | apply Kd.R_drewN | apply Kd.R_drew)); exact HL130_0.out) hb); have n3_ := Aside0.mk (Kd.S_elder' (by (with_reducible repeat (first | apply Kd.S_alloc | apply Kd.S_drewN | apply Kd.S_drew)); exact HO133.out) (Kd.S_base ho0) hb); have n4_ := Aside0.mk (Kd.S_lower (Kd.S_new' (Kd.S_new' (Kd.S_new' ho0 (Kd.S_lt (by (with_reducible repeat (first | apply Kd.S_alloc | apply Kd.S_drewN | apply Kd.S_drew)); exact HO_3.out))) (Kd.R_lt (by (with_reducible repeat (first | apply Kd.R_alloc | apply Kd.R_drewN | apply Kd.R_drew)); exact HL130_0.out))) (Kd.S_lt (by (with_reducible repeat (first | apply Kd.S_alloc | apply Kd.S_drewN | apply Kd.S_drew)); exact HO133.out))) (below_size (by repeat (first | (with_reducible first | exact HB.out | apply below_alloc | apply pw_below_drewN | apply below_drew1) | exact HB.out)))); have n5_ := Aside0.mk (Kd.C_below (by repeat (first | (with_reducible exact HR130_0.out) | (with_reducible refine Kd.C_alloc ?_ _) | (with_reducible refine Kd.C_drewN ?_ _) | (with_reducible refine Kd.C_drew ?_) | exact HR130_0.out)) hb); have n6_ := Aside0.mk (below_step (by repeat (first | (with_reducible first | exact HB.out | apply below_alloc | apply pw_below_drewN | apply below_drew1) | exact HB.out)) hb); clear HO_3; clear HO_6; clear HL130_0; clear HO133; clear HR130_0; clear HB; have HO_3 := n0_; have HO_6 := n1_; have HL130_0 := n2_; have HO133 := n3_; have HO136 := n4_; have HR130_0 := n5_; have HB := n6_; clear n0_ n1_ n2_ n3_ n4_ n5_ n6_; (try clear hb); (try clear hb2); (try clear hk); (try clear hi); (try clear ho0)) | (go_at_call 26; (with_reducible refine (kinkeepref04_Zero.calls k3 (l0.length : Int) 1 t137 _ A55.out).mono ?_); rintro e w62 ⟨v138, rfl, ho0, hb⟩; have n0_ := Aside0.mk (Kd.S_elder' (by (with_reducible repeat (first | apply Kd.S_alloc | apply Kd.S_drewN | apply Kd.S_drew)); exact HO_3.out) (Kd.S_base ho0) hb); have n1_ := Aside0.mk (Kd.R_below (by (with_reducible repeat (first | apply Kd.R_alloc | apply Kd.R_drewN | apply Kd.R_drew)); exact HO_6.out) hb); have n2_ := Aside0.mk (Kd.R_below (by (with_reducible repeat (first | apply Kd.R_alloc | apply Kd.R_drewN | apply Kd.R_drew)); exact HL130_0.out) hb); have n3_ := Aside0.mk (Kd.S_elder' (by (with_reducible repeat (first | apply Kd.S_alloc | apply Kd.S_drewN | apply Kd.S_drew)); exact HO133.out) (Kd.S_base ho0) hb); have n4_ := Aside0.mk (Kd.S_elder' (by (with_reducible repeat (first | apply Kd.S_alloc | apply Kd.S_drewN | apply Kd.S_drew)); exact HO136.out) (Kd.S_base ho0) hb); have n5_ := Aside0.mk (Kd.S_lower (Kd.S_new' (Kd.S_new' (Kd.S_new' (Kd.S_new' ho0 (Kd.S_lt (by (with_reducible repeat (first | apply Kd.S_alloc | apply Kd.S_drewN | apply Kd.S_drew)); exact HO_3.out))) (Kd.R_lt (by (with_reducible repeat (first | apply Kd.R_alloc | apply Kd.R_drewN | apply Kd.R_drew)); exact HL130_0.out))) (Kd.S_lt (by (with_reducible repeat (first | apply Kd.S_alloc | apply Kd.S_drewN | apply Kd.S_drew)); exact HO133.out))) (Kd.S_lt (by (with_reducible repeat (first | apply Kd.S_alloc | apply Kd.S_drewN | apply Kd.S_drew)); exact HO136.out))) (below_size (by repeat (first | (with_reducible first | exact HB.out | apply below_alloc | apply pw_below_drewN | apply below_drew1) | exact HB.out)))); have n6_ := Aside0.mk (Kd.C_below (by repeat (first | (with_reducible exact HR130_0.out) | (with_reducible refine Kd.C_alloc ?_ _) | (with_reducible refine Kd.C_drewN ?_ _) | (with_reducible refine Kd.C_drew ?_) | exact HR130_0.out)) hb); have n7_ := Aside0.mk (below_step (by repeat (first | (with_reducible first | exact HB.out | apply below_alloc | apply pw_below_drewN | apply below_drew1) | exact HB.out)) hb); clear HO_3; clear HO_6; clear HL130_0; clear HO133; clear HO136; clear HR130_0; clear HB; have HO_3 := n0_; have HO_6 := n1_; have HL130_0 := n2_; have HO133 := n3_; have HO136 := n4_; have HO139 := n5_; have HR130_0 := n6_; have HB := n7_; clear n0_ n1_ n2_ n3_ n4_ n5_ n6_ n7_; (try clear hb); (try clear hb2); (try clear hk); (try clear hi); (try clear ho0); obtain ⟨Ao63, co63, eo63⟩ := Kd.S_slice HO136.out; subst eo63; obtain ⟨Ao64, co64, eo64⟩ := Kd.S_slice HO139.out; subst eo64) | (go_at_call 23; (with_reducible refine (kinkeepref04_Same.calls k3 _ _ t134 _ _ t137 true _ ?side1 ?side2 ?side3 ?side4 A56.out).mono ?_); (case side1 => repeat (first | exact (Kd.S_reads' HO136.out).2.2 | (with_reducible refine Kd.C_alloc ?_ _) | (with_reducible refine Kd.C_drewN ?_ _) | (with_reducible refine Kd.C_drew ?_))); (case side2 => exact (Kd.S_reads' HO136.out).2.1); (case side3 => repeat (first | exact (Kd.S_reads' HO139.out).2.2 | (with_reducible refine Kd.C_alloc ?_ _) | (with_reducible refine Kd.C_drewN ?_ _) | (with_reducible refine Kd.C_drew ?_))); (case side4 => exact (Kd.S_reads' HO139.out).2.1); rintro e w' ⟨rfl, ⟨nd, rfl⟩⟩; (try first | exact ⟨rfl, _, World.drewN_drewN _ _ _⟩ | exact ⟨rfl, _, Eq.trans (World.drewN_drewN _ _ _) (congrArg (World.drewN _) (Nat.add_assoc _ _ _))⟩)))
                                repeat (go_quiet (first | (go_at_call 21; (with_reducible refine (kinkeepref04_Cols.calls _ _ l0 t120 _ ?side1 ?side2 A23.out).mono ?_); (case side1 => repeat (first | exact (Kd.C_below HR0.out HB.out) | (with_reducible refine Kd.C_alloc ?_ _) | (with_reducible refine Kd.C_drewN ?_ _) | (with_reducible refine Kd.C_drew ?_))); (case side2 => exact HC0.out); rintro e w' ⟨rfl, ⟨nd, rfl⟩⟩; (try first | exact ⟨rfl, _, World.drewN_drewN _ _ _⟩ | exact ⟨rfl, _, Eq.trans (World.drewN_drewN _ _ _) (congrArg (World.drewN _) (Nat.add_assoc _ _ _))⟩); obtain ⟨Ao58, co58, eo58⟩ := Kd.S_slice HO_3.out; subst eo58; have p130 : 0 ≤ (x7_1 : Int) := of_decide_eq_true (by first | (with_reducible assumption) | assumption); have q130 : x7_1 < (t103.length : Int) := of_decide_eq_true (by first | (with_reducible assumption) | assumption); obtain ⟨ad130, A130_0, c130_0, e130, hx130_0, hl130_0, hi130_0⟩ := at_L1 (Kd.S_reads' HO_3.out).2.2 x7_1 p130 q130; cases e130; obtain ⟨ce130, hce130, hMe130, hcc130⟩ := Kd.S_get HO_3.out [] x7_1 p130 (by first | exact q130 | exact of_decide_eq_true (by first | (with_reducible assumption) | assumption) | (have e_ := (Kd.S_reads' HO_3.out).1; omega)); obtain ⟨ve130_0, rfl, ge130_0⟩ := hMe130; have hv130_0 := hcc130 0 _ rfl; rw [Nat.add_zero, show ((Kd.slice 5 (Kd.int .u8))).sz = 1 from rfl, Nat.mul_one] at hv130_0; replace hv130_0 := Option.some.inj (hv130_0.symm.trans hx130_0); rw [hv130_0] at ge130_0; have HL130_0 := Aside0.mk (show Kd.R (Kd.int .u8) 5 _ _ _ _ (rd_L1 t103 x7_1) from ge130_0); clear hv130_0 ge130_0; clear hcc130 hce130; have HR130_0 := Aside0.mk hi130_0; have HC130_0 := Aside0.mk hl130_0; clear hi130_0 hl130_0; replace p130 := eq_true p130; replace q130 := eq_true q130) | (go_at_call 25; (with_reducible refine (kinkeeplaw04_column.calls k3 _ _ (rd_L1 t103 x7_1) t131 _ ?side1 ?side2 A53.out).mono ?_); (case side1 => repeat (first | exact (by repeat (first | (with_reducible exact HR130_0.out) | (with_reducible refine Kd.C_alloc ?_ _) | (with_reducible refine Kd.C_drewN ?_ _) | (with_reducible refine Kd.C_drew ?_) | exact HR130_0.out)) | (with_reducible refine Kd.C_alloc ?_ _) | (with_reducible refine Kd.C_drewN ?_ _) | (with_reducible refine Kd.C_drew ?_))); (case side2 => exact HC130_0.out); rintro e w59 ⟨v132, rfl, ho0, hb⟩; have n0_ := Aside0.mk (Kd.S_elder' (by (with_reducible repeat (first | apply Kd.S_alloc | apply Kd.S_drewN | apply Kd.S_drew)); exact HO_3.out) (Kd.S_base ho0) hb); have n1_ := Aside0.mk (Kd.R_below (by (with_reducible repeat (first | apply Kd.R_alloc | apply Kd.R_drewN | apply Kd.R_drew)); exact HO_6.out) hb); have n2_ := Aside0.mk (Kd.R_below (by (with_reducible repeat (first | apply Kd.R_alloc | apply Kd.R_drewN | apply Kd.R_drew)); exact HL130_0.out) hb); have n3_ := Aside0.mk (Kd.S_lower (Kd.S_new' (Kd.S_new' ho0 (Kd.S_lt (by (with_reducible repeat (first | apply Kd.S_alloc | apply Kd.S_drewN | apply Kd.S_drew)); exact HO_3.out))) (Kd.R_lt (by (with_reducible repeat (first | apply Kd.R_alloc | apply Kd.R_drewN | apply Kd.R_drew)); exact HL130_0.out))) (below_size (by repeat (first | (with_reducible first | exact HB.out | apply below_alloc | apply pw_below_drewN | apply below_drew1) | exact HB.out)))); have n4_ := Aside0.mk (Kd.C_below (by repeat (first | (with_reducible exact HR130_0.out) | (with_reducible refine Kd.C_alloc ?_ _) | (with_reducible refine Kd.C_drewN ?_ _) | (with_reducible refine Kd.C_drew ?_) | exact HR130_0.out)) hb); have n5_ := Aside0.mk (below_step (by repeat (first | (with_reducible first | exact HB.out | apply below_alloc | apply pw_below_drewN | apply below_drew1) | exact HB.out)) hb); clear HO_3; clear HO_6; clear HL130_0; clear HR130_0; clear HB; have HO_3 := n0_; have HO_6 := n1_; have HL130_0 := n2_; have HO133 := n3_; have HR130_0 := n4_; have HB := n5_; clear n0_ n1_ n2_ n3_ n4_ n5_; (try clear hb); (try clear hb2); (try clear hk); (try clear hi); (try clear ho0); obtain ⟨Ao60, co60, eo60⟩ := Kd.S_slice HO133.out; subst eo60) | (go_at_call 24; (with_reducible refine (kinkeepref04_Product.calls k3 _ _ l0 _ _ t131 t134 _ ?side1 ?side2 ?side3 ?side4 A54.out).mono ?_); (case side1 => repeat (first | exact (Kd.C_below HR0.out HB.out) | (with_reducible refine Kd.C_alloc ?_ _) | (with_reducible refine Kd.C_drewN ?_ _) | (with_reducible refine Kd.C_drew ?_))); (case side2 => exact HC0.out); (case side3 => repeat (first | exact (Kd.S_reads' HO133.out).2.2 | (with_reducible refine Kd.C_alloc ?_ _) | (with_reducible refine Kd.C_drewN ?_ _) | (with_reducible refine Kd.C_drew ?_))); (case side4 => exact (Kd.S_reads' HO133.out).2.1); rintro e w61 ⟨v135, rfl, ho0, hb⟩; have n0_ := Aside0.mk (Kd.S_elder' (by (with_reducible repeat (first | apply Kd.S_alloc | apply Kd.S_drewN | apply Kd.S_drew)); exact HO_3.out) (Kd.S_base ho0) hb); have n1_ := Aside0.mk (Kd.R_below (by (with_reducible repeat (first | apply Kd.R_alloc | apply Kd.R_drewN | apply Kd.R_drew)); exact HO_6.out) hb); have n2_ := Aside0.mk (Kd.R_below (by (with_reducible repeat (first | apply Kd.R_alloc | apply Kd.R_drewN | apply Kd.R_drew)); exact HL130_0.out) hb); have n3_ := Aside0.mk (Kd.S_elder' (by (with_reducible repeat (first | apply Kd.S_alloc | apply Kd.S_drewN | apply Kd.S_drew)); exact HO133.out) (Kd.S_base ho0) hb); have n4_ := Aside0.mk (Kd.S_lower (Kd.S_new' (Kd.S_new' (Kd.S_new' ho0 (Kd.S_lt (by (with_reducible repeat (first | apply Kd.S_alloc | apply Kd.S_drewN | apply Kd.S_drew)); exact HO_3.out))) (Kd.R_lt (by (with_reducible repeat (first | apply Kd.R_alloc | apply Kd.R_drewN | apply Kd.R_drew)); exact HL130_0.out))) (Kd.S_lt (by (with_reducible repeat (first | apply Kd.S_alloc | apply Kd.S_drewN | apply Kd.S_drew)); exact HO133.out))) (below_size (by repeat (first | (with_reducible first | exact HB.out | apply below_alloc | apply pw_below_drewN | apply below_drew1) | exact HB.out)))); have n5_ := Aside0.mk (Kd.C_below (by repeat (first | (with_reducible exact HR130_0.out) | (with_reducible refine Kd.C_alloc ?_ _) | (with_reducible refine Kd.C_drewN ?_ _) | (with_reducible refine Kd.C_drew ?_) | exact HR130_0.out)) hb); have n6_ := Aside0.mk (below_step (by repeat (first | (with_reducible first | exact HB.out | apply below_alloc | apply pw_below_drewN | apply below_drew1) | exact HB.out)) hb); clear HO_3; clear HO_6; clear HL130_0; clear HO133; clear HR130_0; clear HB; have HO_3 := n0_; have HO_6 := n1_; have HL130_0 := n2_; have HO133 := n3_; have HO136 := n4_; have HR130_0 := n5_; have HB := n6_; clear n0_ n1_ n2_ n3_ n4_ n5_ n6_; (try clear hb); (try clear hb2); (try clear hk); (try clear hi); (try clear ho0)) | (go_at_call 26; (with_reducible refine (kinkeepref04_Zero.calls k3 (l0.length : Int) 1 t137 _ A55.out).mono ?_); rintro e w62 ⟨v138, rfl, ho0, hb⟩; have n0_ := Aside0.mk (Kd.S_elder' (by (with_reducible repeat (first | apply Kd.S_alloc | apply Kd.S_drewN | apply Kd.S_drew)); exact HO_3.out) (Kd.S_base ho0) hb); have n1_ := Aside0.mk (Kd.R_below (by (with_reducible repeat (first | apply Kd.R_alloc | apply Kd.R_drewN | apply Kd.R_drew)); exact HO_6.out) hb); have n2_ := Aside0.mk (Kd.R_below (by (with_reducible repeat (first | apply Kd.R_alloc | apply Kd.R_drewN | apply Kd.R_drew)); exact HL130_0.out) hb); have n3_ := Aside0.mk (Kd.S_elder' (by (with_reducible repeat (first | apply Kd.S_alloc | apply Kd.S_drewN | apply Kd.S_drew)); exact HO133.out) (Kd.S_base ho0) hb); have n4_ := Aside0.mk (Kd.S_elder' (by (with_reducible repeat (first | apply Kd.S_alloc | apply Kd.S_drewN | apply Kd.S_drew)); exact HO136.out) (Kd.S_base ho0) hb); have n5_ := Aside0.mk (Kd.S_lower (Kd.S_new' (Kd.S_new' (Kd.S_new' (Kd.S_new' ho0 (Kd.S_lt (by (with_reducible repeat (first | apply Kd.S_alloc | apply Kd.S_drewN | apply Kd.S_drew)); exact HO_3.out))) (Kd.R_lt (by (with_reducible repeat (first | apply Kd.R_alloc | apply Kd.R_drewN | apply Kd.R_drew)); exact HL130_0.out))) (Kd.S_lt (by (with_reducible repeat (first | apply Kd.S_alloc | apply Kd.S_drewN | apply Kd.S_drew)); exact HO133.out))) (Kd.S_lt (by (with_reducible repeat (first | apply Kd.S_alloc | apply Kd.S_drewN | apply Kd.S_drew)); exact HO136.out))) (below_size (by repeat (first | (with_reducible first | exact HB.out | apply below_alloc | apply pw_below_drewN | apply below_drew1) | exact HB.out)))); have n6_ := Aside0.mk (Kd.C_below (by repeat (first | (with_reducible exact HR130_0.out) | (with_reducible refine Kd.C_alloc ?_ _) | (with_reducible refine Kd.C_drewN ?_ _) | (with_reducible refine Kd.C_drew ?_) | exact HR130_0.out)) hb); have n7_ := Aside0.mk (below_step (by repeat (first | (with_reducible first | exact HB.out | apply below_alloc | apply pw_below_drewN | apply below_drew1) | exact HB.out)) hb); clear HO_3; clear HO_6; clear HL130_0; clear HO133; clear HO136; clear HR130_0; clear HB; have HO_3 := n0_; have HO_6 := n1_; have HL130_0 := n2_; have HO133 := n3_; have HO136 := n4_; have HO139 := n5_; have HR130_0 := n6_; have HB := n7_; clear n0_ n1_ n2_ n3_ n4_ n5_ n6_ n7_; (try clear hb); (try clear hb2); (try clear hk); (try clear hi); (try clear ho0); obtain ⟨Ao63, co63, eo63⟩ := Kd.S_slice HO136.out; subst eo63; obtain ⟨Ao64, co64, eo64⟩ := Kd.S_slice HO139.out; subst eo64) | (go_at_call 23; (with_reducible refine (kinkeepref04_Same.calls k3 _ _ t134 _ _ t137 true _ ?side1 ?side2 ?side3 ?side4 A56.out).mono ?_); (case side1 => repeat (first | exact (Kd.S_reads' HO136.out).2.2 | (with_reducible refine Kd.C_alloc ?_ _) | (with_reducible refine Kd.C_drewN ?_ _) | (with_reducible refine Kd.C_drew ?_))); (case side2 => exact (Kd.S_reads' HO136.out).2.1); (case side3 => repeat (first | exact (Kd.S_reads' HO139.out).2.2 | (with_reducible refine Kd.C_alloc ?_ _) | (with_reducible refine Kd.C_drewN ?_ _) | (with_reducible refine Kd.C_drew ?_))); (case side4 => exact (Kd.S_reads' HO139.out).2.1); rintro e w' ⟨rfl, ⟨nd, rfl⟩⟩; (try first | exact ⟨rfl, _, World.drewN_drewN _ _ _⟩ | exact ⟨rfl, _, Eq.trans (World.drewN_drewN _ _ _) (congrArg (World.drewN _) (Nat.add_assoc _ _ _))⟩))); try go_wp2_with (first | (go_at_call 21; (with_reducible refine (kinkeepref04_Cols.calls _ _ l0 t120 _ ?side1 ?side2 A23.out).mono ?_); (case side1 => repeat (first | exact (Kd.C_below HR0.out HB.out) | (with_reducible refine Kd.C_alloc ?_ _) | (with_reducible refine Kd.C_drewN ?_ _) | (with_reducible refine Kd.C_drew ?_))); (case side2 => exact HC0.out); rintro e w' ⟨rfl, ⟨nd, rfl⟩⟩; (try first | exact ⟨rfl, _, World.drewN_drewN _ _ _⟩ | exact ⟨rfl, _, Eq.trans (World.drewN_drewN _ _ _) (congrArg (World.drewN _) (Nat.add_assoc _ _ _))⟩); obtain ⟨Ao58, co58, eo58⟩ := Kd.S_slice HO_3.out; subst eo58; have p130 : 0 ≤ (x7_1 : Int) := of_decide_eq_true (by first | (with_reducible assumption) | assumption); have q130 : x7_1 < (t103.length : Int) := of_decide_eq_true (by first | (with_reducible assumption) | assumption); obtain ⟨ad130, A130_0, c130_0, e130, hx130_0, hl130_0, hi130_0⟩ := at_L1 (Kd.S_reads' HO_3.out).2.2 x7_1 p130 q130; cases e130; obtain ⟨ce130, hce130, hMe130, hcc130⟩ := Kd.S_get HO_3.out [] x7_1 p130 (by first | exact q130 | exact of_decide_eq_true (by first | (with_reducible assumption) | assumption) | (have e_ := (Kd.S_reads' HO_3.out).1; omega)); obtain ⟨ve130_0, rfl, ge130_0⟩ := hMe130; have hv130_0 := hcc130 0 _ rfl; rw [Nat.add_zero, show ((Kd.slice 5 (Kd.int .u8))).sz = 1 from rfl, Nat.mul_one] at hv130_0; replace hv130_0 := Option.some.inj (hv130_0.symm.trans hx130_0); rw [hv130_0] at ge130_0; have HL130_0 := Aside0.mk (show Kd.R (Kd.int .u8) 5 _ _ _ _ (rd_L1 t103 x7_1) from ge130_0); clear hv130_0 ge130_0; clear hcc130 hce130; have HR130_0 := Aside0.mk hi130_0; have HC130_0 := Aside0.mk hl130_0; clear hi130_0 hl130_0; replace p130 := eq_true p130; replace q130 := eq_true q130) | (go_at_call 25; (with_reducible refine (kinkeeplaw04_column.calls k3 _ _ (rd_L1 t103 x7_1) t131 _ ?side1 ?side2 A53.out).mono ?_); (case side1 => repeat (first | exact (by repeat (first | (with_reducible exact HR130_0.out) | (with_reducible refine Kd.C_alloc ?_ _) | (with_reducible refine Kd.C_drewN ?_ _) | (with_reducible refine Kd.C_drew ?_) | exact HR130_0.out)) | (with_reducible refine Kd.C_alloc ?_ _) | (with_reducible refine Kd.C_drewN ?_ _) | (with_reducible refine Kd.C_drew ?_))); (case side2 => exact HC130_0.out); rintro e w59 ⟨v132, rfl, ho0, hb⟩; have n0_ := Aside0.mk (Kd.S_elder' (by (with_reducible repeat (first | apply Kd.S_alloc | apply Kd.S_drewN | apply Kd.S_drew)); exact HO_3.out) (Kd.S_base ho0) hb); have n1_ := Aside0.mk (Kd.R_below (by (with_reducible repeat (first | apply Kd.R_alloc | apply Kd.R_drewN | apply Kd.R_drew)); exact HO_6.out) hb); have n2_ := Aside0.mk (Kd.R_below (by (with_reducible repeat (first | apply Kd.R_alloc | apply Kd.R_drewN | apply Kd.R_drew)); exact HL130_0.out) hb); have n3_ := Aside0.mk (Kd.S_lower (Kd.S_new' (Kd.S_new' ho0 (Kd.S_lt (by (with_reducible repeat (first | apply Kd.S_alloc | apply Kd.S_drewN | apply Kd.S_drew)); exact HO_3.out))) (Kd.R_lt (by (with_reducible repeat (first | apply Kd.R_alloc | apply Kd.R_drewN | apply Kd.R_drew)); exact HL130_0.out))) (below_size (by repeat (first | (with_reducible first | exact HB.out | apply below_alloc | apply pw_below_drewN | apply below_drew1) | exact HB.out)))); have n4_ := Aside0.mk (Kd.C_below (by repeat (first | (with_reducible exact HR130_0.out) | (with_reducible refine Kd.C_alloc ?_ _) | (with_reducible refine Kd.C_drewN ?_ _) | (with_reducible refine Kd.C_drew ?_) | exact HR130_0.out)) hb); have n5_ := Aside0.mk (below_step (by repeat (first | (with_reducible first | exact HB.out | apply below_alloc | apply pw_below_drewN | apply below_drew1) | exact HB.out)) hb); clear HO_3; clear HO_6; clear HL130_0; clear HR130_0; clear HB; have HO_3 := n0_; have HO_6 := n1_; have HL130_0 := n2_; have HO133 := n3_; have HR130_0 := n4_; have HB := n5_; clear n0_ n1_ n2_ n3_ n4_ n5_; (try clear hb); (try clear hb2); (try clear hk); (try clear hi); (try clear ho0); obtain ⟨Ao60, co60, eo60⟩ := Kd.S_slice HO133.out; subst eo60) | (go_at_call 24; (with_reducible refine (kinkeepref04_Product.calls k3 _ _ l0 _ _ t131 t134 _ ?side1 ?side2 ?side3 ?side4 A54.out).mono ?_); (case side1 => repeat (first | exact (Kd.C_below HR0.out HB.out) | (with_reducible refine Kd.C_alloc ?_ _) | (with_reducible refine Kd.C_drewN ?_ _) | (with_reducible refine Kd.C_drew ?_))); (case side2 => exact HC0.out); (case side3 => repeat (first | exact (Kd.S_reads' HO133.out).2.2 | (with_reducible refine Kd.C_alloc ?_ _) | (with_reducible refine Kd.C_drewN ?_ _) | (with_reducible refine Kd.C_drew ?_))); (case side4 => exact (Kd.S_reads' HO133.out).2.1); rintro e w61 ⟨v135, rfl, ho0, hb⟩; have n0_ := Aside0.mk (Kd.S_elder' (by (with_reducible repeat (first | apply Kd.S_alloc | apply Kd.S_drewN | apply Kd.S_drew)); exact HO_3.out) (Kd.S_base ho0) hb); have n1_ := Aside0.mk (Kd.R_below (by (with_reducible repeat (first | apply Kd.R_alloc | apply Kd.R_drewN | apply Kd.R_drew)); exact HO_6.out) hb); have n2_ := Aside0.mk (Kd.R_below (by (with_reducible repeat (first | apply Kd.R_alloc | apply Kd.R_drewN | apply Kd.R_drew)); exact HL130_0.out) hb); have n3_ := Aside0.mk (Kd.S_elder' (by (with_reducible repeat (first | apply Kd.S_alloc | apply Kd.S_drewN | apply Kd.S_drew)); exact HO133.out) (Kd.S_base ho0) hb); have n4_ := Aside0.mk (Kd.S_lower (Kd.S_new' (Kd.S_new' (Kd.S_new' ho0 (Kd.S_lt (by (with_reducible repeat (first | apply Kd.S_alloc | apply Kd.S_drewN | apply Kd.S_drew)); exact HO_3.out))) (Kd.R_lt (by (with_reducible repeat (first | apply Kd.R_alloc | apply Kd.R_drewN | apply Kd.R_drew)); exact HL130_0.out))) (Kd.S_lt (by (with_reducible repeat (first | apply Kd.S_alloc | apply Kd.S_drewN | apply Kd.S_drew)); exact HO133.out))) (below_size (by repeat (first | (with_reducible first | exact HB.out | apply below_alloc | apply pw_below_drewN | apply below_drew1) | exact HB.out)))); have n5_ := Aside0.mk (Kd.C_below (by repeat (first | (with_reducible exact HR130_0.out) | (with_reducible refine Kd.C_alloc ?_ _) | (with_reducible refine Kd.C_drewN ?_ _) | (with_reducible refine Kd.C_drew ?_) | exact HR130_0.out)) hb); have n6_ := Aside0.mk (below_step (by repeat (first | (with_reducible first | exact HB.out | apply below_alloc | apply pw_below_drewN | apply below_drew1) | exact HB.out)) hb); clear HO_3; clear HO_6; clear HL130_0; clear HO133; clear HR130_0; clear HB; have HO_3 := n0_; have HO_6 := n1_; have HL130_0 := n2_; have HO133 := n3_; have HO136 := n4_; have HR130_0 := n5_; have HB := n6_; clear n0_ n1_ n2_ n3_ n4_ n5_ n6_; (try clear hb); (try clear hb2); (try clear hk); (try clear hi); (try clear ho0)) | (go_at_call 26; (with_reducible refine (kinkeepref04_Zero.calls k3 (l0.length : Int) 1 t137 _ A55.out).mono ?_); rintro e w62 ⟨v138, rfl, ho0, hb⟩; have n0_ := Aside0.mk (Kd.S_elder' (by (with_reducible repeat (first | apply Kd.S_alloc | apply Kd.S_drewN | apply Kd.S_drew)); exact HO_3.out) (Kd.S_base ho0) hb); have n1_ := Aside0.mk (Kd.R_below (by (with_reducible repeat (first | apply Kd.R_alloc | apply Kd.R_drewN | apply Kd.R_drew)); exact HO_6.out) hb); have n2_ := Aside0.mk (Kd.R_below (by (with_reducible repeat (first | apply Kd.R_alloc | apply Kd.R_drewN | apply Kd.R_drew)); exact HL130_0.out) hb); have n3_ := Aside0.mk (Kd.S_elder' (by (with_reducible repeat (first | apply Kd.S_alloc | apply Kd.S_drewN | apply Kd.S_drew)); exact HO133.out) (Kd.S_base ho0) hb); have n4_ := Aside0.mk (Kd.S_elder' (by (with_reducible repeat (first | apply Kd.S_alloc | apply Kd.S_drewN | apply Kd.S_drew)); exact HO136.out) (Kd.S_base ho0) hb); have n5_ := Aside0.mk (Kd.S_lower (Kd.S_new' (Kd.S_new' (Kd.S_new' (Kd.S_new' ho0 (Kd.S_lt (by (with_reducible repeat (first | apply Kd.S_alloc | apply Kd.S_drewN | apply Kd.S_drew)); exact HO_3.out))) (Kd.R_lt (by (with_reducible repeat (first | apply Kd.R_alloc | apply Kd.R_drewN | apply Kd.R_drew)); exact HL130_0.out))) (Kd.S_lt (by (with_reducible repeat (first | apply Kd.S_alloc | apply Kd.S_drewN | apply Kd.S_drew)); exact HO133.out))) (Kd.S_lt (by (with_reducible repeat (first | apply Kd.S_alloc | apply Kd.S_drewN | apply Kd.S_drew)); exact HO136.out))) (below_size (by repeat (first | (with_reducible first | exact HB.out | apply below_alloc | apply pw_below_drewN | apply below_drew1) | exact HB.out)))); have n6_ := Aside0.mk (Kd.C_below (by repeat (first | (with_reducible exact HR130_0.out) | (with_reducible refine Kd.C_alloc ?_ _) | (with_reducible refine Kd.C_drewN ?_ _) | (with_reducible refine Kd.C_drew ?_) | exact HR130_0.out)) hb); have n7_ := Aside0.mk (below_step (by repeat (first | (with_reducible first | exact HB.out | apply below_alloc | apply pw_below_drewN | apply below_drew1) | exact HB.out)) hb); clear HO_3; clear HO_6; clear HL130_0; clear HO133; clear HO136; clear HR130_0; clear HB; have HO_3 := n0_; have HO_6 := n1_; have HL130_0 := n2_; have HO133 := n3_; have HO136 := n4_; have HO139 := n5_; have HR130_0 := n6_; have HB := n7_; clear n0_ n1_ n2_ n3_ n4_ n5_ n6_ n7_; (try clear hb); (try clear hb2); (try clear hk); (try clear hi); (try clear ho0); obtain ⟨Ao63, co63, eo63⟩ := Kd.S_slice HO136.out; subst eo63; obtain ⟨Ao64, co64, eo64⟩ := Kd.S_slice HO139.out; subst eo64) | (go_at_call 23; (with_reducible refine (kinkeepref04_Same.calls k3 _ _ t134 _ _ t137 true _ ?side1 ?side2 ?side3 ?side4 A56.out).mono ?_); (case side1 => repeat (first | exact (Kd.S_reads' HO136.out).2.2 | (with_reducible refine Kd.C_alloc ?_ _) | (with_reducible refine Kd.C_drewN ?_ _) | (with_reducible refine Kd.C_drew ?_))); (case side2 => exact (Kd.S_reads' HO136.out).2.1); (case side3 => repeat (first | exact (Kd.S_reads' HO139.out).2.2 | (with_reducible refine Kd.C_alloc ?_ _) | (with_reducible refine Kd.C_drewN ?_ _) | (with_reducible refine Kd.C_drew ?_))); (case side4 => exact (Kd.S_reads' HO139.out).2.1); rintro e w' ⟨rfl, ⟨nd, rfl⟩⟩; (try first | exact ⟨rfl, _, World.drewN_drewN _ _ _⟩ | exact ⟨rfl, _, Eq.trans (World.drewN_drewN _ _ _) (congrArg (World.drewN _) (Nat.add_assoc _ _ _))⟩))))
                                go_roundg k3
                                case measure => have := HK1.out; have := HJ13.out; have := HK3.out; omega
                                case rel => exact ⟨(wrap64 (x7_1 + 1)), (wrap64 (x8_1 + 1)), (by first | rfl | (simp; done) | (simp [*]; done)), (by first | rfl | (simp; done) | (simp [*]; done)), H', ⟨by have := HK1.out; have := HJ13.out; have := HK3.out; omega⟩, ⟨by (with_reducible repeat (first | apply Kd.S_alloc | apply Kd.S_drewN | apply Kd.S_drew)); exact Kd.S_mono HO_3.out (fun _ hk => trivial)⟩, ⟨by (with_reducible repeat (first | apply Kd.R_alloc | apply Kd.R_drewN | apply Kd.R_drew)); exact HO_6.out⟩, ⟨by repeat (first | (with_reducible first | exact HB.out | apply below_alloc | apply pw_below_drewN | apply below_drew1) | exact HB.out)⟩⟩
                              · replace c57 := Bool.eq_false_iff.mpr c57
                                subst c57
                                have H1 : (some false) = some r := by rw [if_neg (show ¬ (false = true) by decide)] at H; exact H
                                clear H
                                have H := H1
                                clear H1
                                obtain rfl := Option.some.inj H
                                exact absurd HRT.out (by decide)
                            · rw [if_neg c52] at H
                              exact absurd H (by simp)
                          · rw [if_neg c51] at H
                            exact absurd H (by simp)
            · replace c13 := Bool.eq_false_iff.mpr c13
              subst c13
              have H1 : (kinkeeplaw04_MatrixKernels.l0 k1 l0 t103 t104 t110 x7_1 (wrap64 (x8_1 + 1))) = some r := by rw [if_neg (show ¬ (false = true) by decide)] at H; exact H
              clear H
              have H := H1
              clear H1
              have H' := Aside0.mk H
              clear H
              go_wp2_with (first | (go_at_call 21; (with_reducible refine (kinkeepref04_Cols.calls _ _ l0 t115 _ ?side1 ?side2 A10.out).mono ?_); (case side1 => repeat (first | exact (Kd.C_below HR0.out HB.out) | (with_reducible refine Kd.C_alloc ?_ _) | (with_reducible refine Kd.C_drewN ?_ _) | (with_reducible refine Kd.C_drew ?_))); (case side2 => exact HC0.out); rintro e w' ⟨rfl, ⟨nd, rfl⟩⟩; (try first | exact ⟨rfl, _, World.drewN_drewN _ _ _⟩ | exact ⟨rfl, _, Eq.trans (World.drewN_drewN _ _ _) (congrArg (World.drewN _) (Nat.add_assoc _ _ _))⟩); obtain ⟨Ao72, co72, eo72⟩ := Kd.R_slice HO_6.out; subst eo72) | (go_at_call 22; (with_reducible refine (kinkeeplaw04_free.calls k1 _ _ t110 x8_1 false _ ?side1 ?side2 A12.out).mono ?_); (case side1 => repeat (first | exact (Kd.R_reads' HO_6.out).2.2 | (with_reducible refine Kd.C_alloc ?_ _) | (with_reducible refine Kd.C_drewN ?_ _) | (with_reducible refine Kd.C_drew ?_))); (case side2 => exact (Kd.R_reads' HO_6.out).2.1); rintro e w' ⟨rfl, ⟨nd, rfl⟩⟩; (try first | exact ⟨rfl, _, World.drewN_drewN _ _ _⟩ | exact ⟨rfl, _, Eq.trans (World.drewN_drewN _ _ _) (congrArg (World.drewN _) (Nat.add_assoc _ _ _))⟩)))
              repeat (go_quiet (first | (go_at_call 21; (with_reducible refine (kinkeepref04_Cols.calls _ _ l0 t115 _ ?side1 ?side2 A10.out).mono ?_); (case side1 => repeat (first | exact (Kd.C_below HR0.out HB.out) | (with_reducible refine Kd.C_alloc ?_ _) | (with_reducible refine Kd.C_drewN ?_ _) | (with_reducible refine Kd.C_drew ?_))); (case side2 => exact HC0.out); rintro e w' ⟨rfl, ⟨nd, rfl⟩⟩; (try first | exact ⟨rfl, _, World.drewN_drewN _ _ _⟩ | exact ⟨rfl, _, Eq.trans (World.drewN_drewN _ _ _) (congrArg (World.drewN _) (Nat.add_assoc _ _ _))⟩); obtain ⟨Ao72, co72, eo72⟩ := Kd.R_slice HO_6.out; subst eo72) | (go_at_call 22; (with_reducible refine (kinkeeplaw04_free.calls k1 _ _ t110 x8_1 false _ ?side1 ?side2 A12.out).mono ?_); (case side1 => repeat (first | exact (Kd.R_reads' HO_6.out).2.2 | (with_reducible refine Kd.C_alloc ?_ _) | (with_reducible refine Kd.C_drewN ?_ _) | (with_reducible refine Kd.C_drew ?_))); (case side2 => exact (Kd.R_reads' HO_6.out).2.1); rintro e w' ⟨rfl, ⟨nd, rfl⟩⟩; (try first | exact ⟨rfl, _, World.drewN_drewN _ _ _⟩ | exact ⟨rfl, _, Eq.trans (World.drewN_drewN _ _ _) (congrArg (World.drewN _) (Nat.add_assoc _ _ _))⟩))); try go_wp2_with (first | (go_at_call 21; (with_reducible refine (kinkeepref04_Cols.calls _ _ l0 t115 _ ?side1 ?side2 A10.out).mono ?_); (case side1 => repeat (first | exact (Kd.C_below HR0.out HB.out) | (with_reducible refine Kd.C_alloc ?_ _) | (with_reducible refine Kd.C_drewN ?_ _) | (with_reducible refine Kd.C_drew ?_))); (case side2 => exact HC0.out); rintro e w' ⟨rfl, ⟨nd, rfl⟩⟩; (try first | exact ⟨rfl, _, World.drewN_drewN _ _ _⟩ | exact ⟨rfl, _, Eq.trans (World.drewN_drewN _ _ _) (congrArg (World.drewN _) (Nat.add_assoc _ _ _))⟩); obtain ⟨Ao72, co72, eo72⟩ := Kd.R_slice HO_6.out; subst eo72) | (go_at_call 22; (with_reducible refine (kinkeeplaw04_free.calls k1 _ _ t110 x8_1 false _ ?side1 ?side2 A12.out).mono ?_); (case side1 => repeat (first | exact (Kd.R_reads' HO_6.out).2.2 | (with_reducible refine Kd.C_alloc ?_ _) | (with_reducible refine Kd.C_drewN ?_ _) | (with_reducible refine Kd.C_drew ?_))); (case side2 => exact (Kd.R_reads' HO_6.out).2.1); rintro e w' ⟨rfl, ⟨nd, rfl⟩⟩; (try first | exact ⟨rfl, _, World.drewN_drewN _ _ _⟩ | exact ⟨rfl, _, Eq.trans (World.drewN_drewN _ _ _) (congrArg (World.drewN _) (Nat.add_assoc _ _ _))⟩))))
              go_roundg k1
              case measure => have := HK1.out; omega
              case rel => exact ⟨(x7_1), (wrap64 (x8_1 + 1)), (by first | rfl | (simp; done) | (simp [*]; done)), (by first | rfl | (simp; done) | (simp [*]; done)), H', ⟨by have := HK1.out; omega⟩, ⟨by (with_reducible repeat (first | apply Kd.S_alloc | apply Kd.S_drewN | apply Kd.S_drew)); exact HO_3.out⟩, ⟨by (with_reducible repeat (first | apply Kd.R_alloc | apply Kd.R_drewN | apply Kd.R_drew)); exact HO_6.out⟩, ⟨by repeat (first | (with_reducible first | exact HB.out | apply below_alloc | apply pw_below_drewN | apply below_drew1) | exact HB.out)⟩⟩
          · rw [if_neg c11] at H
            have c11b0 : decide (x8_1 < t115) = false := decide_eq_false c11
            clear c11
            replace H := Option.bind_eq_some_iff.mp H
            obtain ⟨t116, A730, H⟩ := H
            replace H : (if t116 = true then (if t104 = 0 then (some (x7_1 == (t103.length : Int))) else (some false)) else (some false)) = some r := H
            have A73 := Aside0.mk A730
            clear A730
            by_cases c74 : t116 = true
            · subst c74
              have H1 : (if t104 = 0 then (some (x7_1 == (t103.length : Int))) else (some false)) = some r := by rw [if_pos rfl] at H; exact H
              clear H
              have H := H1
              clear H1
              by_cases c75 : t104 = 0
              · rw [if_pos c75] at H
                have c75b0 : (t104 == 0) = true := beq_iff_eq.mpr c75
                have c75b1 : (t104 != 0) = false := bne_eq_false_iff_eq.mpr c75
                clear c75
                obtain rfl := Option.some.inj H
                go_wp2_with (first | (go_at_call 21; (with_reducible refine (kinkeepref04_Cols.calls _ _ l0 t115 _ ?side1 ?side2 A10.out).mono ?_); (case side1 => repeat (first | exact (Kd.C_below HR0.out HB.out) | (with_reducible refine Kd.C_alloc ?_ _) | (with_reducible refine Kd.C_drewN ?_ _) | (with_reducible refine Kd.C_drew ?_))); (case side2 => exact HC0.out); rintro e w' ⟨rfl, ⟨nd, rfl⟩⟩; (try first | exact ⟨rfl, _, World.drewN_drewN _ _ _⟩ | exact ⟨rfl, _, Eq.trans (World.drewN_drewN _ _ _) (congrArg (World.drewN _) (Nat.add_assoc _ _ _))⟩)) | (go_at_call 16; (with_reducible refine (kinkeeplaw04_awake.calls  true _ A73.out).mono ?_); rintro e w76 ⟨rfl, hb⟩; have n0_ := Aside0.mk (Kd.S_below (by (with_reducible repeat (first | apply Kd.S_alloc | apply Kd.S_drewN | apply Kd.S_drew)); exact HO_3.out) hb); have n1_ := Aside0.mk (Kd.R_below (by (with_reducible repeat (first | apply Kd.R_alloc | apply Kd.R_drewN | apply Kd.R_drew)); exact HO_6.out) hb); have n2_ := Aside0.mk (below_step (by repeat (first | (with_reducible first | exact HB.out | apply below_alloc | apply pw_below_drewN | apply below_drew1) | exact HB.out)) hb); clear HO_3; clear HO_6; clear HB; have HO_3 := n0_; have HO_6 := n1_; have HB := n2_; clear n0_ n1_ n2_; (try clear hb); (try clear hb2); (try clear hk); (try clear hi); obtain ⟨Ao77, co77, eo77⟩ := Kd.S_slice HO_3.out; subst eo77))
                repeat (go_quiet (first | (go_at_call 21; (with_reducible refine (kinkeepref04_Cols.calls _ _ l0 t115 _ ?side1 ?side2 A10.out).mono ?_); (case side1 => repeat (first | exact (Kd.C_below HR0.out HB.out) | (with_reducible refine Kd.C_alloc ?_ _) | (with_reducible refine Kd.C_drewN ?_ _) | (with_reducible refine Kd.C_drew ?_))); (case side2 => exact HC0.out); rintro e w' ⟨rfl, ⟨nd, rfl⟩⟩; (try first | exact ⟨rfl, _, World.drewN_drewN _ _ _⟩ | exact ⟨rfl, _, Eq.trans (World.drewN_drewN _ _ _) (congrArg (World.drewN _) (Nat.add_assoc _ _ _))⟩)) | (go_at_call 16; (with_reducible refine (kinkeeplaw04_awake.calls  true _ A73.out).mono ?_); rintro e w76 ⟨rfl, hb⟩; have n0_ := Aside0.mk (Kd.S_below (by (with_reducible repeat (first | apply Kd.S_alloc | apply Kd.S_drewN | apply Kd.S_drew)); exact HO_3.out) hb); have n1_ := Aside0.mk (Kd.R_below (by (with_reducible repeat (first | apply Kd.R_alloc | apply Kd.R_drewN | apply Kd.R_drew)); exact HO_6.out) hb); have n2_ := Aside0.mk (below_step (by repeat (first | (with_reducible first | exact HB.out | apply below_alloc | apply pw_below_drewN | apply below_drew1) | exact HB.out)) hb); clear HO_3; clear HO_6; clear HB; have HO_3 := n0_; have HO_6 := n1_; have HB := n2_; clear n0_ n1_ n2_; (try clear hb); (try clear hb2); (try clear hk); (try clear hi); obtain ⟨Ao77, co77, eo77⟩ := Kd.S_slice HO_3.out; subst eo77)); try go_wp2_with (first | (go_at_call 21; (with_reducible refine (kinkeepref04_Cols.calls _ _ l0 t115 _ ?side1 ?side2 A10.out).mono ?_); (case side1 => repeat (first | exact (Kd.C_below HR0.out HB.out) | (with_reducible refine Kd.C_alloc ?_ _) | (with_reducible refine Kd.C_drewN ?_ _) | (with_reducible refine Kd.C_drew ?_))); (case side2 => exact HC0.out); rintro e w' ⟨rfl, ⟨nd, rfl⟩⟩; (try first | exact ⟨rfl, _, World.drewN_drewN _ _ _⟩ | exact ⟨rfl, _, Eq.trans (World.drewN_drewN _ _ _) (congrArg (World.drewN _) (Nat.add_assoc _ _ _))⟩)) | (go_at_call 16; (with_reducible refine (kinkeeplaw04_awake.calls  true _ A73.out).mono ?_); rintro e w76 ⟨rfl, hb⟩; have n0_ := Aside0.mk (Kd.S_below (by (with_reducible repeat (first | apply Kd.S_alloc | apply Kd.S_drewN | apply Kd.S_drew)); exact HO_3.out) hb); have n1_ := Aside0.mk (Kd.R_below (by (with_reducible repeat (first | apply Kd.R_alloc | apply Kd.R_drewN | apply Kd.R_drew)); exact HO_6.out) hb); have n2_ := Aside0.mk (below_step (by repeat (first | (with_reducible first | exact HB.out | apply below_alloc | apply pw_below_drewN | apply below_drew1) | exact HB.out)) hb); clear HO_3; clear HO_6; clear HB; have HO_3 := n0_; have HO_6 := n1_; have HB := n2_; clear n0_ n1_ n2_; (try clear hb); (try clear hb2); (try clear hk); (try clear hi); obtain ⟨Ao77, co77, eo77⟩ := Kd.S_slice HO_3.out; subst eo77)))
                go_ret
                exact ⟨by first | rfl | (simp [errW_none, errW_some] <;> rfl) | (simp [*, errW_none, errW_some] <;> rfl), by repeat (first | (with_reducible first | exact HB.out | apply below_alloc | apply pw_below_drewN | apply below_drew1) | exact HB.out)⟩
              · rw [if_neg c75] at H
                have c75b0 : (t104 == 0) = false := beq_eq_false_iff_ne.mpr c75
                have c75b1 : (t104 != 0) = true := bne_iff_ne.mpr c75
                obtain rfl := Option.some.inj H
                exact absurd HRT.out (by decide)
            · exact absurd (Option.some.inj A73.out).symm c74
    · replace c6 := Bool.eq_false_iff.mpr c6
      subst c6
      have H1 : ((kinkeeplaw04_awake.f).bind fun t108 => (if t108 = true then (if t104 = 1 then (some ((t103.length : Int) == 0)) else (some false)) else (some false))) = some r := by rw [if_neg (show ¬ (false = true) by decide)] at H; exact H
      clear H
      have H := H1
      clear H1
      replace H := Option.bind_eq_some_iff.mp H
      obtain ⟨t108, A800, H⟩ := H
      replace H : (if t108 = true then (if t104 = 1 then (some ((t103.length : Int) == 0)) else (some false)) else (some false)) = some r := H
      have A80 := Aside0.mk A800
      clear A800
      by_cases c81 : t108 = true
      · subst c81
        have H1 : (if t104 = 1 then (some ((t103.length : Int) == 0)) else (some false)) = some r := by rw [if_pos rfl] at H; exact H
        clear H
        have H := H1
        clear H1
        by_cases c82 : t104 = 1
        · rw [if_pos c82] at H
          have c82b0 : (t104 == 1) = true := beq_iff_eq.mpr c82
          have c82b1 : (t104 != 1) = false := bne_eq_false_iff_eq.mpr c82
          clear c82
          obtain rfl := Option.some.inj H
          go_enter Try.func4, Try.ntmps4
          go_wp2_with (first | (go_at_call 15; (with_reducible refine (kinkeeplaw04_few.calls k _ _ l0 8 true _ ?side1 ?side2 A2.out).mono ?_); (case side1 => repeat (first | exact HR0.out | (with_reducible refine Kd.C_alloc ?_ _) | (with_reducible refine Kd.C_drewN ?_ _) | (with_reducible refine Kd.C_drew ?_))); (case side2 => exact HC0.out); rintro e w' ⟨rfl, ⟨nd, rfl⟩⟩; (try first | exact ⟨rfl, _, World.drewN_drewN _ _ _⟩ | exact ⟨rfl, _, Eq.trans (World.drewN_drewN _ _ _) (congrArg (World.drewN _) (Nat.add_assoc _ _ _))⟩)) | (go_at_call 19; (with_reducible refine (matrix_Kernel.calls k _ _ l0 t103 t104 _ ?side1 ?side2 A4.out).mono ?_); (case side1 => repeat (first | exact HR0.out | (with_reducible refine Kd.C_alloc ?_ _) | (with_reducible refine Kd.C_drewN ?_ _) | (with_reducible refine Kd.C_drew ?_))); (case side2 => exact HC0.out); rintro e w83 ⟨v105, rfl, ho0, hb⟩; have n0_ := Aside0.mk (Kd.S_lower ho0 (below_size (by repeat (first | (with_reducible first | exact HB.out | apply below_alloc | apply pw_below_drewN | apply below_drew1) | exact HB.out)))); have n1_ := Aside0.mk (below_step (by repeat (first | (with_reducible first | exact HB.out | apply below_alloc | apply pw_below_drewN | apply below_drew1) | exact HB.out)) hb); clear HB; have HO106 := n0_; have HB := n1_; clear n0_ n1_; (try clear hb); (try clear hb2); (try clear hk); (try clear hi); (try clear ho0)) | (go_at_call 18; (with_reducible refine (kinkeepref04_Valid.calls k _ _ l0 false _ ?side1 ?side2 A5.out).mono ?_); (case side1 => repeat (first | exact (Kd.C_below HR0.out HB.out) | (with_reducible refine Kd.C_alloc ?_ _) | (with_reducible refine Kd.C_drewN ?_ _) | (with_reducible refine Kd.C_drew ?_))); (case side2 => exact HC0.out); rintro e w' ⟨rfl, ⟨nd, rfl⟩⟩; (try first | exact ⟨rfl, _, World.drewN_drewN _ _ _⟩ | exact ⟨rfl, _, Eq.trans (World.drewN_drewN _ _ _) (congrArg (World.drewN _) (Nat.add_assoc _ _ _))⟩)) | (go_at_call 16; (with_reducible refine (kinkeeplaw04_awake.calls  true _ A80.out).mono ?_); rintro e w84 ⟨rfl, hb⟩; have n0_ := Aside0.mk (Kd.S_below (by (with_reducible repeat (first | apply Kd.S_alloc | apply Kd.S_drewN | apply Kd.S_drew)); exact HO106.out) hb); have n1_ := Aside0.mk (below_step (by repeat (first | (with_reducible first | exact HB.out | apply below_alloc | apply pw_below_drewN | apply below_drew1) | exact HB.out)) hb); clear HO106; clear HB; have HO106 := n0_; have HB := n1_; clear n0_ n1_; (try clear hb); (try clear hb2); (try clear hk); (try clear hi); obtain ⟨Ao85, co85, eo85⟩ := Kd.S_slice HO106.out; subst eo85))
          repeat (go_quiet (first | (go_at_call 15; (with_reducible refine (kinkeeplaw04_few.calls k _ _ l0 8 true _ ?side1 ?side2 A2.out).mono ?_); (case side1 => repeat (first | exact HR0.out | (with_reducible refine Kd.C_alloc ?_ _) | (with_reducible refine Kd.C_drewN ?_ _) | (with_reducible refine Kd.C_drew ?_))); (case side2 => exact HC0.out); rintro e w' ⟨rfl, ⟨nd, rfl⟩⟩; (try first | exact ⟨rfl, _, World.drewN_drewN _ _ _⟩ | exact ⟨rfl, _, Eq.trans (World.drewN_drewN _ _ _) (congrArg (World.drewN _) (Nat.add_assoc _ _ _))⟩)) | (go_at_call 19; (with_reducible refine (matrix_Kernel.calls k _ _ l0 t103 t104 _ ?side1 ?side2 A4.out).mono ?_); (case side1 => repeat (first | exact HR0.out | (with_reducible refine Kd.C_alloc ?_ _) | (with_reducible refine Kd.C_drewN ?_ _) | (with_reducible refine Kd.C_drew ?_))); (case side2 => exact HC0.out); rintro e w83 ⟨v105, rfl, ho0, hb⟩; have n0_ := Aside0.mk (Kd.S_lower ho0 (below_size (by repeat (first | (with_reducible first | exact HB.out | apply below_alloc | apply pw_below_drewN | apply below_drew1) | exact HB.out)))); have n1_ := Aside0.mk (below_step (by repeat (first | (with_reducible first | exact HB.out | apply below_alloc | apply pw_below_drewN | apply below_drew1) | exact HB.out)) hb); clear HB; have HO106 := n0_; have HB := n1_; clear n0_ n1_; (try clear hb); (try clear hb2); (try clear hk); (try clear hi); (try clear ho0)) | (go_at_call 18; (with_reducible refine (kinkeepref04_Valid.calls k _ _ l0 false _ ?side1 ?side2 A5.out).mono ?_); (case side1 => repeat (first | exact (Kd.C_below HR0.out HB.out) | (with_reducible refine Kd.C_alloc ?_ _) | (with_reducible refine Kd.C_drewN ?_ _) | (with_reducible refine Kd.C_drew ?_))); (case side2 => exact HC0.out); rintro e w' ⟨rfl, ⟨nd, rfl⟩⟩; (try first | exact ⟨rfl, _, World.drewN_drewN _ _ _⟩ | exact ⟨rfl, _, Eq.trans (World.drewN_drewN _ _ _) (congrArg (World.drewN _) (Nat.add_assoc _ _ _))⟩)) | (go_at_call 16; (with_reducible refine (kinkeeplaw04_awake.calls  true _ A80.out).mono ?_); rintro e w84 ⟨rfl, hb⟩; have n0_ := Aside0.mk (Kd.S_below (by (with_reducible repeat (first | apply Kd.S_alloc | apply Kd.S_drewN | apply Kd.S_drew)); exact HO106.out) hb); have n1_ := Aside0.mk (below_step (by repeat (first | (with_reducible first | exact HB.out | apply below_alloc | apply pw_below_drewN | apply below_drew1) | exact HB.out)) hb); clear HO106; clear HB; have HO106 := n0_; have HB := n1_; clear n0_ n1_; (try clear hb); (try clear hb2); (try clear hk); (try clear hi); obtain ⟨Ao85, co85, eo85⟩ := Kd.S_slice HO106.out; subst eo85)); try go_wp2_with (first | (go_at_call 15; (with_reducible refine (kinkeeplaw04_few.calls k _ _ l0 8 true _ ?side1 ?side2 A2.out).mono ?_); (case side1 => repeat (first | exact HR0.out | (with_reducible refine Kd.C_alloc ?_ _) | (with_reducible refine Kd.C_drewN ?_ _) | (with_reducible refine Kd.C_drew ?_))); (case side2 => exact HC0.out); rintro e w' ⟨rfl, ⟨nd, rfl⟩⟩; (try first | exact ⟨rfl, _, World.drewN_drewN _ _ _⟩ | exact ⟨rfl, _, Eq.trans (World.drewN_drewN _ _ _) (congrArg (World.drewN _) (Nat.add_assoc _ _ _))⟩)) | (go_at_call 19; (with_reducible refine (matrix_Kernel.calls k _ _ l0 t103 t104 _ ?side1 ?side2 A4.out).mono ?_); (case side1 => repeat (first | exact HR0.out | (with_reducible refine Kd.C_alloc ?_ _) | (with_reducible refine Kd.C_drewN ?_ _) | (with_reducible refine Kd.C_drew ?_))); (case side2 => exact HC0.out); rintro e w83 ⟨v105, rfl, ho0, hb⟩; have n0_ := Aside0.mk (Kd.S_lower ho0 (below_size (by repeat (first | (with_reducible first | exact HB.out | apply below_alloc | apply pw_below_drewN | apply below_drew1) | exact HB.out)))); have n1_ := Aside0.mk (below_step (by repeat (first | (with_reducible first | exact HB.out | apply below_alloc | apply pw_below_drewN | apply below_drew1) | exact HB.out)) hb); clear HB; have HO106 := n0_; have HB := n1_; clear n0_ n1_; (try clear hb); (try clear hb2); (try clear hk); (try clear hi); (try clear ho0)) | (go_at_call 18; (with_reducible refine (kinkeepref04_Valid.calls k _ _ l0 false _ ?side1 ?side2 A5.out).mono ?_); (case side1 => repeat (first | exact (Kd.C_below HR0.out HB.out) | (with_reducible refine Kd.C_alloc ?_ _) | (with_reducible refine Kd.C_drewN ?_ _) | (with_reducible refine Kd.C_drew ?_))); (case side2 => exact HC0.out); rintro e w' ⟨rfl, ⟨nd, rfl⟩⟩; (try first | exact ⟨rfl, _, World.drewN_drewN _ _ _⟩ | exact ⟨rfl, _, Eq.trans (World.drewN_drewN _ _ _) (congrArg (World.drewN _) (Nat.add_assoc _ _ _))⟩)) | (go_at_call 16; (with_reducible refine (kinkeeplaw04_awake.calls  true _ A80.out).mono ?_); rintro e w84 ⟨rfl, hb⟩; have n0_ := Aside0.mk (Kd.S_below (by (with_reducible repeat (first | apply Kd.S_alloc | apply Kd.S_drewN | apply Kd.S_drew)); exact HO106.out) hb); have n1_ := Aside0.mk (below_step (by repeat (first | (with_reducible first | exact HB.out | apply below_alloc | apply pw_below_drewN | apply below_drew1) | exact HB.out)) hb); clear HO106; clear HB; have HO106 := n0_; have HB := n1_; clear n0_ n1_; (try clear hb); (try clear hb2); (try clear hk); (try clear hi); obtain ⟨Ao85, co85, eo85⟩ := Kd.S_slice HO106.out; subst eo85)))
          go_ret
          exact ⟨by first | rfl | (simp [errW_none, errW_some] <;> rfl) | (simp [*, errW_none, errW_some] <;> rfl), by repeat (first | (with_reducible first | exact HB.out | apply below_alloc | apply pw_below_drewN | apply below_drew1) | exact HB.out)⟩
        · rw [if_neg c82] at H
          have c82b0 : (t104 == 1) = false := beq_eq_false_iff_ne.mpr c82
          have c82b1 : (t104 != 1) = true := bne_iff_ne.mpr c82
          obtain rfl := Option.some.inj H
          exact absurd HRT.out (by decide)
      · exact absurd (Option.some.inj A80.out).symm c81
  · replace c3 := Bool.eq_false_iff.mpr c3
    subst c3
    have H1 : ((kinkeeplaw04_awake.f).bind fun t102 => (some t102)) = some r := by rw [if_neg (show ¬ (false = true) by decide)] at H; exact H
    clear H
    have H := H1
    clear H1
    replace H := Option.bind_eq_some_iff.mp H
    obtain ⟨t102, A900, H⟩ := H
    replace H : (some t102) = some r := H
    have A90 := Aside0.mk A900
    clear A900
    obtain rfl := Option.some.inj H
    go_enter Try.func4, Try.ntmps4
    go_wp2_with (first | (go_at_call 15; (with_reducible refine (kinkeeplaw04_few.calls k _ _ l0 8 false _ ?side1 ?side2 A2.out).mono ?_); (case side1 => repeat (first | exact HR0.out | (with_reducible refine Kd.C_alloc ?_ _) | (with_reducible refine Kd.C_drewN ?_ _) | (with_reducible refine Kd.C_drew ?_))); (case side2 => exact HC0.out); rintro e w' ⟨rfl, ⟨nd, rfl⟩⟩; (try first | exact ⟨rfl, _, World.drewN_drewN _ _ _⟩ | exact ⟨rfl, _, Eq.trans (World.drewN_drewN _ _ _) (congrArg (World.drewN _) (Nat.add_assoc _ _ _))⟩)) | (go_at_call 16; (with_reducible refine (kinkeeplaw04_awake.calls  t102 _ A90.out).mono ?_); rintro e w91 ⟨rfl, hb⟩; have n0_ := Aside0.mk (below_step (by repeat (first | (with_reducible first | exact HB.out | apply below_alloc | apply pw_below_drewN | apply below_drew1) | exact HB.out)) hb); clear HB; have HB := n0_; clear n0_; (try clear hb); (try clear hb2); (try clear hk); (try clear hi)))
    repeat (go_quiet (first | (go_at_call 15; (with_reducible refine (kinkeeplaw04_few.calls k _ _ l0 8 false _ ?side1 ?side2 A2.out).mono ?_); (case side1 => repeat (first | exact HR0.out | (with_reducible refine Kd.C_alloc ?_ _) | (with_reducible refine Kd.C_drewN ?_ _) | (with_reducible refine Kd.C_drew ?_))); (case side2 => exact HC0.out); rintro e w' ⟨rfl, ⟨nd, rfl⟩⟩; (try first | exact ⟨rfl, _, World.drewN_drewN _ _ _⟩ | exact ⟨rfl, _, Eq.trans (World.drewN_drewN _ _ _) (congrArg (World.drewN _) (Nat.add_assoc _ _ _))⟩)) | (go_at_call 16; (with_reducible refine (kinkeeplaw04_awake.calls  t102 _ A90.out).mono ?_); rintro e w91 ⟨rfl, hb⟩; have n0_ := Aside0.mk (below_step (by repeat (first | (with_reducible first | exact HB.out | apply below_alloc | apply pw_below_drewN | apply below_drew1) | exact HB.out)) hb); clear HB; have HB := n0_; clear n0_; (try clear hb); (try clear hb2); (try clear hk); (try clear hi))); try go_wp2_with (first | (go_at_call 15; (with_reducible refine (kinkeeplaw04_few.calls k _ _ l0 8 false _ ?side1 ?side2 A2.out).mono ?_); (case side1 => repeat (first | exact HR0.out | (with_reducible refine Kd.C_alloc ?_ _) | (with_reducible refine Kd.C_drewN ?_ _) | (with_reducible refine Kd.C_drew ?_))); (case side2 => exact HC0.out); rintro e w' ⟨rfl, ⟨nd, rfl⟩⟩; (try first | exact ⟨rfl, _, World.drewN_drewN _ _ _⟩ | exact ⟨rfl, _, Eq.trans (World.drewN_drewN _ _ _) (congrArg (World.drewN _) (Nat.add_assoc _ _ _))⟩)) | (go_at_call 16; (with_reducible refine (kinkeeplaw04_awake.calls  t102 _ A90.out).mono ?_); rintro e w91 ⟨rfl, hb⟩; have n0_ := Aside0.mk (below_step (by repeat (first | (with_reducible first | exact HB.out | apply below_alloc | apply pw_below_drewN | apply below_drew1) | exact HB.out)) hb); clear HB; have HB := n0_; clear n0_; (try clear hb); (try clear hb2); (try clear hk); (try clear hi))))
    go_ret
    exact ⟨by first | rfl | (simp [errW_none, errW_some] <;> rfl) | (simp [*, errW_none, errW_some] <;> rfl), by repeat (first | (with_reducible first | exact HB.out | apply below_alloc | apply pw_below_drewN | apply below_drew1) | exact HB.out)⟩
end Go.Proofs.Ytpkghpljgjlmjaa.K
/- The kernel, plain: its vectors, and that they vanish. -/
namespace Go.Proofs.Ytpkghpljgjlmjaa.K
open Go.RowKit Go.Proofs.YtpkghpljgjlmjaaW.PrintWords Go.Proofs.YtpkghpljgjlmjaaW.PrintLast Go.Proofs.YtpkghpljgjlmjaaW.PrintMore Kin
set_option linter.unusedVariables false
theorem setg_eq (r : List B) (k : Nat) (x : B) (j : Nat) : (r.set k x).getD j 0 = if j = k ∧ k < r.length then x else r.getD j 0 := by
  rw [List.getD_eq_getElem?_getD, List.getElem?_set]
  by_cases h : k = j
  · subst h
    rw [if_pos rfl]
    by_cases h2 : k < r.length
    · rw [if_pos h2, if_pos ⟨rfl, h2⟩]; rfl
    · rw [if_neg h2, if_neg (by omega), List.getD_eq_getElem?_getD, List.getElem?_eq_none (by omega)]
  · rw [if_neg h, if_neg (by omega), List.getD_eq_getElem?_getD]
def dot (n : Nat) (f : Nat → B) (v : List B) : B := bsum n fun d => gmul (f d) (v.getD d 0)
theorem dot_set {n : Nat} (f : Nat → B) {v : List B} {p : Nat} (hp : p < n) (hv : v.length = n) (x : B) (h0 : v.getD p 0 = 0) : dot n f (v.set p x) = dot n f v ^^^ gmul (f p) x := by
  have e : dot n f (v.set p x) = bsum n (fun d => gmul (f d) (v.getD d 0) ^^^ if d = p then gmul (f p) x else 0) := by
    refine bsum_congr fun d hd => ?_
    rw [setg_eq]
    by_cases h : d = p
    · subst h
      rw [if_pos ⟨rfl, by omega⟩, if_pos rfl, h0, gmul_zero, zero_bx]
    · rw [if_neg (by omega), if_neg h, bx_zero]
  rw [e, bsum_add, bsum_one (f := fun d => if d = p then gmul (f p) x else 0) hp (fun j _ hne => if_neg hne), if_pos rfl]
  rfl
theorem dot_zeros (n m : Nat) (f : Nat → B) : dot n f (List.replicate m 0) = 0 := by
  refine bsum_zero fun j hj => ?_
  have : (List.replicate m (0 : B)).getD j 0 = 0 := by
    rw [List.getD_eq_getElem?_getD, List.getElem?_replicate]
    split <;> rfl
  rw [this, gmul_zero]
/-- The first t pivots' elements set. -/
def setPivs (R : List (List B)) (piv : List Nat) (c : Nat) (v0 : List B) (t : Nat) : List B := (List.range t).foldl (fun o i => o.set (piv.getD i 0) ((R.getD i []).getD c 0)) v0
theorem setPivs_succ (R : List (List B)) (piv : List Nat) (c : Nat) (v0 : List B) (t : Nat) : setPivs R piv c v0 (t + 1) = (setPivs R piv c v0 t).set (piv.getD t 0) ((R.getD t []).getD c 0) := by
  unfold setPivs
  rw [List.range_succ, List.foldl_append]
  rfl
theorem setPivs_length (R : List (List B)) (piv : List Nat) (c : Nat) (v0 : List B) (t : Nat) : (setPivs R piv c v0 t).length = v0.length := by
  induction t with
  | zero => rfl
  | succ t ih => rw [setPivs_succ, List.length_set, ih]
theorem setPivs_free (R : List (List B)) (piv : List Nat) (c : Nat) (v0 : List B) (d : Nat) : ∀ t, (∀ i, i < t → piv.getD i 0 ≠ d) → (setPivs R piv c v0 t).getD d 0 = v0.getD d 0 := by
  intro t
  induction t with
  | zero => intro _; rfl
  | succ t ih =>
    intro h
    rw [setPivs_succ, setg_eq, if_neg (fun e => h t (by omega) e.1.symm), ih (fun i hi => h i (by omega))]
theorem setPivs_dot {A : Mx} {len cols : Nat} {piv : List Nat} (hF : Form A len cols piv) {R : List (List B)} (hA : fn R = A) {n c : Nat} (hn : cols ≤ n) {v0 : List B} (hv : v0.length = n) (h0 : ∀ i, i < piv.length → v0.getD (piv.getD i 0) 0 = 0) {i : Nat} (hi : i < len) :
    ∀ t, t ≤ piv.length → dot n (A i) (setPivs R piv c v0 t) = dot n (A i) v0 ^^^ if i < t then A i c else 0 := by
  intro t
  induction t with
  | zero => intro _; rw [if_neg (by omega), bx_zero]; rfl
  | succ t ih =>
    intro ht
    have hpt := hF.lt t (by omega)
    rw [setPivs_succ, dot_set (A i) (by omega) (by rw [setPivs_length, hv]) _ (by
      rw [setPivs_free R piv c v0 _ t (fun j hj => by have := hF.inc j t hj (by omega); omega)]
      exact h0 t (by omega)), ih (by omega), hF.unit t (by omega) i hi, show (R.getD t []).getD c 0 = A t c by rw [← hA]; rfl]
    by_cases e : i = t
    · subst e
      rw [if_pos rfl, one_gmul, if_neg (by omega), bx_zero, if_pos (by omega)]
    · rw [if_neg e, zero_gmul, bx_zero]
      by_cases h : i < t
      · rw [if_pos h, if_pos (by omega)]
      · rw [if_neg h, if_neg (by omega)]
/-- The vector of a free column. -/
def kvec (R : List (List B)) (piv : List Nat) (n c : Nat) : List B := setPivs R piv c ((List.replicate n 0).set c 1) piv.length
theorem kvec_length (R : List (List B)) (piv : List Nat) (n c : Nat) : (kvec R piv n c).length = n := by
  unfold kvec
  rw [setPivs_length, List.length_set, List.length_replicate]
theorem mem_piv {piv : List Nat} {d : Nat} : d ∈ piv ↔ ∃ i, i < piv.length ∧ piv.getD i 0 = d := by
  constructor
  · intro h
    obtain ⟨i, hi, rfl⟩ := List.mem_iff_getElem.1 h
    exact ⟨i, hi, by rw [List.getD_eq_getElem?_getD, List.getElem?_eq_getElem hi]; rfl⟩
  · rintro ⟨i, hi, rfl⟩
    rw [List.getD_eq_getElem?_getD, List.getElem?_eq_getElem hi]
    exact List.getElem_mem hi
theorem e_getD {n c d : Nat} (hc : c < n) : ((List.replicate n (0 : B)).set c 1).getD d 0 = if d = c then 1 else 0 := by
  rw [setg_eq, List.length_replicate]
  by_cases h : d = c
  · rw [if_pos ⟨h, hc⟩, if_pos h]
  · rw [if_neg (by omega), if_neg h, List.getD_eq_getElem?_getD, List.getElem?_replicate]
    split <;> rfl
theorem kvec_free {R : List (List B)} {piv : List Nat} {n c d : Nat} (hc : c < n) (hd : d ∉ piv) : (kvec R piv n c).getD d 0 = if d = c then 1 else 0 := by
  unfold kvec
  rw [setPivs_free _ _ _ _ _ _ (fun i hi e => hd (mem_piv.2 ⟨i, hi, e⟩)), e_getD hc]
theorem kvec_dot {M : List (List B)} {n : Nat} (hM : ∀ r ∈ M, r.length = n) {c : Nat} (hc : c < n) (hfree : c ∉ (elimRun M n).2.1) {i : Nat} (hi : i < M.length) : dot n (fn M i) (kvec (elimRun M n).1 (elimRun M n).2.1 n c) = 0 := by
  obtain ⟨F, hF, hf⟩ := elim_ops hM n
  have hform := elim_form hM n
  have hz := hF.zero (mulF n (fn M) (fun t _ => (kvec (elimRun M n).1 (elimRun M n).2.1 n c).getD t 0)) 0 (fun a ha => ?_) i hi
  · exact hz
  · rw [hF.mul, ← hf]
    have e := setPivs_dot hform rfl (c := c) (Nat.le_refl n) (v0 := (List.replicate n 0).set c 1) (by simp) (fun j hj => by
      rw [e_getD hc, if_neg]
      intro e
      exact hfree (mem_piv.2 ⟨j, hj, e⟩)) ha (elimRun M n).2.1.length (Nat.le_refl _)
    show dot n (fn (elimRun M n).1 a) (kvec (elimRun M n).1 (elimRun M n).2.1 n c) = 0
    unfold kvec
    rw [e, dot_set _ hc (by simp) _ (by rw [List.getD_eq_getElem?_getD, List.getElem?_replicate]; split <;> rfl), dot_zeros, zero_bx, gmul_one]
    by_cases h : a < (elimRun M n).2.1.length
    · rw [if_pos h, bx_self]
    · rw [if_neg h, bx_zero]
      exact hform.zero a (by omega) ha c hc
/-- The free columns from c on. -/
def freeCols (piv : List Nat) : Nat → Nat → List Nat
  | 0, _ => []
  | m + 1, c => if c ∈ piv then freeCols piv m (c + 1) else c :: freeCols piv m (c + 1)
def kerL (R : List (List B)) (piv : List Nat) (n m c : Nat) : List (List B) := (freeCols piv m c).map fun d => kvec R piv n d
theorem mem_natInts {l : List Nat} {c : Nat} : (c : Int) ∈ natInts l ↔ c ∈ l := by
  unfold natInts
  rw [List.mem_map]
  constructor
  · rintro ⟨a, h, e⟩
    have : a = c := by omega
    rw [← this]; exact h
  · intro h; exact ⟨c, h, rfl⟩
theorem rd_nat {l : List Int} {i : Nat} (h : i < l.length) : rd l (i : Int) = l[i] := by
  unfold rd
  rw [Int.toNat_natCast, List.getD_eq_getElem?_getD, List.getElem?_eq_getElem h]; rfl
theorem index_l0 (l : List Int) (hl : l.length ≤ 1000000) (c : Int) (n : Nat) : ∀ k i, i + n = l.length → n < k → (∀ j (h : j < l.length), j < i → l[j] ≠ c) → ∃ r, slices_Index_int_int.l0 k l c (l.length : Int) (i : Int) = some r ∧ (r ≥ 0 ↔ c ∈ l) := by
  induction n with
  | zero =>
    intro k i hi hk hno
    obtain ⟨k, rfl⟩ : ∃ j, k = j + 1 := ⟨k - 1, by omega⟩
    refine ⟨-1, ?_, ?_⟩
    · simp only [slices_Index_int_int.l0]
      rw [if_neg (by omega)]
    · constructor
      · intro h; omega
      · intro h
        obtain ⟨j, hj, e⟩ := List.mem_iff_getElem.1 h
        exact absurd e (hno j hj (by omega))
  | succ n ih =>
    intro k i hi hk hno
    obtain ⟨k, rfl⟩ : ∃ j, k = j + 1 := ⟨k - 1, by omega⟩
    have hi' : i < l.length := by omega
    simp only [slices_Index_int_int.l0]
    rw [if_pos (by omega), if_pos (by omega), if_pos (by omega), rd_nat hi']
    by_cases e : c = l[i]
    · refine ⟨(i : Int), by rw [if_pos e], ?_⟩
      constructor
      · intro _; rw [e]; exact List.getElem_mem hi'
      · intro _; omega
    · rw [if_neg e, wrap_nx' _ (by omega)]
      refine ih k (i + 1) (by omega) (by omega) (fun j h h2 => ?_)
      by_cases ej : j = i
      · subst ej; exact fun x => e x.symm
      · exact hno j h (by omega)
theorem contains_b (l : List Nat) (hl : l.length ≤ 1000000) (c : Nat) {k : Nat} (hk : l.length < k) : slices_Contains_int_int.f k (natInts l) (c : Int) = some (decide (c ∈ l)) := by
  have hn : (natInts l).length = l.length := by simp [natInts]
  obtain ⟨r, h1, h2⟩ := index_l0 (natInts l) (by omega) (c : Int) (natInts l).length k 0 (by omega) (by omega) (fun j _ h => absurd h (by omega))
  unfold slices_Contains_int_int.f slices_Index_int_int.f
  rw [show (0 : Int) = ((0 : Nat) : Int) from rfl, h1]
  simp only [Option.bind_some]
  congr 1
  rw [decide_eq_decide, ← mem_natInts]
  exact h2
theorem free_l0 (l : List Int) (hl : l.length ≤ 1000000) (c : Int) (n : Nat) : ∀ k i, i + n = l.length → n < k → (∀ j (h : j < l.length), j < i → l[j] ≠ c) → kinkeeplaw04_free.l0 k l c (i : Int) = some (!decide (c ∈ l)) := by
  induction n with
  | zero =>
    intro k i hi hk hno
    obtain ⟨k, rfl⟩ : ∃ j, k = j + 1 := ⟨k - 1, by omega⟩
    have hc : ¬ c ∈ l := by
      intro h
      obtain ⟨j, hj, e⟩ := List.mem_iff_getElem.1 h
      exact hno j hj (by omega) e
    simp only [kinkeeplaw04_free.l0]
    rw [if_neg (by omega), decide_eq_false hc]
    rfl
  | succ n ih =>
    intro k i hi hk hno
    obtain ⟨k, rfl⟩ : ∃ j, k = j + 1 := ⟨k - 1, by omega⟩
    have hi' : i < l.length := by omega
    simp only [kinkeeplaw04_free.l0]
    rw [if_pos (by omega), if_pos (by omega), rd_nat hi']
    by_cases e : l[i] = c
    · have hc : c ∈ l := by rw [← e]; exact List.getElem_mem hi'
      rw [if_pos e, decide_eq_true hc]
      rfl
    · rw [if_neg e, wrap_nx' _ (by omega)]
      refine ih k (i + 1) (by omega) (by omega) (fun j h h2 => ?_)
      by_cases ej : j = i
      · subst ej; exact e
      · exact hno j h (by omega)
theorem free_b (l : List Nat) (hl : l.length ≤ 1000000) (c : Nat) {k : Nat} (hk : l.length < k) : kinkeeplaw04_free.f k (natInts l) (c : Int) = some (!decide (c ∈ l)) := by
  have hn : (natInts l).length = l.length := by simp [natInts]
  unfold kinkeeplaw04_free.f
  rw [show (0 : Int) = ((0 : Nat) : Int) from rfl, free_l0 (natInts l) (by omega) (c : Int) (natInts l).length k 0 (by omega) (by omega) (fun j _ h => absurd h (by omega))]
  congr 2
  rw [decide_eq_decide, mem_natInts]
def colM (v : List B) : List (List B) := v.map fun x => [x]
theorem colM_length (v : List B) : (colM v).length = v.length := by simp [colM]
theorem colM_rows (v : List B) : ∀ r ∈ colM v, r.length = 1 := by
  intro r hr
  obtain ⟨x, _, rfl⟩ := List.mem_map.1 hr
  rfl
theorem colM_fn (v : List B) (t : Nat) : fn (colM v) t 0 = v.getD t 0 := by
  unfold fn colM
  by_cases h : t < v.length
  · have e : (v.map fun x => [x]).getD t [] = [v[t]] := by
      rw [List.getD_eq_getElem?_getD, List.getElem?_map, List.getElem?_eq_getElem h]; rfl
    rw [e, List.getD_eq_getElem?_getD (l := v), List.getElem?_eq_getElem h]; rfl
  · have e : (v.map fun x => [x]).getD t [] = [] := by
      rw [List.getD_eq_getElem?_getD, List.getElem?_map, List.getElem?_eq_none (by omega)]; rfl
    rw [e, List.getD_eq_getElem?_getD (l := v), List.getElem?_eq_none (by omega)]; rfl
theorem column_l0 (v : List B) (hv : v.length ≤ 1000000) (n : Nat) : ∀ k i, i + n = v.length → n < k → kinkeeplaw04_column.l0 k (up v) (up2 (colM (v.take i))) (i : Int) = some (up2 (colM v)) := by
  induction n with
  | zero =>
    intro k i hi hk
    obtain ⟨k, rfl⟩ : ∃ j, k = j + 1 := ⟨k - 1, by omega⟩
    simp only [kinkeeplaw04_column.l0]
    rw [if_neg (by rw [up_length]; omega), List.take_of_length_le (by omega)]
  | succ n ih =>
    intro k i hi hk
    obtain ⟨k, rfl⟩ : ∃ j, k = j + 1 := ⟨k - 1, by omega⟩
    have hi' : i < v.length := by omega
    simp only [kinkeeplaw04_column.l0]
    rw [if_pos (by rw [up_length]; omega), if_pos (by omega), if_pos (by rw [up2_length, colM_length, List.length_take]; omega), wrap_nx' _ (by omega), getD_up, ← ih k (i + 1) (by omega) (by omega), List.take_succ_eq_append_getElem hi']
    congr 1
    unfold colM
    rw [List.map_append, up2_append, List.getD_eq_getElem?_getD, List.getElem?_eq_getElem hi']
    rfl
theorem column_b (v : List B) (hv : v.length ≤ 1000000) {k : Nat} (hk : v.length < k) : kinkeeplaw04_column.f k (up v) = some (up2 (colM v)) :=
  column_l0 v hv v.length k 0 (by omega) hk
theorem colsN_colM {v : List B} (h : 0 < v.length) : colsN (colM v) = 1 := by
  cases v with
  | nil => simp at h
  | cons a t => rfl
section
variable {M R : List (List B)} {piv : List Nat} {n : Nat}
theorem kernel_l1 (hR : ∀ r ∈ R, r.length = n) (hn : n ≤ 1000000) (hpl : piv.length ≤ R.length) (hpn : ∀ i, i < piv.length → piv.getD i 0 < n) (hrl : R.length ≤ 1000000) {acc : List (List B)} (hacc : acc.length ≤ 1000000) {c : Nat} (hc : c < n) {res : List (List Int) × Int}
    (next : Evt (fun K => matrix_Kernel.l0 K (up2 M) (up2 R) (natInts piv) (up2 (acc ++ [kvec R piv n c])) (n : Int) ((c + 1 : Nat) : Int)) res) (m : Nat) :
    ∀ t, t + m = piv.length → Evt (fun K => matrix_Kernel.l1 K (up2 M) (up2 R) (natInts piv) (up2 acc) (c : Int) (up (setPivs R piv c ((List.replicate n 0).set c 1) t)) (n : Int) (c : Int) (natInts piv) (piv.length : Int) (t : Int)) res := by
  have hnl : (natInts piv).length = piv.length := by simp [natInts]
  induction m with
  | zero =>
    intro t ht
    obtain rfl : t = piv.length := by omega
    refine next.succ fun K _ => ?_
    simp only [matrix_Kernel.l1]
    rw [if_neg (by omega), if_pos (by rw [up2_length]; omega), wrap_nx' _ (by omega), up2_append]
    rfl
  | succ m ih =>
    intro t ht
    refine (ih (t + 1) (by omega)).succ fun K _ => ?_
    have hp := hpn t (by omega)
    have l1 : (R.getD t []).length = n := hR _ (getD_mem' (by omega))
    simp only [matrix_Kernel.l1]
    rw [if_pos (by omega), if_pos (by omega), if_pos (by omega), if_pos (by rw [up2_length]; omega), if_pos (by omega), rd_L1_up2, if_pos (by rw [up_length]; omega), rd_natInts, if_pos (by omega), if_pos (by rw [up_length, setPivs_length, List.length_set, List.length_replicate]; omega), getD_up, wrap_nx' _ (by omega), Int.toNat_natCast, set_up, setPivs_succ]
theorem kernel_l0 (hM : colsN M = n) (hR : ∀ r ∈ R, r.length = n) (hn : n ≤ 1000000) (hpl : piv.length ≤ R.length) (hpn : ∀ i, i < piv.length → piv.getD i 0 < n) (hrl : R.length ≤ 1000000) (m : Nat) :
    ∀ c acc, c + m = n → acc.length ≤ c → Evt (fun K => matrix_Kernel.l0 K (up2 M) (up2 R) (natInts piv) (up2 acc) (n : Int) (c : Int)) (up2 (acc ++ kerL R piv n m c), 0) := by
  induction m with
  | zero =>
    intro c acc hc _
    refine Evt.of 1 fun K hK => ?_
    obtain ⟨K, rfl⟩ : ∃ j, K = j + 1 := ⟨K - 1, by omega⟩
    simp only [matrix_Kernel.l0]
    rw [if_neg (by omega)]
    simp [kerL, freeCols]
  | succ m ih =>
    intro c acc hc hacc
    by_cases e : c ∈ piv
    · obtain ⟨K, h⟩ := ih (c + 1) acc (by omega) (by omega)
      refine ⟨K + piv.length + 2, fun k hk => ?_⟩
      obtain ⟨k, rfl⟩ : ∃ j, k = j + 1 := ⟨k - 1, by omega⟩
      simp only [matrix_Kernel.l0]
      rw [if_pos (by omega), contains_b piv (by omega) c (by omega), decide_eq_true e]
      simp only [Option.bind_some, if_true]
      rw [wrap_nx' _ (by omega), show kerL R piv n (m + 1) c = kerL R piv n m (c + 1) by simp [kerL, freeCols, e]]
      exact h k (by omega)
    · have hnext := ih (c + 1) (acc ++ [kvec R piv n c]) (by omega) (by simp; omega)
      obtain ⟨K, h⟩ := kernel_l1 hR hn hpl hpn hrl (by omega) (by omega) hnext piv.length 0 (by omega)
      refine ⟨K + piv.length + 2, fun k hk => ?_⟩
      obtain ⟨k, rfl⟩ : ∃ j, k = j + 1 := ⟨k - 1, by omega⟩
      have h := h k (by omega)
      simp only [matrix_Kernel.l0]
      rw [if_pos (by omega), contains_b piv (by omega) c (by omega), decide_eq_false e, columns_eq, colsN_up2, hM]
      simp only [Option.bind_some]
      rw [if_neg (by simp), if_pos (by omega), if_pos (by omega), if_pos (by omega), if_pos (by rw [List.length_replicate]; omega), Int.toNat_natCast, Int.toNat_natCast, up_zeros, ← b2i_one, set_up, show (natInts piv).length = piv.length by simp [natInts]]
      rw [show kerL R piv n (m + 1) c = kvec R piv n c :: kerL R piv n m (c + 1) by simp [kerL, freeCols, e]]
      rw [List.append_assoc] at h
      exact h
end
def kerM (M : List (List B)) : List (List B) := kerL (elimRun M (colsN M)).1 (elimRun M (colsN M)).2.1 (colsN M) (colsN M) 0
theorem piv_lt (M : List (List B)) (n : Nat) : ∀ i, i < (elimRun M n).2.1.length → (elimRun M n).2.1.getD i 0 < n := by
  intro i hi
  refine elimRun_pivlt M n _ ?_
  rw [List.getD_eq_getElem?_getD, List.getElem?_eq_getElem hi]
  exact List.getElem_mem hi
theorem kernel_b {M : List (List B)} (hv : validB M = true) : Evt (fun K => matrix_Kernel.f K (up2 M)) (up2 (kerM M), 0) := by
  obtain ⟨h1, h2, h3⟩ := validB_lim hv
  have hr := elimRun_rows h3 (colsN M)
  have hl := elimRun_length M (colsN M)
  obtain ⟨K, h⟩ := kernel_l0 (M := M) rfl hr (by omega) (by rw [hl]; exact elimRun_piv M _) (piv_lt M _) (by omega) (colsN M) 0 [] (by omega) (by simp)
  refine ⟨K, fun k hk => ?_⟩
  unfold matrix_Kernel.f
  rw [reduce_up M hv]
  simp only [Option.bind_some, if_true]
  rw [columns_eq, colsN_up2]
  simp only [Option.bind_some]
  exact h k hk
end Go.Proofs.Ytpkghpljgjlmjaa.K
/- The plain law of MatrixKernels: what the printed function computes is true. -/
namespace Go.Proofs.Ytpkghpljgjlmjaa.Pure
open Go.RowKit Go.Proofs.Ytpkghpljgjlmjaa.K Kin
set_option linter.unusedVariables false
section
variable {M K : List (List B)} {piv : List Nat} {n : Nat}
theorem kernels_l1 (hM : ∀ r ∈ M, r.length = n) (hcol : colsN M = n) (hn : n ≤ 64) (hml : M.length ≤ 64) (hpl : piv.length ≤ 64) {at_ c : Nat} (hat : at_ < K.length) (hkl : K.length ≤ 64) (hc : c < n) (hv : (K.getD at_ []).length = n)
    (hfree : ∀ d, d ∉ piv → (K.getD at_ []).getD d 0 = if d = c then 1 else 0) (hdot : ∀ i, i < M.length → dot n (fn M i) (K.getD at_ []) = 0)
    (next : Evt (fun k => kinkeeplaw04_MatrixKernels.l0 k (up2 M) (up2 K) 0 (natInts piv) ((at_ + 1 : Nat) : Int) ((c + 1 : Nat) : Int)) true) (j : Nat) :
    ∀ d, d + j = n → Evt (fun k => kinkeeplaw04_MatrixKernels.l1 k (up2 M) (up2 K) 0 (natInts piv) (at_ : Int) (c : Int) (d : Int)) true := by
  induction j with
  | zero =>
    intro d hd
    obtain rfl : d = n := by omega
    have hcl := colM_length (K.getD at_ [])
    have hcc : colsN (colM (K.getD at_ [])) = 1 := colsN_colM (by omega)
    obtain ⟨K1, h1⟩ := refproduct_b (A := M) (C := colM (K.getD at_ [])) (fun r hr => by rw [hM r hr, hcl, hv]) (fun r hr => by rw [hcc]; exact colM_rows _ r hr) (by omega) (by omega) (by omega)
    obtain ⟨K2, h2⟩ := next
    have ez : mulM M (colM (K.getD at_ [])) 1 = List.replicate M.length (List.replicate 1 0) := by
      refine mat_ext (r := M.length) (c := 1) (tabM_length _ _ _) (by simp) (tabM_rows _ _ _) (fun x hx => by rw [List.eq_of_mem_replicate hx]; simp) (fun i j hi hj => ?_)
      obtain rfl : j = 0 := by omega
      rw [mulM, tabM_fn _ hi hj]
      have hr : fn (List.replicate M.length (List.replicate 1 (0 : B))) i 0 = 0 := by
        have e : (List.replicate M.length (List.replicate 1 (0 : B))).getD i [] = List.replicate 1 0 := by
          rw [List.getD_eq_getElem?_getD, List.getElem?_replicate, if_pos hi]; rfl
        unfold fn
        rw [e]; rfl
      rw [hr, ← hdot i hi, hcl, hv]
      unfold mulF dot
      exact bsum_congr fun t _ => by rw [colM_fn]
    refine ⟨K1 + K2 + M.length + d + 200, fun k hk => ?_⟩
    obtain ⟨k, rfl⟩ : ∃ j, k = j + 1 := ⟨k - 1, by omega⟩
    simp only at h1 h2
    simp only [kinkeeplaw04_MatrixKernels.l1]
    rw [refcols_b, colsN_up2, hcol]
    simp only [Option.bind_some]
    rw [if_neg (by omega), if_pos (by omega), if_pos (by rw [up2_length]; omega), rd_L1_up2, column_b _ (by omega) (by omega)]
    simp only [Option.bind_some]
    rw [h1 k (by omega)]
    simp only [Option.bind_some]
    rw [hcc, ez, up2_length, show (1 : Int) = ((1 : Nat) : Int) from rfl, refzero_b _ 1 (by omega) (by omega) (by omega)]
    simp only [Option.bind_some]
    rw [same_self _ (by rw [up2_length]; simp; omega) (by rw [up2_length]; simp; omega)]
    simp only [Option.bind_some, if_true]
    rw [show ((1 : Nat) : Int) = 1 from rfl, wrap_nx' _ (by omega), wrap_nx' _ (by omega)]
    exact h2 k (by omega)
  | succ j ih =>
    intro d hd
    refine (ih (d + 1) (by omega)).succ fun k hk => ?_
    simp only [kinkeeplaw04_MatrixKernels.l1]
    rw [refcols_b, colsN_up2, hcol]
    simp only [Option.bind_some]
    rw [if_pos (by omega), free_b piv (by omega) d (by omega)]
    by_cases hd' : d ∈ piv
    · rw [decide_eq_true hd']
      simp only [Option.bind_some, Bool.not_true, Bool.false_eq_true, if_false]
      rw [wrap_nx' _ (by omega)]
    · rw [decide_eq_false hd']
      simp only [Option.bind_some, Bool.not_false, if_true]
      rw [if_pos (by omega), if_pos (by rw [up2_length]; omega), if_pos (by omega), rd_L1_up2, if_pos (by rw [up_length]; omega), getD_up, hfree d hd', wrap_nx' _ (by omega)]
      by_cases e : d = c
      · subst e
        rw [if_pos rfl, b2i_one]
        simp
      · rw [if_neg e, b2i_zero]
        have e1 : ((c : Int) == (d : Int)) = false := by rw [beq_eq_false_iff_ne]; omega
        have e2 : ¬ (c : Int) = (d : Int) := by omega
        simp [e1, e2]
theorem kernels_l0 (hM : ∀ r ∈ M, r.length = n) (hcol : colsN M = n) (hn : n ≤ 64) (hml : M.length ≤ 64) (hpl : piv.length ≤ 64) (hkl : K.length ≤ 64) {R : List (List B)}
    (hdot : ∀ c, c < n → c ∉ piv → ∀ i, i < M.length → dot n (fn M i) (kvec R piv n c) = 0) (m : Nat) :
    ∀ c at_, c + m = n → at_ ≤ K.length → K.drop at_ = kerL R piv n m c → Evt (fun k => kinkeeplaw04_MatrixKernels.l0 k (up2 M) (up2 K) 0 (natInts piv) (at_ : Int) (c : Int)) true := by
  induction m with
  | zero =>
    intro c at_ hc hat hd
    refine Evt.of 1 fun k hk => ?_
    obtain ⟨k, rfl⟩ : ∃ j, k = j + 1 := ⟨k - 1, by omega⟩
    have hd' : K.drop at_ = [] := hd
    rw [List.drop_eq_nil_iff] at hd'
    simp only [kinkeeplaw04_MatrixKernels.l0]
    rw [refcols_b, colsN_up2, hcol, kinkeeplaw04_awake.f]
    simp only [Option.bind_some]
    rw [if_neg (by omega), if_pos trivial, if_pos trivial, up2_length, show at_ = K.length by omega]
    simp
  | succ m ih =>
    intro c at_ hc hat hd
    by_cases e : c ∈ piv
    · refine (ih (c + 1) at_ (by omega) hat (by rw [hd]; simp [kerL, freeCols, e])).succ fun k hk => ?_
      simp only [kinkeeplaw04_MatrixKernels.l0]
      rw [refcols_b, colsN_up2, hcol]
      simp only [Option.bind_some]
      rw [if_pos (by omega), free_b piv (by omega) c (by omega), decide_eq_true e]
      simp only [Option.bind_some, Bool.not_true, Bool.false_eq_true, if_false]
      rw [wrap_nx' _ (by omega)]
    · have hd2 : K.drop at_ = kvec R piv n c :: kerL R piv n m (c + 1) := by rw [hd]; simp [kerL, freeCols, e]
      have hlt : at_ < K.length := by
        have := congrArg List.length hd2
        simp at this
        omega
      have hcons := List.drop_eq_getElem_cons hlt
      rw [hcons] at hd2
      injection hd2 with hk1 hk2
      have hg : K.getD at_ [] = kvec R piv n c := by rw [row_at hlt, hk1]
      have hnext := ih (c + 1) (at_ + 1) (by omega) hlt hk2
      have h1 := kernels_l1 hM hcol hn hml hpl hlt hkl (c := c) (by omega) (by rw [hg, kvec_length]) (fun d hd => by rw [hg]; exact kvec_free (by omega) hd) (fun i hi => by rw [hg]; exact hdot c (by omega) e i hi) hnext n 0 (by omega)
      refine (h1.succ (F := fun k => kinkeeplaw04_MatrixKernels.j1 k (up2 M) (up2 K) 0 (natInts piv) (at_ : Int) (c : Int) false) fun k hk => ?_).succ fun k hk => ?_
      · simp only [kinkeeplaw04_MatrixKernels.j1]
        rfl
      · simp only [kinkeeplaw04_MatrixKernels.l0]
        rw [refcols_b, colsN_up2, hcol]
        simp only [Option.bind_some]
        rw [if_pos (by omega), free_b piv (by omega) c (by omega), decide_eq_false e]
        simp only [Option.bind_some, Bool.not_false, if_true]
        rw [if_neg (by rw [up2_length]; omega), if_pos (by omega), if_pos (by rw [up2_length]; omega), rd_L1_up2, up_length, hg, kvec_length, show ((n : Int) != (n : Int)) = false by simp]
end
theorem MatrixKernels (M : List (List B)) (hM : (up2 M).length ≤ 9223372036854775807) : ∃ k, kinkeeplaw04_MatrixKernels.f k (up2 M) = some true := by
  by_cases hf : fewB (up2 M) 8 = true
  · obtain ⟨f1, f2⟩ := fewB_true hf
    rw [up2_length] at f1
    by_cases hv : validB M = true
    · obtain ⟨v1, v2, v3⟩ := validB_lim hv
      obtain ⟨K1, h1⟩ := kernel_b hv
      have hkl : (kerM M).length ≤ 64 := by
        have : ∀ m c, (freeCols (elimRun M (colsN M)).2.1 m c).length ≤ m := by
          intro m
          induction m with
          | zero => intro c; exact Nat.le_refl _
          | succ m ih =>
            intro c
            have := ih (c + 1)
            simp only [freeCols]
            split
            · omega
            · simp; omega
        have := this (colsN M) 0
        simp only [kerM, kerL, List.length_map]
        omega
      have hpl : (elimRun M (colsN M)).2.1.length ≤ 64 := by have := elimRun_piv M (colsN M); omega
      obtain ⟨K2, h2⟩ := kernels_l0 (M := M) (K := kerM M) (piv := (elimRun M (colsN M)).2.1) v3 rfl v2 v1 hpl hkl (R := (elimRun M (colsN M)).1) (fun c hc hfree i hi => kvec_dot v3 hc hfree hi) (colsN M) 0 0 (by omega) (by omega) rfl
      simp only at h1 h2
      obtain ⟨k, hk⟩ : ∃ k, K1 + K2 + M.length + 200 ≤ k := ⟨_, Nat.le_refl _⟩
      refine ⟨k, ?_⟩
      unfold kinkeeplaw04_MatrixKernels.f
      rw [show (8 : Int) = ((8 : Nat) : Int) from rfl, few_b (up2 M) 8 hM (by rw [up2_length]; omega), hf]
      simp only [Option.bind_some, if_true]
      rw [h1 _ (by omega), refvalid_b _ (by omega), validB_up2, hv]
      simp only [Option.bind_some, if_true]
      rw [refreduce_up M hv]
      simp only [Option.bind_some]
      exact h2 _ (by omega)
    · have hv' : validB (up2 M) = false := by rw [validB_up2]; simpa using hv
      obtain ⟨k, hk⟩ : ∃ k, (up2 M).length + 200 ≤ k := ⟨_, Nat.le_refl _⟩
      refine ⟨k, ?_⟩
      unfold kinkeeplaw04_MatrixKernels.f
      rw [show (8 : Int) = ((8 : Nat) : Int) from rfl, few_b (up2 M) 8 hM (by omega), hf]
      simp only [Option.bind_some, if_true]
      have hkn : ∀ k, matrix_Kernel.f k (up2 M) = some ([], 1) := by
        intro k
        unfold matrix_Kernel.f matrix_Reduce.f
        rw [hv', if_neg (by simp)]
        simp only [Option.bind_some]
        rw [if_neg (by decide)]
      rw [refvalid_b _ (by omega), hv', hkn, kinkeeplaw04_awake.f]
      simp
  · obtain ⟨k, hk⟩ : ∃ k, (up2 M).length + 200 ≤ k := ⟨_, Nat.le_refl _⟩
    refine ⟨k, ?_⟩
    unfold kinkeeplaw04_MatrixKernels.f
    rw [show (8 : Int) = ((8 : Nat) : Int) from rfl, few_b (up2 M) 8 hM (by omega), show fewB (up2 M) 8 = false by simpa using hf, kinkeeplaw04_awake.f]
    simp
end Go.Proofs.Ytpkghpljgjlmjaa.Pure
