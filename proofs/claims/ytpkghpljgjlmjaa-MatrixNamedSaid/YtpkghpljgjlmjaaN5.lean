/- Walks and plain facts behind one law of package matrix: part 5. No conditions. -/
import Derived.Test.YtpkghpljgjlmjaaN4
-- Lines of this claim, written by the session's own program kprint.py (it runs print.py).
namespace Go.Proofs.Ytpkghpljgjlmjaa.K
open Go.RowKit Go.Proofs.YtpkghpljgjlmjaaW.PrintWords Go.Proofs.YtpkghpljgjlmjaaW.PrintLast Go.Proofs.YtpkghpljgjlmjaaW.PrintMore
attribute [local go_sem] max2_int min2_int max_two min_two max_three min_three max_four min_four   -- for this text's walks alone
set_option linter.unusedVariables false
set_option linter.unusedSimpArgs false

/-! ### kinkeeplaw04_MatrixNamed: function 11 -/
mutual
def kinkeeplaw04_MatrixNamed.j0 : Nat → Int → Int → Int → List (List Int) → List (List Int) → Int → List (List Int) → Int → Bool → Option (Bool)
  | 0, _, _, _, _, _, _, _, _, _ => none
  | k + 1, x0, x1, x2, x7, x8, x9, x10, x11, x31 => if x31 = true then (if (x7.length : Int) = 0 then (kinkeeplaw04_MatrixNamed.j1 k x1 x2 x8 x9 x10 x11) else (some false)) else ((kinkeepref04_Identity.f k x0).bind fun t112 => ((kinkeepref04_Same.f k x7 t112).bind fun t115 => (if t115 = true then (kinkeeplaw04_MatrixNamed.j1 k x1 x2 x8 x9 x10 x11) else (some false))))
def kinkeeplaw04_MatrixNamed.j1 : Nat → Int → Int → List (List Int) → Int → List (List Int) → Int → Option (Bool)
  | 0, _, _, _, _, _, _ => none
  | k + 1, x1, x2, x8, x9, x10, x11 => if x1 < 0 then (kinkeeplaw04_MatrixNamed.j2 k x1 x2 x8 x9 x10 x11 true) else (if x1 > 64 then (kinkeeplaw04_MatrixNamed.j2 k x1 x2 x8 x9 x10 x11 true) else (if x2 < 0 then (kinkeeplaw04_MatrixNamed.j2 k x1 x2 x8 x9 x10 x11 true) else (kinkeeplaw04_MatrixNamed.j2 k x1 x2 x8 x9 x10 x11 (decide (x2 > 64)))))
def kinkeeplaw04_MatrixNamed.j2 : Nat → Int → Int → List (List Int) → Int → List (List Int) → Int → Bool → Option (Bool)
  | 0, _, _, _, _, _, _, _ => none
  | k + 1, x1, x2, x8, x9, x10, x11, x53 => if x53 = true then ((kinkeeplaw04_awake.f).bind fun t116 => (if t116 = true then (if x9 = 1 then (if x11 = 1 then (if (x8.length : Int) = 0 then (some ((x10.length : Int) == 0)) else (some false)) else (some false)) else (some false)) else (some false))) else ((kinkeeplaw04_awake.f).bind fun t117 => (if t117 = true then (if x9 = 0 then (if x11 = 0 then ((kinkeepref04_Cauchy.f k x1 x2).bind fun t118 => ((kinkeepref04_Same.f k x8 t118).bind fun t121 => (if t121 = true then ((kinkeepref04_Vandermonde.f k x1 x2).bind fun t122 => ((kinkeepref04_Same.f k x10 t122).bind fun t125 => (some t125))) else (some false)))) else (some false)) else (some false)) else (some false)))
end
def kinkeeplaw04_MatrixNamed.f (k : Nat) (a0 : Int) (a1 : Int) (a2 : Int) : Option (Bool) := (matrix_Identity.f k a0).bind fun t101 => ((matrix_Cauchy.f a1 a2).bind fun bt104 => ((matrix_Vandermonde.f a1 a2).bind fun bt108 => (if a0 < 0 then (kinkeeplaw04_MatrixNamed.j0 k a0 a1 a2 t101 bt104.1 bt104.2 bt108.1 bt108.2 true) else (kinkeeplaw04_MatrixNamed.j0 k a0 a1 a2 t101 bt104.1 bt104.2 bt108.1 bt108.2 (decide (a0 > 64))))))
theorem kinkeeplaw04_MatrixNamed.mono_l : ∀ k, (∀ y0 y1 y2 y3 y4 y5 y6 y7 y8, LeO (kinkeeplaw04_MatrixNamed.j0 k y0 y1 y2 y3 y4 y5 y6 y7 y8) (kinkeeplaw04_MatrixNamed.j0 (k + 1) y0 y1 y2 y3 y4 y5 y6 y7 y8)) ∧ (∀ y0 y1 y2 y3 y4 y5, LeO (kinkeeplaw04_MatrixNamed.j1 k y0 y1 y2 y3 y4 y5) (kinkeeplaw04_MatrixNamed.j1 (k + 1) y0 y1 y2 y3 y4 y5)) ∧ (∀ y0 y1 y2 y3 y4 y5 y6, LeO (kinkeeplaw04_MatrixNamed.j2 k y0 y1 y2 y3 y4 y5 y6) (kinkeeplaw04_MatrixNamed.j2 (k + 1) y0 y1 y2 y3 y4 y5 y6))
  | 0 => ⟨fun _ _ _ _ _ _ _ _ _ r h => by simp [kinkeeplaw04_MatrixNamed.j0] at h, fun _ _ _ _ _ _ r h => by simp [kinkeeplaw04_MatrixNamed.j1] at h, fun _ _ _ _ _ _ _ r h => by simp [kinkeeplaw04_MatrixNamed.j2] at h⟩
  | k + 1 => by
    obtain ⟨ih0, ih1, ih2⟩ := kinkeeplaw04_MatrixNamed.mono_l k
    refine ⟨?_, ?_, ?_⟩
    · intro y0 y1 y2 y3 y4 y5 y6 y7 y8
      unfold kinkeeplaw04_MatrixNamed.j0
      repeat' first
      | (with_reducible exact ih0 _ _ _ _ _ _ _ _ _)
      | (with_reducible exact ih1 _ _ _ _ _ _)
      | (with_reducible exact ih2 _ _ _ _ _ _ _)
      | (with_reducible exact kinkeepref04_Cauchy.mono _ _ _)
      | (with_reducible exact kinkeepref04_Identity.mono _ _)
      | (with_reducible exact kinkeepref04_Same.mono _ _ _)
      | (with_reducible exact kinkeepref04_Vandermonde.mono _ _ _)
      | (with_reducible exact matrix_Identity.mono _ _)
      | (with_reducible exact LeO.refl _)
      | (with_reducible exact LeO.none _)
      | (with_reducible refine LeO.ite ?_ ?_)
      | (with_reducible refine LeO.bind ?_ (fun _ => ?_))
      | exact ih0 _ _ _ _ _ _ _ _ _
      | exact ih1 _ _ _ _ _ _
      | exact ih2 _ _ _ _ _ _ _
      | exact kinkeepref04_Cauchy.mono _ _ _
      | exact kinkeepref04_Identity.mono _ _
      | exact kinkeepref04_Same.mono _ _ _
      | exact kinkeepref04_Vandermonde.mono _ _ _
      | exact matrix_Identity.mono _ _
      | exact LeO.none _
      | refine LeO.ite ?_ ?_
      | refine LeO.bind ?_ (fun _ => ?_)
    · intro y0 y1 y2 y3 y4 y5
      unfold kinkeeplaw04_MatrixNamed.j1
      repeat' first
      | (with_reducible exact ih0 _ _ _ _ _ _ _ _ _)
      | (with_reducible exact ih1 _ _ _ _ _ _)
      | (with_reducible exact ih2 _ _ _ _ _ _ _)
      | (with_reducible exact kinkeepref04_Cauchy.mono _ _ _)
      | (with_reducible exact kinkeepref04_Identity.mono _ _)
      | (with_reducible exact kinkeepref04_Same.mono _ _ _)
      | (with_reducible exact kinkeepref04_Vandermonde.mono _ _ _)
      | (with_reducible exact matrix_Identity.mono _ _)
      | (with_reducible exact LeO.refl _)
      | (with_reducible exact LeO.none _)
      | (with_reducible refine LeO.ite ?_ ?_)
      | (with_reducible refine LeO.bind ?_ (fun _ => ?_))
      | exact ih0 _ _ _ _ _ _ _ _ _
      | exact ih1 _ _ _ _ _ _
      | exact ih2 _ _ _ _ _ _ _
      | exact kinkeepref04_Cauchy.mono _ _ _
      | exact kinkeepref04_Identity.mono _ _
      | exact kinkeepref04_Same.mono _ _ _
      | exact kinkeepref04_Vandermonde.mono _ _ _
      | exact matrix_Identity.mono _ _
      | exact LeO.none _
      | refine LeO.ite ?_ ?_
      | refine LeO.bind ?_ (fun _ => ?_)
    · intro y0 y1 y2 y3 y4 y5 y6
      unfold kinkeeplaw04_MatrixNamed.j2
      repeat' first
      | (with_reducible exact ih0 _ _ _ _ _ _ _ _ _)
      | (with_reducible exact ih1 _ _ _ _ _ _)
      | (with_reducible exact ih2 _ _ _ _ _ _ _)
      | (with_reducible exact kinkeepref04_Cauchy.mono _ _ _)
      | (with_reducible exact kinkeepref04_Identity.mono _ _)
      | (with_reducible exact kinkeepref04_Same.mono _ _ _)
      | (with_reducible exact kinkeepref04_Vandermonde.mono _ _ _)
      | (with_reducible exact matrix_Identity.mono _ _)
      | (with_reducible exact LeO.refl _)
      | (with_reducible exact LeO.none _)
      | (with_reducible refine LeO.ite ?_ ?_)
      | (with_reducible refine LeO.bind ?_ (fun _ => ?_))
      | exact ih0 _ _ _ _ _ _ _ _ _
      | exact ih1 _ _ _ _ _ _
      | exact ih2 _ _ _ _ _ _ _
      | exact kinkeepref04_Cauchy.mono _ _ _
      | exact kinkeepref04_Identity.mono _ _
      | exact kinkeepref04_Same.mono _ _ _
      | exact kinkeepref04_Vandermonde.mono _ _ _
      | exact matrix_Identity.mono _ _
      | exact LeO.none _
      | refine LeO.ite ?_ ?_
      | refine LeO.bind ?_ (fun _ => ?_)
theorem kinkeeplaw04_MatrixNamed.mono : ∀ a0 a1 a2 k, LeO (kinkeeplaw04_MatrixNamed.f k a0 a1 a2) (kinkeeplaw04_MatrixNamed.f (k + 1) a0 a1 a2) := by
  intro a0 a1 a2 k
  obtain ⟨ih0, ih1, ih2⟩ := kinkeeplaw04_MatrixNamed.mono_l k
  unfold kinkeeplaw04_MatrixNamed.f
  repeat' first
      | (with_reducible exact ih0 _ _ _ _ _ _ _ _ _)
      | (with_reducible exact ih1 _ _ _ _ _ _)
      | (with_reducible exact ih2 _ _ _ _ _ _ _)
      | (with_reducible exact kinkeepref04_Cauchy.mono _ _ _)
      | (with_reducible exact kinkeepref04_Identity.mono _ _)
      | (with_reducible exact kinkeepref04_Same.mono _ _ _)
      | (with_reducible exact kinkeepref04_Vandermonde.mono _ _ _)
      | (with_reducible exact matrix_Identity.mono _ _)
      | (with_reducible exact LeO.refl _)
      | (with_reducible exact LeO.none _)
      | (with_reducible refine LeO.ite ?_ ?_)
      | (with_reducible refine LeO.bind ?_ (fun _ => ?_))
      | exact ih0 _ _ _ _ _ _ _ _ _
      | exact ih1 _ _ _ _ _ _
      | exact ih2 _ _ _ _ _ _ _
      | exact kinkeepref04_Cauchy.mono _ _ _
      | exact kinkeepref04_Identity.mono _ _
      | exact kinkeepref04_Same.mono _ _ _
      | exact kinkeepref04_Vandermonde.mono _ _ _
      | exact matrix_Identity.mono _ _
      | exact LeO.none _
      | refine LeO.ite ?_ ?_
      | refine LeO.bind ?_ (fun _ => ?_)
set_option maxHeartbeats 8000000 in
set_option maxRecDepth 100000 in
theorem kinkeeplaw04_MatrixNamed.calls (k : Nat) (a0 : Int) (a1 : Int) (a2 : Int) (r : Bool) (w : World) (h : kinkeeplaw04_MatrixNamed.f k a0 a1 a2 = some r) :
    Calls Try.prog 11 #[.int .i64 a0, .int .i64 a1, .int .i64 a2] w fun e w' => e = .returned (.bool r) ∧ Below w.heap.size w w' := by
  have HB := Aside0.mk (Below.refl w.heap.size w)
  have H : ((matrix_Identity.f k a0).bind fun t101 => ((matrix_Cauchy.f a1 a2).bind fun bt104 => ((matrix_Vandermonde.f a1 a2).bind fun bt108 => (if a0 < 0 then (kinkeeplaw04_MatrixNamed.j0 k a0 a1 a2 t101 bt104.1 bt104.2 bt108.1 bt108.2 true) else (kinkeeplaw04_MatrixNamed.j0 k a0 a1 a2 t101 bt104.1 bt104.2 bt108.1 bt108.2 (decide (a0 > 64))))))) = some r := h
  clear h
  replace H := Option.bind_eq_some_iff.mp H
  obtain ⟨t101, A40, H⟩ := H
  replace H : ((matrix_Cauchy.f a1 a2).bind fun bt104 => ((matrix_Vandermonde.f a1 a2).bind fun bt108 => (if a0 < 0 then (kinkeeplaw04_MatrixNamed.j0 k a0 a1 a2 t101 bt104.1 bt104.2 bt108.1 bt108.2 true) else (kinkeeplaw04_MatrixNamed.j0 k a0 a1 a2 t101 bt104.1 bt104.2 bt108.1 bt108.2 (decide (a0 > 64)))))) = some r := H
  have A4 := Aside0.mk A40
  clear A40
  replace H := Option.bind_eq_some_iff.mp H
  obtain ⟨⟨t104, t105⟩, A50, H⟩ := H
  replace H : ((matrix_Vandermonde.f a1 a2).bind fun bt108 => (if a0 < 0 then (kinkeeplaw04_MatrixNamed.j0 k a0 a1 a2 t101 t104 t105 bt108.1 bt108.2 true) else (kinkeeplaw04_MatrixNamed.j0 k a0 a1 a2 t101 t104 t105 bt108.1 bt108.2 (decide (a0 > 64))))) = some r := H
  have A5 := Aside0.mk A50
  clear A50
  replace H := Option.bind_eq_some_iff.mp H
  obtain ⟨⟨t108, t109⟩, A60, H⟩ := H
  replace H : (if a0 < 0 then (kinkeeplaw04_MatrixNamed.j0 k a0 a1 a2 t101 t104 t105 t108 t109 true) else (kinkeeplaw04_MatrixNamed.j0 k a0 a1 a2 t101 t104 t105 t108 t109 (decide (a0 > 64)))) = some r := H
  have A6 := Aside0.mk A60
  clear A60
  have HC7 := Aside0.mk H
  clear H
  go_enter Try.func11, Try.ntmps11
  go_upto_region 4 with (first | ((with_reducible refine gate_callee (f := 48) rfl ?_); refine goesL_ (some 13) rfl rfl Try.func48 (by kernel_rfl) rfl #[.int .i64 a0] rfl (by (try simp only [List.map_toArray, List.map_cons, List.map_nil]); first | done | rfl | (simp only [List.length_drop, List.length_take]; rfl)) ?_; (with_reducible refine (matrix_Identity.calls k a0 t101 _ A4.out).mono ?_); rintro e w8 ⟨v102, rfl, ho0, hb⟩; refine ⟨_, rfl, ?_⟩; have n0_ := Aside0.mk (Kd.S_lower ho0 (below_size (by repeat (first | (with_reducible first | exact HB.out | apply below_alloc | apply pw_below_drewN | apply below_drew1) | exact HB.out)))); have n1_ := Aside0.mk (below_step (by repeat (first | (with_reducible first | exact HB.out | apply below_alloc | apply pw_below_drewN | apply below_drew1) | exact HB.out)) hb); clear HB; have HO103 := n0_; have HB := n1_; clear n0_ n1_; (try clear hb); (try clear hb2); (try clear hk); (try clear hi); (try clear ho0)) | ((with_reducible refine gate_callee (f := 49) rfl ?_); refine goesL_ (some 17) rfl rfl Try.func49 (by kernel_rfl) rfl #[.int .i64 a1, .int .i64 a2] rfl (by (try simp only [List.map_toArray, List.map_cons, List.map_nil]); first | done | rfl | (simp only [List.length_drop, List.length_take]; rfl)) ?_; (with_reducible refine (matrix_Cauchy.calls a1 a2 t104 t105 _ A5.out).mono ?_); rintro e w9 ⟨v106, rfl, ho0, hb⟩; refine ⟨_, rfl, ?_⟩; have n0_ := Aside0.mk (Kd.S_elder' (by (with_reducible repeat (first | apply Kd.S_alloc | apply Kd.S_drewN | apply Kd.S_drew)); exact HO103.out) (Kd.S_base ho0) hb); have n1_ := Aside0.mk (Kd.S_lower (Kd.S_new' ho0 (Kd.S_lt (by (with_reducible repeat (first | apply Kd.S_alloc | apply Kd.S_drewN | apply Kd.S_drew)); exact HO103.out))) (below_size (by repeat (first | (with_reducible first | exact HB.out | apply below_alloc | apply pw_below_drewN | apply below_drew1) | exact HB.out)))); have n2_ := Aside0.mk (below_step (by repeat (first | (with_reducible first | exact HB.out | apply below_alloc | apply pw_below_drewN | apply below_drew1) | exact HB.out)) hb); clear HO103; clear HB; have HO103 := n0_; have HO107 := n1_; have HB := n2_; clear n0_ n1_ n2_; (try clear hb); (try clear hb2); (try clear hk); (try clear hi); (try clear ho0)) | ((with_reducible refine gate_callee (f := 50) rfl ?_); refine goesL_ (some 23) rfl rfl Try.func50 (by kernel_rfl) rfl #[.int .i64 a1, .int .i64 a2] rfl (by (try simp only [List.map_toArray, List.map_cons, List.map_nil]); first | done | rfl | (simp only [List.length_drop, List.length_take]; rfl)) ?_; (with_reducible refine (matrix_Vandermonde.calls a1 a2 t108 t109 _ A6.out).mono ?_); rintro e w10 ⟨v110, rfl, ho0, hb⟩; refine ⟨_, rfl, ?_⟩; have n0_ := Aside0.mk (Kd.S_elder' (by (with_reducible repeat (first | apply Kd.S_alloc | apply Kd.S_drewN | apply Kd.S_drew)); exact HO103.out) (Kd.S_base ho0) hb); have n1_ := Aside0.mk (Kd.S_elder' (by (with_reducible repeat (first | apply Kd.S_alloc | apply Kd.S_drewN | apply Kd.S_drew)); exact HO107.out) (Kd.S_base ho0) hb); have n2_ := Aside0.mk (Kd.S_lower (Kd.S_new' (Kd.S_new' ho0 (Kd.S_lt (by (with_reducible repeat (first | apply Kd.S_alloc | apply Kd.S_drewN | apply Kd.S_drew)); exact HO103.out))) (Kd.S_lt (by (with_reducible repeat (first | apply Kd.S_alloc | apply Kd.S_drewN | apply Kd.S_drew)); exact HO107.out))) (below_size (by repeat (first | (with_reducible first | exact HB.out | apply below_alloc | apply pw_below_drewN | apply below_drew1) | exact HB.out)))); have n3_ := Aside0.mk (below_step (by repeat (first | (with_reducible first | exact HB.out | apply below_alloc | apply pw_below_drewN | apply below_drew1) | exact HB.out)) hb); clear HO103; clear HO107; clear HB; have HO103 := n0_; have HO107 := n1_; have HO111 := n2_; have HB := n3_; clear n0_ n1_ n2_ n3_; (try clear hb); (try clear hb2); (try clear hk); (try clear hi); (try clear ho0)))
  (try simp only [Act.put, List.setIfInBounds_toArray, List.set_cons_zero, List.set_cons_succ])
  go_cut [31] (fun v31 wc => ∃ (kq : Nat) (x31_6 : Bool), v31 = .bool x31_6 ∧ Aside0 (kinkeeplaw04_MatrixNamed.j0 kq a0 a1 a2 t101 t104 t105 t108 t109 x31_6 = some r) ∧ Aside0 (kq ≤ k) ∧ Aside0 (Kd.S (Kd.slice 5 (Kd.int .u8)) 34 wc w.heap.size (fun k_ => some k_ ≠ (v106 : Value).ownBlock ∧ some k_ ≠ (v110 : Value).ownBlock) v102 t101) ∧ Aside0 (Kd.S (Kd.slice 5 (Kd.int .u8)) 34 wc w.heap.size (fun k_ => some k_ ≠ (v102 : Value).ownBlock ∧ some k_ ≠ (v110 : Value).ownBlock) v106 t104) ∧ Aside0 (Kd.S (Kd.slice 5 (Kd.int .u8)) 34 wc w.heap.size (fun k_ => some k_ ≠ (v102 : Value).ownBlock ∧ some k_ ≠ (v106 : Value).ownBlock) v110 t108) ∧ Aside0 (Below w.heap.size w wc))
  case first =>
    have H := HC7.out
    clear HC7
    by_cases c11 : a0 < 0
    · rw [if_pos c11] at H
      have c11b0 : decide (a0 < 0) = true := decide_eq_true c11
      clear c11
      (first | rw [c11b0] | rw [c11b1] | rw [c11b2] | (simp only [i64_w, i32_w]; rw [c11b0]) | skip)
      have H' := Aside0.mk H
      clear H
      go_wp2
      go_meet
      case rel => exact ⟨_, (true), (by first | rfl | (simp; done) | (simp [*]; done)), H', ⟨by first | omega | exact Nat.le_refl _⟩, ⟨by (with_reducible repeat (first | apply Kd.S_alloc | apply Kd.S_drewN | apply Kd.S_drew)); exact Kd.S_mono HO103.out (fun _ hk => ⟨hk.1.2, hk.2⟩)⟩, ⟨by (with_reducible repeat (first | apply Kd.S_alloc | apply Kd.S_drewN | apply Kd.S_drew)); exact Kd.S_mono HO107.out (fun _ hk => ⟨hk.1.2, hk.2⟩)⟩, ⟨by (with_reducible repeat (first | apply Kd.S_alloc | apply Kd.S_drewN | apply Kd.S_drew)); exact Kd.S_mono HO111.out (fun _ hk => ⟨hk.1.2, hk.2⟩)⟩, ⟨by repeat (first | (with_reducible first | exact HB.out | apply below_alloc | apply pw_below_drewN | apply below_drew1) | exact HB.out)⟩⟩
    · rw [if_neg c11] at H
      have c11b0 : decide (a0 < 0) = false := decide_eq_false c11
      clear c11
      (first | rw [c11b0] | rw [c11b1] | rw [c11b2] | (simp only [i64_w, i32_w]; rw [c11b0]) | skip)
      have H' := Aside0.mk H
      clear H
      go_wp2
      go_meet
      case rel => exact ⟨_, (decide (a0 > 64)), (by first | rfl | (simp; done) | (simp [*]; done)), H', ⟨by first | omega | exact Nat.le_refl _⟩, ⟨by (with_reducible repeat (first | apply Kd.S_alloc | apply Kd.S_drewN | apply Kd.S_drew)); exact Kd.S_mono HO103.out (fun _ hk => ⟨hk.1.2, hk.2⟩)⟩, ⟨by (with_reducible repeat (first | apply Kd.S_alloc | apply Kd.S_drewN | apply Kd.S_drew)); exact Kd.S_mono HO107.out (fun _ hk => ⟨hk.1.2, hk.2⟩)⟩, ⟨by (with_reducible repeat (first | apply Kd.S_alloc | apply Kd.S_drewN | apply Kd.S_drew)); exact Kd.S_mono HO111.out (fun _ hk => ⟨hk.1.2, hk.2⟩)⟩, ⟨by repeat (first | (with_reducible first | exact HB.out | apply below_alloc | apply pw_below_drewN | apply below_drew1) | exact HB.out)⟩⟩
  case rest =>
    clear HC7
    try clear c1
    try clear p2
    try clear c4
    try clear c5
    try clear c11
    try clear c11b0
    obtain ⟨kq, x31_6, rfl, HA, HJ6, HO_7, HO_8, HO_10, HB⟩ := hcut
    cases kq with
    | zero => exact absurd HA.out (by simp [kinkeeplaw04_MatrixNamed.j0])
    | succ kj6 =>
      have H := HA.out
      clear HA
      simp only [kinkeeplaw04_MatrixNamed.j0] at H
      have HC12 := Aside0.mk H
      clear H
      go_upto_if 31 with (fail)
      go_cut [] (fun wc => ∃ (kq : Nat), Aside0 (kinkeeplaw04_MatrixNamed.j1 kq a1 a2 t104 t105 t108 t109 = some r) ∧ Aside0 (kq ≤ kj6) ∧ Aside0 (Kd.S (Kd.slice 5 (Kd.int .u8)) 34 wc w.heap.size (fun k_ => some k_ ≠ (v110 : Value).ownBlock) v106 t104) ∧ Aside0 (Kd.S (Kd.slice 5 (Kd.int .u8)) 34 wc w.heap.size (fun k_ => some k_ ≠ (v106 : Value).ownBlock) v110 t108) ∧ Aside0 (Below w.heap.size w wc))
      case first =>
        have H := HC12.out
        clear HC12
        by_cases c13 : x31_6 = true
        · subst c13
          have H1 : (if (t101.length : Int) = 0 then (kinkeeplaw04_MatrixNamed.j1 kj6 a1 a2 t104 t105 t108 t109) else (some false)) = some r := by rw [if_pos rfl] at H; exact H
          clear H
          have H := H1
          clear H1
          by_cases c14 : (t101.length : Int) = 0
          · rw [if_pos c14] at H
            have c14b0 : ((t101.length : Int) == 0) = true := beq_iff_eq.mpr c14
            have c14b1 : ((t101.length : Int) != 0) = false := bne_eq_false_iff_eq.mpr c14
            clear c14
            (first | rw [c14b0] | rw [c14b1] | rw [c14b2] | (simp only [i64_w, i32_w]; rw [c14b0]) | skip)
            have H' := Aside0.mk H
            clear H
            obtain ⟨Ao15, co15, eo15⟩ := Kd.S_slice HO_7.out
            subst eo15
            go_wp2
            go_meet
            case rel => exact ⟨_, H', ⟨by have := HJ6.out; first | omega | exact Nat.le_refl _⟩, ⟨by (with_reducible repeat (first | apply Kd.S_alloc | apply Kd.S_drewN | apply Kd.S_drew)); exact Kd.S_mono HO_8.out (fun _ hk => hk.2)⟩, ⟨by (with_reducible repeat (first | apply Kd.S_alloc | apply Kd.S_drewN | apply Kd.S_drew)); exact Kd.S_mono HO_10.out (fun _ hk => hk.2)⟩, ⟨by repeat (first | (with_reducible first | exact HB.out | apply below_alloc | apply pw_below_drewN | apply below_drew1) | exact HB.out)⟩⟩
          · rw [if_neg c14] at H
            have c14b0 : ((t101.length : Int) == 0) = false := beq_eq_false_iff_ne.mpr c14
            have c14b1 : ((t101.length : Int) != 0) = true := bne_iff_ne.mpr c14
            have c14b2 : ¬ (t101 = []) := fun h_ => c14 (by rw [h_]; rfl)
            (first | rw [c14b0] | rw [c14b1] | rw [c14b2] | (simp only [i64_w, i32_w]; rw [c14b0]) | skip)
            obtain rfl := Option.some.inj H
            obtain ⟨Ao16, co16, eo16⟩ := Kd.S_slice HO_7.out
            subst eo16
            go_wp2
            go_ret
            exact ⟨by first | rfl | (simp [errW_none, errW_some] <;> rfl) | (simp [*, errW_none, errW_some] <;> rfl), by repeat (first | (with_reducible first | exact HB.out | apply below_alloc | apply pw_below_drewN | apply below_drew1) | exact HB.out)⟩
        · replace c13 := Bool.eq_false_iff.mpr c13
          subst c13
          have H1 : ((kinkeepref04_Identity.f kj6 a0).bind fun t112 => ((kinkeepref04_Same.f kj6 t101 t112).bind fun t115 => (if t115 = true then (kinkeeplaw04_MatrixNamed.j1 kj6 a1 a2 t104 t105 t108 t109) else (some false)))) = some r := by rw [if_neg (show ¬ (false = true) by decide)] at H; exact H
          clear H
          have H := H1
          clear H1
          replace H := Option.bind_eq_some_iff.mp H
          obtain ⟨t112, A170, H⟩ := H
          replace H : ((kinkeepref04_Same.f kj6 t101 t112).bind fun t115 => (if t115 = true then (kinkeeplaw04_MatrixNamed.j1 kj6 a1 a2 t104 t105 t108 t109) else (some false))) = some r := H
          have A17 := Aside0.mk A170
          clear A170
          replace H := Option.bind_eq_some_iff.mp H
          obtain ⟨t115, A180, H⟩ := H
          replace H : (if t115 = true then (kinkeeplaw04_MatrixNamed.j1 kj6 a1 a2 t104 t105 t108 t109) else (some false)) = some r := H
          have A18 := Aside0.mk A180
          clear A180
          by_cases c19 : t115 = true
          · subst c19
            have H1 : (kinkeeplaw04_MatrixNamed.j1 kj6 a1 a2 t104 t105 t108 t109) = some r := by rw [if_pos rfl] at H; exact H
            clear H
            have H := H1
            clear H1
            have H' := Aside0.mk H
            clear H
            go_wp2_with (first | ((with_reducible refine gate_callee (f := 51) rfl ?_); refine goesL_ (some 37) rfl rfl Try.func51 (by kernel_rfl) rfl #[.int .i64 a0] rfl (by (try simp only [List.map_toArray, List.map_cons, List.map_nil]); first | done | rfl | (simp only [List.length_drop, List.length_take]; rfl)) ?_; (with_reducible refine (kinkeepref04_Identity.calls kj6 a0 t112 _ A17.out).mono ?_); rintro e w20 ⟨v113, rfl, ho0, hb⟩; refine ⟨_, rfl, ?_⟩; have n0_ := Aside0.mk (Kd.S_elder' (by (with_reducible repeat (first | apply Kd.S_alloc | apply Kd.S_drewN | apply Kd.S_drew)); exact HO_7.out) (Kd.S_base ho0) hb); have n1_ := Aside0.mk (Kd.S_elder' (by (with_reducible repeat (first | apply Kd.S_alloc | apply Kd.S_drewN | apply Kd.S_drew)); exact HO_8.out) (Kd.S_base ho0) hb); have n2_ := Aside0.mk (Kd.S_elder' (by (with_reducible repeat (first | apply Kd.S_alloc | apply Kd.S_drewN | apply Kd.S_drew)); exact HO_10.out) (Kd.S_base ho0) hb); have n3_ := Aside0.mk (Kd.S_lower (Kd.S_new' (Kd.S_new' (Kd.S_new' ho0 (Kd.S_lt (by (with_reducible repeat (first | apply Kd.S_alloc | apply Kd.S_drewN | apply Kd.S_drew)); exact HO_7.out))) (Kd.S_lt (by (with_reducible repeat (first | apply Kd.S_alloc | apply Kd.S_drewN | apply Kd.S_drew)); exact HO_8.out))) (Kd.S_lt (by (with_reducible repeat (first | apply Kd.S_alloc | apply Kd.S_drewN | apply Kd.S_drew)); exact HO_10.out))) (below_size (by repeat (first | (with_reducible first | exact HB.out | apply below_alloc | apply pw_below_drewN | apply below_drew1) | exact HB.out)))); have n4_ := Aside0.mk (below_step (by repeat (first | (with_reducible first | exact HB.out | apply below_alloc | apply pw_below_drewN | apply below_drew1) | exact HB.out)) hb); clear HO_7; clear HO_8; clear HO_10; clear HB; have HO_7 := n0_; have HO_8 := n1_; have HO_10 := n2_; have HO114 := n3_; have HB := n4_; clear n0_ n1_ n2_ n3_ n4_; (try clear hb); (try clear hb2); (try clear hk); (try clear hi); (try clear ho0); obtain ⟨Ao21, co21, eo21⟩ := Kd.S_slice HO_7.out; subst eo21; obtain ⟨Ao22, co22, eo22⟩ := Kd.S_slice HO114.out; subst eo22) | ((with_reducible refine gate_callee (f := 23) rfl ?_); refine goesL_ (some 38) rfl rfl Try.func23 (by kernel_rfl) rfl #[.slice Ao21 t101.length co21, .slice Ao22 t112.length co22] rfl (by (try simp only [List.map_toArray, List.map_cons, List.map_nil]); first | done | rfl | (simp only [List.length_drop, List.length_take]; rfl)) ?_; (with_reducible refine (kinkeepref04_Same.calls kj6 _ _ t101 _ _ t112 true _ ?side1 ?side2 ?side3 ?side4 A18.out).mono ?_); (case side1 => repeat (first | exact (Kd.S_reads' HO_7.out).2.2 | (with_reducible refine Kd.C_alloc ?_ _) | (with_reducible refine Kd.C_drewN ?_ _) | (with_reducible refine Kd.C_drew ?_))); (case side2 => exact (Kd.S_reads' HO_7.out).2.1); (case side3 => repeat (first | exact (Kd.S_reads' HO114.out).2.2 | (with_reducible refine Kd.C_alloc ?_ _) | (with_reducible refine Kd.C_drewN ?_ _) | (with_reducible refine Kd.C_drew ?_))); (case side4 => exact (Kd.S_reads' HO114.out).2.1); rintro e w' ⟨rfl, ⟨nd, rfl⟩⟩; refine ⟨_, rfl, ?_⟩))
            go_meet
            case rel => exact ⟨_, H', ⟨by have := HJ6.out; first | omega | exact Nat.le_refl _⟩, ⟨by (with_reducible repeat (first | apply Kd.S_alloc | apply Kd.S_drewN | apply Kd.S_drew)); exact Kd.S_mono HO_8.out (fun _ hk => hk.1.2)⟩, ⟨by (with_reducible repeat (first | apply Kd.S_alloc | apply Kd.S_drewN | apply Kd.S_drew)); exact Kd.S_mono HO_10.out (fun _ hk => hk.1.2)⟩, ⟨by repeat (first | (with_reducible first | exact HB.out | apply below_alloc | apply pw_below_drewN | apply below_drew1) | exact HB.out)⟩⟩
          · replace c19 := Bool.eq_false_iff.mpr c19
            subst c19
            have H1 : (some false) = some r := by rw [if_neg (show ¬ (false = true) by decide)] at H; exact H
            clear H
            have H := H1
            clear H1
            obtain rfl := Option.some.inj H
            go_wp2_with (first | ((with_reducible refine gate_callee (f := 51) rfl ?_); refine goesL_ (some 37) rfl rfl Try.func51 (by kernel_rfl) rfl #[.int .i64 a0] rfl (by (try simp only [List.map_toArray, List.map_cons, List.map_nil]); first | done | rfl | (simp only [List.length_drop, List.length_take]; rfl)) ?_; (with_reducible refine (kinkeepref04_Identity.calls kj6 a0 t112 _ A17.out).mono ?_); rintro e w23 ⟨v113, rfl, ho0, hb⟩; refine ⟨_, rfl, ?_⟩; have n0_ := Aside0.mk (Kd.S_elder' (by (with_reducible repeat (first | apply Kd.S_alloc | apply Kd.S_drewN | apply Kd.S_drew)); exact HO_7.out) (Kd.S_base ho0) hb); have n1_ := Aside0.mk (Kd.S_elder' (by (with_reducible repeat (first | apply Kd.S_alloc | apply Kd.S_drewN | apply Kd.S_drew)); exact HO_8.out) (Kd.S_base ho0) hb); have n2_ := Aside0.mk (Kd.S_elder' (by (with_reducible repeat (first | apply Kd.S_alloc | apply Kd.S_drewN | apply Kd.S_drew)); exact HO_10.out) (Kd.S_base ho0) hb); have n3_ := Aside0.mk (Kd.S_lower (Kd.S_new' (Kd.S_new' (Kd.S_new' ho0 (Kd.S_lt (by (with_reducible repeat (first | apply Kd.S_alloc | apply Kd.S_drewN | apply Kd.S_drew)); exact HO_7.out))) (Kd.S_lt (by (with_reducible repeat (first | apply Kd.S_alloc | apply Kd.S_drewN | apply Kd.S_drew)); exact HO_8.out))) (Kd.S_lt (by (with_reducible repeat (first | apply Kd.S_alloc | apply Kd.S_drewN | apply Kd.S_drew)); exact HO_10.out))) (below_size (by repeat (first | (with_reducible first | exact HB.out | apply below_alloc | apply pw_below_drewN | apply below_drew1) | exact HB.out)))); have n4_ := Aside0.mk (below_step (by repeat (first | (with_reducible first | exact HB.out | apply below_alloc | apply pw_below_drewN | apply below_drew1) | exact HB.out)) hb); clear HO_7; clear HO_8; clear HO_10; clear HB; have HO_7 := n0_; have HO_8 := n1_; have HO_10 := n2_; have HO114 := n3_; have HB := n4_; clear n0_ n1_ n2_ n3_ n4_; (try clear hb); (try clear hb2); (try clear hk); (try clear hi); (try clear ho0); obtain ⟨Ao24, co24, eo24⟩ := Kd.S_slice HO_7.out; subst eo24; obtain ⟨Ao25, co25, eo25⟩ := Kd.S_slice HO114.out; subst eo25) | ((with_reducible refine gate_callee (f := 23) rfl ?_); refine goesL_ (some 38) rfl rfl Try.func23 (by kernel_rfl) rfl #[.slice Ao24 t101.length co24, .slice Ao25 t112.length co25] rfl (by (try simp only [List.map_toArray, List.map_cons, List.map_nil]); first | done | rfl | (simp only [List.length_drop, List.length_take]; rfl)) ?_; (with_reducible refine (kinkeepref04_Same.calls kj6 _ _ t101 _ _ t112 false _ ?side1 ?side2 ?side3 ?side4 A18.out).mono ?_); (case side1 => repeat (first | exact (Kd.S_reads' HO_7.out).2.2 | (with_reducible refine Kd.C_alloc ?_ _) | (with_reducible refine Kd.C_drewN ?_ _) | (with_reducible refine Kd.C_drew ?_))); (case side2 => exact (Kd.S_reads' HO_7.out).2.1); (case side3 => repeat (first | exact (Kd.S_reads' HO114.out).2.2 | (with_reducible refine Kd.C_alloc ?_ _) | (with_reducible refine Kd.C_drewN ?_ _) | (with_reducible refine Kd.C_drew ?_))); (case side4 => exact (Kd.S_reads' HO114.out).2.1); rintro e w' ⟨rfl, ⟨nd, rfl⟩⟩; refine ⟨_, rfl, ?_⟩))
            go_ret
            exact ⟨by first | rfl | (simp [errW_none, errW_some] <;> rfl) | (simp [*, errW_none, errW_some] <;> rfl), by repeat (first | (with_reducible first | exact HB.out | apply below_alloc | apply pw_below_drewN | apply below_drew1) | exact HB.out)⟩
      case rest =>
        clear HC12
        try clear c1
        try clear c2
        try clear p2
        try clear c4
        try clear c5
        try clear c11
        try clear c11b0
        try clear c13
        try clear c14
        try clear c14b0
        try clear c14b1
        try clear c14b2
        try clear c19
        try clear c23
        try clear p2
        obtain ⟨kq, HA, HJ11, HO_8, HO_10, HB⟩ := hcut
        cases kq with
        | zero => exact absurd HA.out (by simp [kinkeeplaw04_MatrixNamed.j1])
        | succ kj11 =>
          have H := HA.out
          clear HA
          simp only [kinkeeplaw04_MatrixNamed.j1] at H
          have HC26 := Aside0.mk H
          clear H
          go_upto_region 9 with (fail)
          go_cut [53] (fun v53 wc => ∃ (kq : Nat) (x53_25 : Bool), v53 = .bool x53_25 ∧ Aside0 (kinkeeplaw04_MatrixNamed.j2 kq a1 a2 t104 t105 t108 t109 x53_25 = some r) ∧ Aside0 (kq ≤ kj11) ∧ Aside0 (Kd.S (Kd.slice 5 (Kd.int .u8)) 34 wc w.heap.size (fun k_ => some k_ ≠ (v110 : Value).ownBlock) v106 t104) ∧ Aside0 (Kd.S (Kd.slice 5 (Kd.int .u8)) 34 wc w.heap.size (fun k_ => some k_ ≠ (v106 : Value).ownBlock) v110 t108) ∧ Aside0 (Below w.heap.size w wc))
          case first =>
            have H := HC26.out
            clear HC26
            by_cases c27 : a1 < 0
            · rw [if_pos c27] at H
              have c27b0 : decide (a1 < 0) = true := decide_eq_true c27
              clear c27
              (first | rw [c27b0] | rw [c27b1] | rw [c27b2] | (simp only [i64_w, i32_w]; rw [c27b0]) | skip)
              have H' := Aside0.mk H
              clear H
              go_wp2
              go_meet
              case rel => exact ⟨_, (true), (by first | rfl | (simp; done) | (simp [*]; done)), H', ⟨by have := HJ6.out; have := HJ11.out; first | omega | exact Nat.le_refl _⟩, ⟨by (with_reducible repeat (first | apply Kd.S_alloc | apply Kd.S_drewN | apply Kd.S_drew)); exact HO_8.out⟩, ⟨by (with_reducible repeat (first | apply Kd.S_alloc | apply Kd.S_drewN | apply Kd.S_drew)); exact HO_10.out⟩, ⟨by repeat (first | (with_reducible first | exact HB.out | apply below_alloc | apply pw_below_drewN | apply below_drew1) | exact HB.out)⟩⟩
            · rw [if_neg c27] at H
              have c27b0 : decide (a1 < 0) = false := decide_eq_false c27
              clear c27
              (first | rw [c27b0] | rw [c27b1] | rw [c27b2] | (simp only [i64_w, i32_w]; rw [c27b0]) | skip)
              by_cases c28 : a1 > 64
              · rw [if_pos c28] at H
                have c28b0 : decide (64 < a1) = true := decide_eq_true c28
                clear c28
                have H' := Aside0.mk H
                clear H
                go_wp2
                go_meet
                case rel => exact ⟨_, (true), (by first | rfl | (simp; done) | (simp [*]; done)), H', ⟨by have := HJ6.out; have := HJ11.out; first | omega | exact Nat.le_refl _⟩, ⟨by (with_reducible repeat (first | apply Kd.S_alloc | apply Kd.S_drewN | apply Kd.S_drew)); exact HO_8.out⟩, ⟨by (with_reducible repeat (first | apply Kd.S_alloc | apply Kd.S_drewN | apply Kd.S_drew)); exact HO_10.out⟩, ⟨by repeat (first | (with_reducible first | exact HB.out | apply below_alloc | apply pw_below_drewN | apply below_drew1) | exact HB.out)⟩⟩
              · rw [if_neg c28] at H
                have c28b0 : decide (64 < a1) = false := decide_eq_false c28
                clear c28
                by_cases c29 : a2 < 0
                · rw [if_pos c29] at H
                  have c29b0 : decide (a2 < 0) = true := decide_eq_true c29
                  clear c29
                  have H' := Aside0.mk H
                  clear H
                  go_wp2
                  go_meet
                  case rel => exact ⟨_, (true), (by first | rfl | (simp; done) | (simp [*]; done)), H', ⟨by have := HJ6.out; have := HJ11.out; first | omega | exact Nat.le_refl _⟩, ⟨by (with_reducible repeat (first | apply Kd.S_alloc | apply Kd.S_drewN | apply Kd.S_drew)); exact HO_8.out⟩, ⟨by (with_reducible repeat (first | apply Kd.S_alloc | apply Kd.S_drewN | apply Kd.S_drew)); exact HO_10.out⟩, ⟨by repeat (first | (with_reducible first | exact HB.out | apply below_alloc | apply pw_below_drewN | apply below_drew1) | exact HB.out)⟩⟩
                · rw [if_neg c29] at H
                  have c29b0 : decide (a2 < 0) = false := decide_eq_false c29
                  clear c29
                  have H' := Aside0.mk H
                  clear H
                  go_wp2
                  go_meet
                  case rel => exact ⟨_, (decide (a2 > 64)), (by first | rfl | (simp; done) | (simp [*]; done)), H', ⟨by have := HJ6.out; have := HJ11.out; first | omega | exact Nat.le_refl _⟩, ⟨by (with_reducible repeat (first | apply Kd.S_alloc | apply Kd.S_drewN | apply Kd.S_drew)); exact HO_8.out⟩, ⟨by (with_reducible repeat (first | apply Kd.S_alloc | apply Kd.S_drewN | apply Kd.S_drew)); exact HO_10.out⟩, ⟨by repeat (first | (with_reducible first | exact HB.out | apply below_alloc | apply pw_below_drewN | apply below_drew1) | exact HB.out)⟩⟩
          case rest =>
            clear HC26
            try clear c1
            try clear c2
            try clear p2
            try clear c4
            try clear c5
            try clear c11
            try clear c11b0
            try clear c13
            try clear c14
            try clear c14b0
            try clear c14b1
            try clear c14b2
            try clear c19
            try clear c23
            try clear c27
            try clear c27b0
            try clear c28
            try clear c28b0
            try clear c29
            try clear c29b0
            try clear p2
            obtain ⟨kq, x53_25, rfl, HA, HJ25, HO_8, HO_10, HB⟩ := hcut
            cases kq with
            | zero => exact absurd HA.out (by simp [kinkeeplaw04_MatrixNamed.j2])
            | succ kj25 =>
              have H := HA.out
              clear HA
              simp only [kinkeeplaw04_MatrixNamed.j2] at H
              by_cases c30 : x53_25 = true
              · subst c30
                have H1 : ((kinkeeplaw04_awake.f).bind fun t116 => (if t116 = true then (if t105 = 1 then (if t109 = 1 then (if (t104.length : Int) = 0 then (some ((t108.length : Int) == 0)) else (some false)) else (some false)) else (some false)) else (some false))) = some r := by rw [if_pos rfl] at H; exact H
                clear H
                have H := H1
                clear H1
                replace H := Option.bind_eq_some_iff.mp H
                obtain ⟨t116, A310, H⟩ := H
                replace H : (if t116 = true then (if t105 = 1 then (if t109 = 1 then (if (t104.length : Int) = 0 then (some ((t108.length : Int) == 0)) else (some false)) else (some false)) else (some false)) else (some false)) = some r := H
                have A31 := Aside0.mk A310
                clear A310
                by_cases c32 : t116 = true
                · subst c32
                  have H1 : (if t105 = 1 then (if t109 = 1 then (if (t104.length : Int) = 0 then (some ((t108.length : Int) == 0)) else (some false)) else (some false)) else (some false)) = some r := by rw [if_pos rfl] at H; exact H
                  clear H
                  have H := H1
                  clear H1
                  by_cases c33 : t105 = 1
                  · rw [if_pos c33] at H
                    have c33b0 : (t105 == 1) = true := beq_iff_eq.mpr c33
                    have c33b1 : (t105 != 1) = false := bne_eq_false_iff_eq.mpr c33
                    clear c33
                    by_cases c34 : t109 = 1
                    · rw [if_pos c34] at H
                      have c34b0 : (t109 == 1) = true := beq_iff_eq.mpr c34
                      have c34b1 : (t109 != 1) = false := bne_eq_false_iff_eq.mpr c34
                      clear c34
                      by_cases c35 : (t104.length : Int) = 0
                      · rw [if_pos c35] at H
                        have c35b0 : ((t104.length : Int) == 0) = true := beq_iff_eq.mpr c35
                        have c35b1 : ((t104.length : Int) != 0) = false := bne_eq_false_iff_eq.mpr c35
                        clear c35
                        obtain rfl := Option.some.inj H
                        go_wp2_with (first | ((with_reducible refine gate_callee (f := 16) rfl ?_); refine goesL_ (some 54) rfl rfl Try.func16 (by kernel_rfl) rfl #[] rfl (by (try simp only [List.map_toArray, List.map_cons, List.map_nil]); first | done | rfl | (simp only [List.length_drop, List.length_take]; rfl)) ?_; (with_reducible refine (kinkeeplaw04_awake.calls  true _ A31.out).mono ?_); rintro e w36 ⟨rfl, hb⟩; refine ⟨_, rfl, ?_⟩; have n0_ := Aside0.mk (Kd.S_below (by (with_reducible repeat (first | apply Kd.S_alloc | apply Kd.S_drewN | apply Kd.S_drew)); exact HO_8.out) hb); have n1_ := Aside0.mk (Kd.S_below (by (with_reducible repeat (first | apply Kd.S_alloc | apply Kd.S_drewN | apply Kd.S_drew)); exact HO_10.out) hb); have n2_ := Aside0.mk (below_step (by repeat (first | (with_reducible first | exact HB.out | apply below_alloc | apply pw_below_drewN | apply below_drew1) | exact HB.out)) hb); clear HO_8; clear HO_10; clear HB; have HO_8 := n0_; have HO_10 := n1_; have HB := n2_; clear n0_ n1_ n2_; (try clear hb); (try clear hb2); (try clear hk); (try clear hi); obtain ⟨Ao37, co37, eo37⟩ := Kd.S_slice HO_8.out; subst eo37; obtain ⟨Ao38, co38, eo38⟩ := Kd.S_slice HO_10.out; subst eo38))
                        go_ret
                        exact ⟨by first | rfl | (simp [errW_none, errW_some] <;> rfl) | (simp [*, errW_none, errW_some] <;> rfl), by repeat (first | (with_reducible first | exact HB.out | apply below_alloc | apply pw_below_drewN | apply below_drew1) | exact HB.out)⟩
                      · rw [if_neg c35] at H
                        have c35b0 : ((t104.length : Int) == 0) = false := beq_eq_false_iff_ne.mpr c35
                        have c35b1 : ((t104.length : Int) != 0) = true := bne_iff_ne.mpr c35
                        have c35b2 : ¬ (t104 = []) := fun h_ => c35 (by rw [h_]; rfl)
                        obtain rfl := Option.some.inj H
                        go_wp2_with (first | ((with_reducible refine gate_callee (f := 16) rfl ?_); refine goesL_ (some 54) rfl rfl Try.func16 (by kernel_rfl) rfl #[] rfl (by (try simp only [List.map_toArray, List.map_cons, List.map_nil]); first | done | rfl | (simp only [List.length_drop, List.length_take]; rfl)) ?_; (with_reducible refine (kinkeeplaw04_awake.calls  true _ A31.out).mono ?_); rintro e w39 ⟨rfl, hb⟩; refine ⟨_, rfl, ?_⟩; have n0_ := Aside0.mk (Kd.S_below (by (with_reducible repeat (first | apply Kd.S_alloc | apply Kd.S_drewN | apply Kd.S_drew)); exact HO_8.out) hb); have n1_ := Aside0.mk (Kd.S_below (by (with_reducible repeat (first | apply Kd.S_alloc | apply Kd.S_drewN | apply Kd.S_drew)); exact HO_10.out) hb); have n2_ := Aside0.mk (below_step (by repeat (first | (with_reducible first | exact HB.out | apply below_alloc | apply pw_below_drewN | apply below_drew1) | exact HB.out)) hb); clear HO_8; clear HO_10; clear HB; have HO_8 := n0_; have HO_10 := n1_; have HB := n2_; clear n0_ n1_ n2_; (try clear hb); (try clear hb2); (try clear hk); (try clear hi); obtain ⟨Ao40, co40, eo40⟩ := Kd.S_slice HO_8.out; subst eo40))
                        go_ret
                        exact ⟨by first | rfl | (simp [errW_none, errW_some] <;> rfl) | (simp [*, errW_none, errW_some] <;> rfl), by repeat (first | (with_reducible first | exact HB.out | apply below_alloc | apply pw_below_drewN | apply below_drew1) | exact HB.out)⟩
                    · rw [if_neg c34] at H
                      have c34b0 : (t109 == 1) = false := beq_eq_false_iff_ne.mpr c34
                      have c34b1 : (t109 != 1) = true := bne_iff_ne.mpr c34
                      obtain rfl := Option.some.inj H
                      go_wp2_with (first | ((with_reducible refine gate_callee (f := 16) rfl ?_); refine goesL_ (some 54) rfl rfl Try.func16 (by kernel_rfl) rfl #[] rfl (by (try simp only [List.map_toArray, List.map_cons, List.map_nil]); first | done | rfl | (simp only [List.length_drop, List.length_take]; rfl)) ?_; (with_reducible refine (kinkeeplaw04_awake.calls  true _ A31.out).mono ?_); rintro e w41 ⟨rfl, hb⟩; refine ⟨_, rfl, ?_⟩; have n0_ := Aside0.mk (Kd.S_below (by (with_reducible repeat (first | apply Kd.S_alloc | apply Kd.S_drewN | apply Kd.S_drew)); exact HO_8.out) hb); have n1_ := Aside0.mk (Kd.S_below (by (with_reducible repeat (first | apply Kd.S_alloc | apply Kd.S_drewN | apply Kd.S_drew)); exact HO_10.out) hb); have n2_ := Aside0.mk (below_step (by repeat (first | (with_reducible first | exact HB.out | apply below_alloc | apply pw_below_drewN | apply below_drew1) | exact HB.out)) hb); clear HO_8; clear HO_10; clear HB; have HO_8 := n0_; have HO_10 := n1_; have HB := n2_; clear n0_ n1_ n2_; (try clear hb); (try clear hb2); (try clear hk); (try clear hi)))
                      go_ret
                      exact ⟨by first | rfl | (simp [errW_none, errW_some] <;> rfl) | (simp [*, errW_none, errW_some] <;> rfl), by repeat (first | (with_reducible first | exact HB.out | apply below_alloc | apply pw_below_drewN | apply below_drew1) | exact HB.out)⟩
                  · rw [if_neg c33] at H
                    have c33b0 : (t105 == 1) = false := beq_eq_false_iff_ne.mpr c33
                    have c33b1 : (t105 != 1) = true := bne_iff_ne.mpr c33
                    obtain rfl := Option.some.inj H
                    go_wp2_with (first | ((with_reducible refine gate_callee (f := 16) rfl ?_); refine goesL_ (some 54) rfl rfl Try.func16 (by kernel_rfl) rfl #[] rfl (by (try simp only [List.map_toArray, List.map_cons, List.map_nil]); first | done | rfl | (simp only [List.length_drop, List.length_take]; rfl)) ?_; (with_reducible refine (kinkeeplaw04_awake.calls  true _ A31.out).mono ?_); rintro e w42 ⟨rfl, hb⟩; refine ⟨_, rfl, ?_⟩; have n0_ := Aside0.mk (Kd.S_below (by (with_reducible repeat (first | apply Kd.S_alloc | apply Kd.S_drewN | apply Kd.S_drew)); exact HO_8.out) hb); have n1_ := Aside0.mk (Kd.S_below (by (with_reducible repeat (first | apply Kd.S_alloc | apply Kd.S_drewN | apply Kd.S_drew)); exact HO_10.out) hb); have n2_ := Aside0.mk (below_step (by repeat (first | (with_reducible first | exact HB.out | apply below_alloc | apply pw_below_drewN | apply below_drew1) | exact HB.out)) hb); clear HO_8; clear HO_10; clear HB; have HO_8 := n0_; have HO_10 := n1_; have HB := n2_; clear n0_ n1_ n2_; (try clear hb); (try clear hb2); (try clear hk); (try clear hi)))
                    go_ret
                    exact ⟨by first | rfl | (simp [errW_none, errW_some] <;> rfl) | (simp [*, errW_none, errW_some] <;> rfl), by repeat (first | (with_reducible first | exact HB.out | apply below_alloc | apply pw_below_drewN | apply below_drew1) | exact HB.out)⟩
                · replace c32 := Bool.eq_false_iff.mpr c32
                  subst c32
                  have H1 : (some false) = some r := by rw [if_neg (show ¬ (false = true) by decide)] at H; exact H
                  clear H
                  have H := H1
                  clear H1
                  obtain rfl := Option.some.inj H
                  go_wp2_with (first | ((with_reducible refine gate_callee (f := 16) rfl ?_); refine goesL_ (some 54) rfl rfl Try.func16 (by kernel_rfl) rfl #[] rfl (by (try simp only [List.map_toArray, List.map_cons, List.map_nil]); first | done | rfl | (simp only [List.length_drop, List.length_take]; rfl)) ?_; (with_reducible refine (kinkeeplaw04_awake.calls  false _ A31.out).mono ?_); rintro e w43 ⟨rfl, hb⟩; refine ⟨_, rfl, ?_⟩; have n0_ := Aside0.mk (Kd.S_below (by (with_reducible repeat (first | apply Kd.S_alloc | apply Kd.S_drewN | apply Kd.S_drew)); exact HO_8.out) hb); have n1_ := Aside0.mk (Kd.S_below (by (with_reducible repeat (first | apply Kd.S_alloc | apply Kd.S_drewN | apply Kd.S_drew)); exact HO_10.out) hb); have n2_ := Aside0.mk (below_step (by repeat (first | (with_reducible first | exact HB.out | apply below_alloc | apply pw_below_drewN | apply below_drew1) | exact HB.out)) hb); clear HO_8; clear HO_10; clear HB; have HO_8 := n0_; have HO_10 := n1_; have HB := n2_; clear n0_ n1_ n2_; (try clear hb); (try clear hb2); (try clear hk); (try clear hi)))
                  go_ret
                  exact ⟨by first | rfl | (simp [errW_none, errW_some] <;> rfl) | (simp [*, errW_none, errW_some] <;> rfl), by repeat (first | (with_reducible first | exact HB.out | apply below_alloc | apply pw_below_drewN | apply below_drew1) | exact HB.out)⟩
              · replace c30 := Bool.eq_false_iff.mpr c30
                subst c30
                have H1 : ((kinkeeplaw04_awake.f).bind fun t117 => (if t117 = true then (if t105 = 0 then (if t109 = 0 then ((kinkeepref04_Cauchy.f kj25 a1 a2).bind fun t118 => ((kinkeepref04_Same.f kj25 t104 t118).bind fun t121 => (if t121 = true then ((kinkeepref04_Vandermonde.f kj25 a1 a2).bind fun t122 => ((kinkeepref04_Same.f kj25 t108 t122).bind fun t125 => (some t125))) else (some false)))) else (some false)) else (some false)) else (some false))) = some r := by rw [if_neg (show ¬ (false = true) by decide)] at H; exact H
                clear H
                have H := H1
                clear H1
                replace H := Option.bind_eq_some_iff.mp H
                obtain ⟨t117, A440, H⟩ := H
                replace H : (if t117 = true then (if t105 = 0 then (if t109 = 0 then ((kinkeepref04_Cauchy.f kj25 a1 a2).bind fun t118 => ((kinkeepref04_Same.f kj25 t104 t118).bind fun t121 => (if t121 = true then ((kinkeepref04_Vandermonde.f kj25 a1 a2).bind fun t122 => ((kinkeepref04_Same.f kj25 t108 t122).bind fun t125 => (some t125))) else (some false)))) else (some false)) else (some false)) else (some false)) = some r := H
                have A44 := Aside0.mk A440
                clear A440
                by_cases c45 : t117 = true
                · subst c45
                  have H1 : (if t105 = 0 then (if t109 = 0 then ((kinkeepref04_Cauchy.f kj25 a1 a2).bind fun t118 => ((kinkeepref04_Same.f kj25 t104 t118).bind fun t121 => (if t121 = true then ((kinkeepref04_Vandermonde.f kj25 a1 a2).bind fun t122 => ((kinkeepref04_Same.f kj25 t108 t122).bind fun t125 => (some t125))) else (some false)))) else (some false)) else (some false)) = some r := by rw [if_pos rfl] at H; exact H
                  clear H
                  have H := H1
                  clear H1
                  by_cases c46 : t105 = 0
                  · rw [if_pos c46] at H
                    have c46b0 : (t105 == 0) = true := beq_iff_eq.mpr c46
                    have c46b1 : (t105 != 0) = false := bne_eq_false_iff_eq.mpr c46
                    clear c46
                    by_cases c47 : t109 = 0
                    · rw [if_pos c47] at H
                      have c47b0 : (t109 == 0) = true := beq_iff_eq.mpr c47
                      have c47b1 : (t109 != 0) = false := bne_eq_false_iff_eq.mpr c47
                      clear c47
                      replace H := Option.bind_eq_some_iff.mp H
                      obtain ⟨t118, A480, H⟩ := H
                      replace H : ((kinkeepref04_Same.f kj25 t104 t118).bind fun t121 => (if t121 = true then ((kinkeepref04_Vandermonde.f kj25 a1 a2).bind fun t122 => ((kinkeepref04_Same.f kj25 t108 t122).bind fun t125 => (some t125))) else (some false))) = some r := H
                      have A48 := Aside0.mk A480
                      clear A480
                      replace H := Option.bind_eq_some_iff.mp H
                      obtain ⟨t121, A490, H⟩ := H
                      replace H : (if t121 = true then ((kinkeepref04_Vandermonde.f kj25 a1 a2).bind fun t122 => ((kinkeepref04_Same.f kj25 t108 t122).bind fun t125 => (some t125))) else (some false)) = some r := H
                      have A49 := Aside0.mk A490
                      clear A490
                      by_cases c50 : t121 = true
                      · subst c50
                        have H1 : ((kinkeepref04_Vandermonde.f kj25 a1 a2).bind fun t122 => ((kinkeepref04_Same.f kj25 t108 t122).bind fun t125 => (some t125))) = some r := by rw [if_pos rfl] at H; exact H
                        clear H
                        have H := H1
                        clear H1
                        replace H := Option.bind_eq_some_iff.mp H
                        obtain ⟨t122, A510, H⟩ := H
                        replace H : ((kinkeepref04_Same.f kj25 t108 t122).bind fun t125 => (some t125)) = some r := H
                        have A51 := Aside0.mk A510
                        clear A510
                        replace H := Option.bind_eq_some_iff.mp H
                        obtain ⟨t125, A520, H⟩ := H
                        replace H : (some t125) = some r := H
                        have A52 := Aside0.mk A520
                        clear A520
                        obtain rfl := Option.some.inj H
                        go_wp2_with (first | ((with_reducible refine gate_callee (f := 16) rfl ?_); refine goesL_ (some 73) rfl rfl Try.func16 (by kernel_rfl) rfl #[] rfl (by (try simp only [List.map_toArray, List.map_cons, List.map_nil]); first | done | rfl | (simp only [List.length_drop, List.length_take]; rfl)) ?_; (with_reducible refine (kinkeeplaw04_awake.calls  true _ A44.out).mono ?_); rintro e w53 ⟨rfl, hb⟩; refine ⟨_, rfl, ?_⟩; have n0_ := Aside0.mk (Kd.S_below (by (with_reducible repeat (first | apply Kd.S_alloc | apply Kd.S_drewN | apply Kd.S_drew)); exact HO_8.out) hb); have n1_ := Aside0.mk (Kd.S_below (by (with_reducible repeat (first | apply Kd.S_alloc | apply Kd.S_drewN | apply Kd.S_drew)); exact HO_10.out) hb); have n2_ := Aside0.mk (below_step (by repeat (first | (with_reducible first | exact HB.out | apply below_alloc | apply pw_below_drewN | apply below_drew1) | exact HB.out)) hb); clear HO_8; clear HO_10; clear HB; have HO_8 := n0_; have HO_10 := n1_; have HB := n2_; clear n0_ n1_ n2_; (try clear hb); (try clear hb2); (try clear hk); (try clear hi)) | (go_at_call 52; (with_reducible refine (kinkeepref04_Cauchy.calls kj25 a1 a2 t118 _ A48.out).mono ?_); rintro e w54 ⟨v119, rfl, ho0, hb⟩; have n0_ := Aside0.mk (Kd.S_elder' (by (with_reducible repeat (first | apply Kd.S_alloc | apply Kd.S_drewN | apply Kd.S_drew)); exact HO_8.out) (Kd.S_base ho0) hb); have n1_ := Aside0.mk (Kd.S_elder' (by (with_reducible repeat (first | apply Kd.S_alloc | apply Kd.S_drewN | apply Kd.S_drew)); exact HO_10.out) (Kd.S_base ho0) hb); have n2_ := Aside0.mk (Kd.S_lower (Kd.S_new' (Kd.S_new' ho0 (Kd.S_lt (by (with_reducible repeat (first | apply Kd.S_alloc | apply Kd.S_drewN | apply Kd.S_drew)); exact HO_8.out))) (Kd.S_lt (by (with_reducible repeat (first | apply Kd.S_alloc | apply Kd.S_drewN | apply Kd.S_drew)); exact HO_10.out))) (below_size (by repeat (first | (with_reducible first | exact HB.out | apply below_alloc | apply pw_below_drewN | apply below_drew1) | exact HB.out)))); have n3_ := Aside0.mk (below_step (by repeat (first | (with_reducible first | exact HB.out | apply below_alloc | apply pw_below_drewN | apply below_drew1) | exact HB.out)) hb); clear HO_8; clear HO_10; clear HB; have HO_8 := n0_; have HO_10 := n1_; have HO120 := n2_; have HB := n3_; clear n0_ n1_ n2_ n3_; (try clear hb); (try clear hb2); (try clear hk); (try clear hi); (try clear ho0); obtain ⟨Ao55, co55, eo55⟩ := Kd.S_slice HO_8.out; subst eo55; obtain ⟨Ao56, co56, eo56⟩ := Kd.S_slice HO120.out; subst eo56) | (go_at_call 23; (with_reducible refine (kinkeepref04_Same.calls kj25 _ _ t104 _ _ t118 true _ ?side1 ?side2 ?side3 ?side4 A49.out).mono ?_); (case side1 => repeat (first | exact (Kd.S_reads' HO_8.out).2.2 | (with_reducible refine Kd.C_alloc ?_ _) | (with_reducible refine Kd.C_drewN ?_ _) | (with_reducible refine Kd.C_drew ?_))); (case side2 => exact (Kd.S_reads' HO_8.out).2.1); (case side3 => repeat (first | exact (Kd.S_reads' HO120.out).2.2 | (with_reducible refine Kd.C_alloc ?_ _) | (with_reducible refine Kd.C_drewN ?_ _) | (with_reducible refine Kd.C_drew ?_))); (case side4 => exact (Kd.S_reads' HO120.out).2.1); rintro e w' ⟨rfl, ⟨nd, rfl⟩⟩) | (go_at_call 53; (with_reducible refine (kinkeepref04_Vandermonde.calls kj25 a1 a2 t122 _ A51.out).mono ?_); rintro e w57 ⟨v123, rfl, ho0, hb⟩; have n0_ := Aside0.mk (Kd.S_elder' (by (with_reducible repeat (first | apply Kd.S_alloc | apply Kd.S_drewN | apply Kd.S_drew)); exact HO_8.out) (Kd.S_base ho0) hb); have n1_ := Aside0.mk (Kd.S_elder' (by (with_reducible repeat (first | apply Kd.S_alloc | apply Kd.S_drewN | apply Kd.S_drew)); exact HO_10.out) (Kd.S_base ho0) hb); have n2_ := Aside0.mk (Kd.S_elder' (by (with_reducible repeat (first | apply Kd.S_alloc | apply Kd.S_drewN | apply Kd.S_drew)); exact HO120.out) (Kd.S_base ho0) hb); have n3_ := Aside0.mk (Kd.S_lower (Kd.S_new' (Kd.S_new' (Kd.S_new' ho0 (Kd.S_lt (by (with_reducible repeat (first | apply Kd.S_alloc | apply Kd.S_drewN | apply Kd.S_drew)); exact HO_8.out))) (Kd.S_lt (by (with_reducible repeat (first | apply Kd.S_alloc | apply Kd.S_drewN | apply Kd.S_drew)); exact HO_10.out))) (Kd.S_lt (by (with_reducible repeat (first | apply Kd.S_alloc | apply Kd.S_drewN | apply Kd.S_drew)); exact HO120.out))) (below_size (by repeat (first | (with_reducible first | exact HB.out | apply below_alloc | apply pw_below_drewN | apply below_drew1) | exact HB.out)))); have n4_ := Aside0.mk (below_step (by repeat (first | (with_reducible first | exact HB.out | apply below_alloc | apply pw_below_drewN | apply below_drew1) | exact HB.out)) hb); clear HO_8; clear HO_10; clear HO120; clear HB; have HO_8 := n0_; have HO_10 := n1_; have HO120 := n2_; have HO124 := n3_; have HB := n4_; clear n0_ n1_ n2_ n3_ n4_; (try clear hb); (try clear hb2); (try clear hk); (try clear hi); (try clear ho0); obtain ⟨Ao58, co58, eo58⟩ := Kd.S_slice HO_10.out; subst eo58; obtain ⟨Ao59, co59, eo59⟩ := Kd.S_slice HO124.out; subst eo59) | (go_at_call 23; (with_reducible refine (kinkeepref04_Same.calls kj25 _ _ t108 _ _ t122 t125 _ ?side1 ?side2 ?side3 ?side4 A52.out).mono ?_); (case side1 => repeat (first | exact (Kd.S_reads' HO_10.out).2.2 | (with_reducible refine Kd.C_alloc ?_ _) | (with_reducible refine Kd.C_drewN ?_ _) | (with_reducible refine Kd.C_drew ?_))); (case side2 => exact (Kd.S_reads' HO_10.out).2.1); (case side3 => repeat (first | exact (Kd.S_reads' HO124.out).2.2 | (with_reducible refine Kd.C_alloc ?_ _) | (with_reducible refine Kd.C_drewN ?_ _) | (with_reducible refine Kd.C_drew ?_))); (case side4 => exact (Kd.S_reads' HO124.out).2.1); rintro e w' ⟨rfl, ⟨nd, rfl⟩⟩))
                        go_ret
                        exact ⟨by first | rfl | (simp [errW_none, errW_some] <;> rfl) | (simp [*, errW_none, errW_some] <;> rfl), by repeat (first | (with_reducible first | exact HB.out | apply below_alloc | apply pw_below_drewN | apply below_drew1) | exact HB.out)⟩
                      · replace c50 := Bool.eq_false_iff.mpr c50
                        subst c50
                        have H1 : (some false) = some r := by rw [if_neg (show ¬ (false = true) by decide)] at H; exact H
                        clear H
                        have H := H1
                        clear H1
                        obtain rfl := Option.some.inj H
                        go_wp2_with (first | ((with_reducible refine gate_callee (f := 16) rfl ?_); refine goesL_ (some 73) rfl rfl Try.func16 (by kernel_rfl) rfl #[] rfl (by (try simp only [List.map_toArray, List.map_cons, List.map_nil]); first | done | rfl | (simp only [List.length_drop, List.length_take]; rfl)) ?_; (with_reducible refine (kinkeeplaw04_awake.calls  true _ A44.out).mono ?_); rintro e w60 ⟨rfl, hb⟩; refine ⟨_, rfl, ?_⟩; have n0_ := Aside0.mk (Kd.S_below (by (with_reducible repeat (first | apply Kd.S_alloc | apply Kd.S_drewN | apply Kd.S_drew)); exact HO_8.out) hb); have n1_ := Aside0.mk (Kd.S_below (by (with_reducible repeat (first | apply Kd.S_alloc | apply Kd.S_drewN | apply Kd.S_drew)); exact HO_10.out) hb); have n2_ := Aside0.mk (below_step (by repeat (first | (with_reducible first | exact HB.out | apply below_alloc | apply pw_below_drewN | apply below_drew1) | exact HB.out)) hb); clear HO_8; clear HO_10; clear HB; have HO_8 := n0_; have HO_10 := n1_; have HB := n2_; clear n0_ n1_ n2_; (try clear hb); (try clear hb2); (try clear hk); (try clear hi)) | (go_at_call 52; (with_reducible refine (kinkeepref04_Cauchy.calls kj25 a1 a2 t118 _ A48.out).mono ?_); rintro e w61 ⟨v119, rfl, ho0, hb⟩; have n0_ := Aside0.mk (Kd.S_elder' (by (with_reducible repeat (first | apply Kd.S_alloc | apply Kd.S_drewN | apply Kd.S_drew)); exact HO_8.out) (Kd.S_base ho0) hb); have n1_ := Aside0.mk (Kd.S_elder' (by (with_reducible repeat (first | apply Kd.S_alloc | apply Kd.S_drewN | apply Kd.S_drew)); exact HO_10.out) (Kd.S_base ho0) hb); have n2_ := Aside0.mk (Kd.S_lower (Kd.S_new' (Kd.S_new' ho0 (Kd.S_lt (by (with_reducible repeat (first | apply Kd.S_alloc | apply Kd.S_drewN | apply Kd.S_drew)); exact HO_8.out))) (Kd.S_lt (by (with_reducible repeat (first | apply Kd.S_alloc | apply Kd.S_drewN | apply Kd.S_drew)); exact HO_10.out))) (below_size (by repeat (first | (with_reducible first | exact HB.out | apply below_alloc | apply pw_below_drewN | apply below_drew1) | exact HB.out)))); have n3_ := Aside0.mk (below_step (by repeat (first | (with_reducible first | exact HB.out | apply below_alloc | apply pw_below_drewN | apply below_drew1) | exact HB.out)) hb); clear HO_8; clear HO_10; clear HB; have HO_8 := n0_; have HO_10 := n1_; have HO120 := n2_; have HB := n3_; clear n0_ n1_ n2_ n3_; (try clear hb); (try clear hb2); (try clear hk); (try clear hi); (try clear ho0); obtain ⟨Ao62, co62, eo62⟩ := Kd.S_slice HO_8.out; subst eo62; obtain ⟨Ao63, co63, eo63⟩ := Kd.S_slice HO120.out; subst eo63) | (go_at_call 23; (with_reducible refine (kinkeepref04_Same.calls kj25 _ _ t104 _ _ t118 false _ ?side1 ?side2 ?side3 ?side4 A49.out).mono ?_); (case side1 => repeat (first | exact (Kd.S_reads' HO_8.out).2.2 | (with_reducible refine Kd.C_alloc ?_ _) | (with_reducible refine Kd.C_drewN ?_ _) | (with_reducible refine Kd.C_drew ?_))); (case side2 => exact (Kd.S_reads' HO_8.out).2.1); (case side3 => repeat (first | exact (Kd.S_reads' HO120.out).2.2 | (with_reducible refine Kd.C_alloc ?_ _) | (with_reducible refine Kd.C_drewN ?_ _) | (with_reducible refine Kd.C_drew ?_))); (case side4 => exact (Kd.S_reads' HO120.out).2.1); rintro e w' ⟨rfl, ⟨nd, rfl⟩⟩))
                        go_ret
                        exact ⟨by first | rfl | (simp [errW_none, errW_some] <;> rfl) | (simp [*, errW_none, errW_some] <;> rfl), by repeat (first | (with_reducible first | exact HB.out | apply below_alloc | apply pw_below_drewN | apply below_drew1) | exact HB.out)⟩
                    · rw [if_neg c47] at H
                      have c47b0 : (t109 == 0) = false := beq_eq_false_iff_ne.mpr c47
                      have c47b1 : (t109 != 0) = true := bne_iff_ne.mpr c47
                      obtain rfl := Option.some.inj H
                      go_wp2_with (first | ((with_reducible refine gate_callee (f := 16) rfl ?_); refine goesL_ (some 73) rfl rfl Try.func16 (by kernel_rfl) rfl #[] rfl (by (try simp only [List.map_toArray, List.map_cons, List.map_nil]); first | done | rfl | (simp only [List.length_drop, List.length_take]; rfl)) ?_; (with_reducible refine (kinkeeplaw04_awake.calls  true _ A44.out).mono ?_); rintro e w64 ⟨rfl, hb⟩; refine ⟨_, rfl, ?_⟩; have n0_ := Aside0.mk (Kd.S_below (by (with_reducible repeat (first | apply Kd.S_alloc | apply Kd.S_drewN | apply Kd.S_drew)); exact HO_8.out) hb); have n1_ := Aside0.mk (Kd.S_below (by (with_reducible repeat (first | apply Kd.S_alloc | apply Kd.S_drewN | apply Kd.S_drew)); exact HO_10.out) hb); have n2_ := Aside0.mk (below_step (by repeat (first | (with_reducible first | exact HB.out | apply below_alloc | apply pw_below_drewN | apply below_drew1) | exact HB.out)) hb); clear HO_8; clear HO_10; clear HB; have HO_8 := n0_; have HO_10 := n1_; have HB := n2_; clear n0_ n1_ n2_; (try clear hb); (try clear hb2); (try clear hk); (try clear hi)))
                      go_ret
                      exact ⟨by first | rfl | (simp [errW_none, errW_some] <;> rfl) | (simp [*, errW_none, errW_some] <;> rfl), by repeat (first | (with_reducible first | exact HB.out | apply below_alloc | apply pw_below_drewN | apply below_drew1) | exact HB.out)⟩
                  · rw [if_neg c46] at H
                    have c46b0 : (t105 == 0) = false := beq_eq_false_iff_ne.mpr c46
                    have c46b1 : (t105 != 0) = true := bne_iff_ne.mpr c46
                    obtain rfl := Option.some.inj H
                    go_wp2_with (first | ((with_reducible refine gate_callee (f := 16) rfl ?_); refine goesL_ (some 73) rfl rfl Try.func16 (by kernel_rfl) rfl #[] rfl (by (try simp only [List.map_toArray, List.map_cons, List.map_nil]); first | done | rfl | (simp only [List.length_drop, List.length_take]; rfl)) ?_; (with_reducible refine (kinkeeplaw04_awake.calls  true _ A44.out).mono ?_); rintro e w65 ⟨rfl, hb⟩; refine ⟨_, rfl, ?_⟩; have n0_ := Aside0.mk (Kd.S_below (by (with_reducible repeat (first | apply Kd.S_alloc | apply Kd.S_drewN | apply Kd.S_drew)); exact HO_8.out) hb); have n1_ := Aside0.mk (Kd.S_below (by (with_reducible repeat (first | apply Kd.S_alloc | apply Kd.S_drewN | apply Kd.S_drew)); exact HO_10.out) hb); have n2_ := Aside0.mk (below_step (by repeat (first | (with_reducible first | exact HB.out | apply below_alloc | apply pw_below_drewN | apply below_drew1) | exact HB.out)) hb); clear HO_8; clear HO_10; clear HB; have HO_8 := n0_; have HO_10 := n1_; have HB := n2_; clear n0_ n1_ n2_; (try clear hb); (try clear hb2); (try clear hk); (try clear hi)))
                    go_ret
                    exact ⟨by first | rfl | (simp [errW_none, errW_some] <;> rfl) | (simp [*, errW_none, errW_some] <;> rfl), by repeat (first | (with_reducible first | exact HB.out | apply below_alloc | apply pw_below_drewN | apply below_drew1) | exact HB.out)⟩
                · replace c45 := Bool.eq_false_iff.mpr c45
                  subst c45
                  have H1 : (some false) = some r := by rw [if_neg (show ¬ (false = true) by decide)] at H; exact H
                  clear H
                  have H := H1
                  clear H1
                  obtain rfl := Option.some.inj H
                  go_wp2_with (first | ((with_reducible refine gate_callee (f := 16) rfl ?_); refine goesL_ (some 73) rfl rfl Try.func16 (by kernel_rfl) rfl #[] rfl (by (try simp only [List.map_toArray, List.map_cons, List.map_nil]); first | done | rfl | (simp only [List.length_drop, List.length_take]; rfl)) ?_; (with_reducible refine (kinkeeplaw04_awake.calls  false _ A44.out).mono ?_); rintro e w66 ⟨rfl, hb⟩; refine ⟨_, rfl, ?_⟩; have n0_ := Aside0.mk (Kd.S_below (by (with_reducible repeat (first | apply Kd.S_alloc | apply Kd.S_drewN | apply Kd.S_drew)); exact HO_8.out) hb); have n1_ := Aside0.mk (Kd.S_below (by (with_reducible repeat (first | apply Kd.S_alloc | apply Kd.S_drewN | apply Kd.S_drew)); exact HO_10.out) hb); have n2_ := Aside0.mk (below_step (by repeat (first | (with_reducible first | exact HB.out | apply below_alloc | apply pw_below_drewN | apply below_drew1) | exact HB.out)) hb); clear HO_8; clear HO_10; clear HB; have HO_8 := n0_; have HO_10 := n1_; have HB := n2_; clear n0_ n1_ n2_; (try clear hb); (try clear hb2); (try clear hk); (try clear hi)))
                  go_ret
                  exact ⟨by first | rfl | (simp [errW_none, errW_some] <;> rfl) | (simp [*, errW_none, errW_some] <;> rfl), by repeat (first | (with_reducible first | exact HB.out | apply below_alloc | apply pw_below_drewN | apply below_drew1) | exact HB.out)⟩

/-- THE ONE PURE STATEMENT of kinkeeplaw04_MatrixNamed: yours. -/
def kinkeeplaw04_MatrixNamed.Pure : Prop := ∀ (a0 : Int) (a1 : Int) (a2 : Int), (Lit.int .i64 a0).wf = true → (Lit.int .i64 a1).wf = true → (Lit.int .i64 a2).wf = true → ∃ k, kinkeeplaw04_MatrixNamed.f k a0 a1 a2 = some true
theorem kinkeeplaw04_MatrixNamed.walk (P : kinkeeplaw04_MatrixNamed.Pure) (a0 : Int) (a1 : Int) (a2 : Int) (w : World) (w0 : (Lit.int .i64 a0).wf = true) (w1 : (Lit.int .i64 a1).wf = true) (w2 : (Lit.int .i64 a2).wf = true) :
    Calls Try.prog 11 #[.int .i64 a0, .int .i64 a1, .int .i64 a2] w fun e w' => e = .returned (.bool true) ∧ Below w.heap.size w w' := by
  obtain ⟨k, h⟩ := P a0 a1 a2 w0 w1 w2
  refine (kinkeeplaw04_MatrixNamed.calls k a0 a1 a2 true w h).mono ?_
  rintro e w' ⟨rfl, hd⟩
  exact ⟨rfl, hd⟩

end Go.Proofs.Ytpkghpljgjlmjaa.K
/- The reference's functions over the field, plain: its product and inverse are the field's; Zero, Same, Ints. -/
namespace Go.Proofs.Ytpkghpljgjlmjaa.K
open Go.RowKit Go.Proofs.YtpkghpljgjlmjaaW.PrintWords Go.Proofs.YtpkghpljgjlmjaaW.PrintLast Go.Proofs.YtpkghpljgjlmjaaW.PrintMore Kin
set_option linter.unusedVariables false
theorem i64_xor_nat (a b : Nat) (ha : a < 9223372036854775808) (hb : b < 9223372036854775808) : Go.bits .xor .i64 (a : Int) (b : Int) = ((a ^^^ b : Nat) : Int) := by
  have hx : a ^^^ b < 2 ^ 63 := Nat.xor_lt_two_pow (by omega) (by omega)
  show IntKind.i64.wrap ((BitVec.ofInt 64 (a : Int) ^^^ BitVec.ofInt 64 (b : Int)).toNat : Int) = _
  rw [BitVec.toNat_xor, BitVec.toNat_ofInt, BitVec.toNat_ofInt, IntKind.wrap_i64, show ((a : Int) % ((2 ^ 64 : Nat) : Int)).toNat = a by omega, show ((b : Int) % ((2 ^ 64 : Nat) : Int)).toNat = b by omega]
  omega
theorem i64_xor_b (a b : B) : Go.bits .xor .i64 (b2i a) (b2i b) = b2i (a ^^^ b) := by
  unfold b2i
  rw [i64_xor_nat _ _ (by have := a.toNat_lt; omega) (by have := b.toNat_lt; omega), UInt8.toNat_xor]
theorem dbl_big : ∀ a : B, (b2i a * 2 > 255 → Go.bits .xor .i64 (b2i a * 2) 285 = b2i (gdbl a)) ∧ (¬ b2i a * 2 > 255 → b2i a * 2 = b2i (gdbl a)) := all_bytes (by decide +kernel)
theorem bit_at : ∀ b : B, ∀ i : Fin 8, (Go.bits .and .u8 (shr .u8 (b2i b) (i.val : Int)) 1 = 1) ↔ gbit b i.val = true := all_bytes (by decide +kernel)
theorem wrap_small (x : Int) (h0 : -9223372036854775808 ≤ x) (h1 : x < 9223372036854775808) : wrap64 x = x := by
  unfold wrap64
  omega
theorem refmul_l0 (n : Nat) : ∀ (k i : Nat) (a b out : B), i + n = 8 → n < k → kinkeepref04_Mul.l0 k (b2i b) (b2i a) (b2i out) (i : Int) = some (b2i (out ^^^ gmulFrom n i a b)) := by
  induction n with
  | zero =>
    intro k i a b out hi hk
    obtain ⟨k, rfl⟩ : ∃ j, k = j + 1 := ⟨k - 1, by omega⟩
    obtain rfl : i = 8 := by omega
    have : b2i out % 256 = b2i out := Int.emod_eq_of_lt (b2i_nonneg _) (b2i_lt _)
    simp [kinkeepref04_Mul.l0, gmulFrom, this]
  | succ n ih =>
    intro k i a b out hi hk
    obtain ⟨k, rfl⟩ : ∃ j, k = j + 1 := ⟨k - 1, by omega⟩
    have hb := bit_at b ⟨i, by omega⟩
    have hd := dbl_big a
    have hn := b2i_nonneg a
    have hl := b2i_lt a
    have hw : wrap64 (b2i a * 2) = b2i a * 2 := wrap_small _ (by omega) (by omega)
    have hw2 : wrap64 ((i : Int) + 1) = ((i + 1 : Nat) : Int) := by rw [wrap_small _ (by omega) (by omega)]; rfl
    simp only [kinkeepref04_Mul.l0]
    rw [if_pos (by omega), if_pos (by omega), hw, hw2, i64_xor_b]
    simp only [gmulFrom]
    by_cases hbit : gbit b i = true
    · rw [if_pos (hb.2 hbit)]
      by_cases hbig : b2i a * 2 > 255
      · rw [if_pos hbig, hd.1 hbig, ih k (i + 1) _ b _ (by omega) (by omega), if_pos hbit, bx_assoc]
      · rw [if_neg hbig, hd.2 hbig, ih k (i + 1) _ b _ (by omega) (by omega), if_pos hbit, bx_assoc]
    · rw [if_neg (fun h => hbit (hb.1 h))]
      by_cases hbig : b2i a * 2 > 255
      · rw [if_pos hbig, hd.1 hbig, ih k (i + 1) _ b _ (by omega) (by omega), if_neg hbit, zero_bx]
      · rw [if_neg hbig, hd.2 hbig, ih k (i + 1) _ b _ (by omega) (by omega), if_neg hbit, zero_bx]
theorem refmul_b (a b : B) {k : Nat} (hk : 9 ≤ k) : kinkeepref04_Mul.f k (b2i a) (b2i b) = some (b2i (gmul a b)) := by
  unfold kinkeepref04_Mul.f
  rw [wrap_small _ (by have := b2i_nonneg a; omega) (by have := b2i_lt a; omega)]
  have := refmul_l0 8 k 0 a b 0 rfl (by omega)
  rw [zero_bx] at this
  exact this
theorem toB_inv (i : Nat) (h : i < 256) : ((i : Int)) % 256 = b2i (UInt8.ofNat i) := by
  unfold b2i
  rw [UInt8.toNat_ofNat']
  omega
theorem refinv_l0 (a : B) (n : Nat) : ∀ (k i : Nat), i + n = 256 → n + 10 ≤ k → 1 ≤ i → (∀ j, 1 ≤ j → j < i → gmul a (UInt8.ofNat j) ≠ 1) → kinkeepref04_Inv.l0 k (b2i a) (i : Int) = some (b2i (ginv a)) := by
  induction n with
  | zero =>
    intro k i hi hk h1 hno
    obtain ⟨k, rfl⟩ : ∃ j, k = j + 1 := ⟨k - 1, by omega⟩
    have ha : a = 0 := by
      by_cases ha : a = 0
      · exact ha
      · exfalso
        have h := gmul_ginv a ha
        have hne := ginv_ne_zero ha
        refine hno (ginv a).toNat ?_ (by have := (ginv a).toNat_lt; omega) (by rw [UInt8.ofNat_toNat]; exact h)
        have : (ginv a).toNat ≠ 0 := fun e => hne (UInt8.toNat_inj.1 e)
        omega
    subst ha
    simp only [kinkeepref04_Inv.l0]
    rw [if_neg (by omega), ginv_zero]
    rfl
  | succ n ih =>
    intro k i hi hk h1 hno
    obtain ⟨k, rfl⟩ : ∃ j, k = j + 1 := ⟨k - 1, by omega⟩
    simp only [kinkeepref04_Inv.l0]
    rw [if_pos (by omega), toB_inv i (by omega), refmul_b a _ (by omega)]
    simp only [Option.bind_some]
    by_cases hx : gmul a (UInt8.ofNat i) = 1
    · rw [if_pos (by rw [hx]; rfl)]
      congr 2
      have ha : a ≠ 0 := fun e => by rw [e, zero_gmul] at hx; exact absurd hx (by decide)
      have := congrArg (gmul (ginv a)) hx
      rw [← gmul_assoc, ginv_gmul a ha, gmul_one, one_gmul] at this
      exact this
    · rw [if_neg (show ¬ b2i (gmul a (UInt8.ofNat i)) = 1 from fun e => hx (b2i_inj e)), show wrap64 ((i : Int) + 1) = ((i + 1 : Nat) : Int) by rw [wrap_small _ (by omega) (by omega)]; rfl]
      refine ih k (i + 1) (by omega) (by omega) (by omega) (fun j h2 h3 => ?_)
      by_cases hj : j = i
      · subst hj; exact hx
      · exact hno j h2 (by omega)
theorem refinv_b (a : B) {k : Nat} (hk : 266 ≤ k) : kinkeepref04_Inv.f k (b2i a) = some (b2i (ginv a)) :=
  refinv_l0 a 255 k 1 rfl (by omega) (by omega) (fun j h1 h2 => absurd h1 (by omega))
theorem refzero_l0 (r c : Nat) (hr : r ≤ 1000000) (hc : c ≤ 281474976710656) (n : Nat) : ∀ (k i : Nat), i + n = r → n < k → kinkeepref04_Zero.l0 k (r : Int) (c : Int) (List.replicate i (List.replicate c 0)) (i : Int) = some (List.replicate r (List.replicate c 0)) := by
  induction n with
  | zero =>
    intro k i hi hk
    obtain ⟨k, rfl⟩ : ∃ j, k = j + 1 := ⟨k - 1, by omega⟩
    obtain rfl : i = r := by omega
    simp only [kinkeepref04_Zero.l0]
    rw [if_neg (by omega)]
  | succ n ih =>
    intro k i hi hk
    obtain ⟨k, rfl⟩ : ∃ j, k = j + 1 := ⟨k - 1, by omega⟩
    simp only [kinkeepref04_Zero.l0]
    rw [if_pos (by omega), if_pos (by omega), if_pos (by omega), if_pos (by rw [List.length_replicate]; omega), show wrap64 ((i : Int) + 1) = ((i + 1 : Nat) : Int) by rw [wrap_small _ (by omega) (by omega)]; rfl, Int.toNat_natCast, show List.replicate i (List.replicate c (0 : Int)) ++ [List.replicate c 0] = List.replicate (i + 1) (List.replicate c 0) by rw [List.replicate_succ']]
    exact ih k (i + 1) (by omega) (by omega)
theorem refzero_b (r c : Nat) (hr : r ≤ 1000000) (hc : c ≤ 281474976710656) {k : Nat} (hk : r < k) : kinkeepref04_Zero.f k (r : Int) (c : Int) = some (up2 (List.replicate r (List.replicate c 0))) := by
  rw [← up2_replicate, ← up_zeros]
  exact refzero_l0 r c hr hc r k 0 (by omega) hk
theorem same_l0 (l : List (List Int)) (hl : l.length ≤ 1000000) (n : Nat) : ∀ (k i : Nat), i + n = l.length → n < k → kinkeepref04_Same.l0 k l l (i : Int) = some true := by
  induction n with
  | zero =>
    intro k i hi hk
    obtain ⟨k, rfl⟩ : ∃ j, k = j + 1 := ⟨k - 1, by omega⟩
    simp only [kinkeepref04_Same.l0]
    rw [if_neg (by omega)]
  | succ n ih =>
    intro k i hi hk
    obtain ⟨k, rfl⟩ : ∃ j, k = j + 1 := ⟨k - 1, by omega⟩
    simp only [kinkeepref04_Same.l0]
    rw [if_pos (by omega), if_pos (by omega), if_pos (by omega), if_pos trivial, show wrap64 ((i : Int) + 1) = ((i + 1 : Nat) : Int) by rw [wrap_small _ (by omega) (by omega)]; rfl]
    exact ih k (i + 1) (by omega) (by omega)
theorem same_self (l : List (List Int)) (hl : l.length ≤ 1000000) {k : Nat} (hk : l.length < k) : kinkeepref04_Same.f k l l = some true := by
  unfold kinkeepref04_Same.f
  rw [if_pos rfl]
  exact same_l0 l hl l.length k 0 (by omega) hk
theorem ints_l0 (l : List Int) (hl : l.length ≤ 1000000) (n : Nat) : ∀ (k i : Nat), i + n = l.length → n < k → kinkeepref04_Ints.l0 k l l (i : Int) = some true := by
  induction n with
  | zero =>
    intro k i hi hk
    obtain ⟨k, rfl⟩ : ∃ j, k = j + 1 := ⟨k - 1, by omega⟩
    simp only [kinkeepref04_Ints.l0]
    rw [if_neg (by omega)]
  | succ n ih =>
    intro k i hi hk
    obtain ⟨k, rfl⟩ : ∃ j, k = j + 1 := ⟨k - 1, by omega⟩
    simp only [kinkeepref04_Ints.l0]
    rw [if_pos (by omega), if_pos (by omega), if_pos (by omega), if_pos trivial, show wrap64 ((i : Int) + 1) = ((i + 1 : Nat) : Int) by rw [wrap_small _ (by omega) (by omega)]; rfl]
    exact ih k (i + 1) (by omega) (by omega)
theorem ints_self (l : List Int) (hl : l.length ≤ 1000000) {k : Nat} (hk : l.length < k) : kinkeepref04_Ints.f k l l = some true := by
  unfold kinkeepref04_Ints.f
  rw [if_pos rfl]
  exact ints_l0 l hl l.length k 0 (by omega) hk
end Go.Proofs.Ytpkghpljgjlmjaa.K
/- Identity, Cauchy and Vandermonde of the program and of the reference, plain. -/
namespace Go.Proofs.Ytpkghpljgjlmjaa.K
open Go.RowKit Go.Proofs.YtpkghpljgjlmjaaW.PrintWords Go.Proofs.YtpkghpljgjlmjaaW.PrintLast Go.Proofs.YtpkghpljgjlmjaaW.PrintMore Kin
set_option linter.unusedVariables false
def idR (n i a : Nat) : List B := (List.range n).map fun b => if a = b ∧ a < i then 1 else 0
def idUpto (n i : Nat) : List (List B) := (List.range n).map fun a => idR n i a
def idM (n : Nat) : List (List B) := (List.range n).map fun a => (List.range n).map fun b => if a = b then 1 else 0
theorem idUpto_length (n i : Nat) : (idUpto n i).length = n := by simp [idUpto]
theorem idR_length (n i a : Nat) : (idR n i a).length = n := by simp [idR]
theorem idUpto_get (n i a : Nat) (ha : a < n) : (idUpto n i).getD a [] = idR n i a := by
  simp [idUpto, List.getD_eq_getElem?_getD, List.getElem?_map, List.getElem?_range ha]
theorem idUpto_zero (n : Nat) : idUpto n 0 = List.replicate n (List.replicate n 0) := by
  apply List.ext_getElem
  · simp [idUpto]
  · intro a h1 h2
    simp only [idUpto, idR, List.getElem_map, List.getElem_range, List.getElem_replicate]
    apply List.ext_getElem
    · simp
    · intro b h3 h4
      simp
theorem idUpto_all (n : Nat) : idUpto n n = idM n := by
  unfold idUpto idM idR
  apply List.map_congr_left
  intro a ha
  rw [List.mem_range] at ha
  apply List.map_congr_left
  intro b _
  by_cases h : a = b
  · rw [if_pos ⟨h, ha⟩, if_pos h]
  · rw [if_neg (fun e => h e.1), if_neg h]
theorem idUpto_step (n i : Nat) (hi : i < n) : (idUpto n i).set i (((idUpto n i).getD i []).set i 1) = idUpto n (i + 1) := by
  rw [idUpto_get _ _ _ hi]
  apply List.ext_getElem
  · simp [idUpto]
  · intro a h1 h2
    rw [List.getElem_set]
    simp only [idUpto, List.getElem_map, List.getElem_range]
    by_cases ha : i = a
    · subst ha
      rw [if_pos rfl]
      apply List.ext_getElem
      · simp [idR]
      · intro b h3 h4
        rw [List.getElem_set]
        simp only [idR, List.getElem_map, List.getElem_range]
        by_cases hb : i = b
        · subst hb
          rw [if_pos rfl, if_pos ⟨rfl, by omega⟩]
        · rw [if_neg hb, if_neg (fun e => hb e.1), if_neg (fun e => hb e.1)]
    · rw [if_neg ha]
      unfold idR
      apply List.map_congr_left
      intro b _
      congr 1
      rw [eq_iff_iff]
      omega
theorem wrap_nx (i : Nat) (h : i < 9223372036854775807) : wrap64 ((i : Int) + 1) = ((i + 1 : Nat) : Int) := by rw [wrap_small _ (by omega) (by omega)]; rfl
theorem identity_l0 (n : Nat) (hn : n ≤ 1000000) (m : Nat) : ∀ (k i : Nat), i + m = n → m < k → matrix_Identity.l0 k (up2 (idUpto n i)) (n : Int) (i : Int) = some (up2 (idM n)) := by
  induction m with
  | zero =>
    intro k i hi hk
    obtain ⟨k, rfl⟩ : ∃ j, k = j + 1 := ⟨k - 1, by omega⟩
    obtain rfl : i = n := by omega
    simp only [matrix_Identity.l0]
    rw [if_neg (by omega), idUpto_all]
  | succ m ih =>
    intro k i hi hk
    obtain ⟨k, rfl⟩ : ∃ j, k = j + 1 := ⟨k - 1, by omega⟩
    simp only [matrix_Identity.l0]
    rw [if_pos (by omega), if_pos (by omega), if_pos (by rw [up2_length, idUpto_length]; omega), rd_L1_up2, if_pos (by rw [up_length, idUpto_get _ _ _ (by omega), idR_length]; omega), wrap_nx _ (by omega), Int.toNat_natCast, ← b2i_one, set_up, set_up2, idUpto_step n i (by omega)]
    exact ih k (i + 1) (by omega) (by omega)
theorem identity_b (n : Nat) (hn : n ≤ 64) {k : Nat} (hk : n < k) : matrix_Identity.f k (n : Int) = some (up2 (idM n)) := by
  unfold matrix_Identity.f
  rw [size_eq, decide_eq_true hn]
  simp only [Option.bind_some, if_pos]
  rw [zero_eq n n (by omega) (by omega) hk, zeros_up2, ← idUpto_zero]
  simp only [Option.bind_some]
  rw [up2_length, idUpto_length]
  exact identity_l0 n (by omega) n k 0 (by omega) hk
theorem identity_bad (a : Int) (h : ¬ (0 ≤ a ∧ a ≤ 64)) (k : Nat) : matrix_Identity.f k a = some [] := by
  unfold matrix_Identity.f
  rw [size_int, decide_eq_false h]
  rfl
theorem refidentity_l0 (n : Nat) (hn : n ≤ 1000000) (m : Nat) : ∀ (k i : Nat), i + m = n → m < k → kinkeepref04_Identity.l0 k (n : Int) (up2 (idUpto n i)) (i : Int) = some (up2 (idM n)) := by
  induction m with
  | zero =>
    intro k i hi hk
    obtain ⟨k, rfl⟩ : ∃ j, k = j + 1 := ⟨k - 1, by omega⟩
    obtain rfl : i = n := by omega
    simp only [kinkeepref04_Identity.l0]
    rw [if_neg (by omega), idUpto_all]
  | succ m ih =>
    intro k i hi hk
    obtain ⟨k, rfl⟩ : ∃ j, k = j + 1 := ⟨k - 1, by omega⟩
    simp only [kinkeepref04_Identity.l0]
    rw [if_pos (by omega), if_pos (by omega), if_pos (by rw [up2_length, idUpto_length]; omega), rd_L1_up2, if_pos (by rw [up_length, idUpto_get _ _ _ (by omega), idR_length]; omega), wrap_nx _ (by omega), Int.toNat_natCast, ← b2i_one, set_up, set_up2, idUpto_step n i (by omega)]
    exact ih k (i + 1) (by omega) (by omega)
theorem refidentity_b (n : Nat) (hn : n ≤ 64) {k : Nat} (hk : n < k) : kinkeepref04_Identity.f k (n : Int) = some (up2 (idM n)) := by
  unfold kinkeepref04_Identity.f
  rw [refzero_b n n (by omega) (by omega) hk, ← idUpto_zero]
  simp only [Option.bind_some]
  exact refidentity_l0 n (by omega) n k 0 (by omega) hk
theorem refcauchy_el (cols j i : Nat) (h1 : cols ≤ 64) (h2 : j < 64) (h3 : i < 64) {k : Nat} (hk : 266 ≤ k) : kinkeepref04_Inv.f k ((Go.bits .xor .i64 (wrap64 ((cols : Int) + (j : Int))) (i : Int)) % 256) = some (b2i (cauchyEl cols j i)) := by
  have e : (Go.bits .xor .i64 (wrap64 ((cols : Int) + (j : Int))) (i : Int)) % 256 = b2i (UInt8.ofNat (cols + j) ^^^ UInt8.ofNat i) := by
    rw [wrap_small _ (by omega) (by omega), show (cols : Int) + (j : Int) = ((cols + j : Nat) : Int) from rfl, i64_xor_nat _ _ (by omega) (by omega)]
    have hx : (cols + j) ^^^ i < 2 ^ 8 := Nat.xor_lt_two_pow (by omega) (by omega)
    unfold b2i
    rw [UInt8.toNat_xor, UInt8.toNat_ofNat', UInt8.toNat_ofNat', show (cols + j) % 2 ^ 8 = cols + j by omega, show i % 2 ^ 8 = i by omega]
    omega
  rw [e, refinv_b _ hk]
  rfl
theorem refcauchy_l1 (rows cols : Nat) (hr : rows ≤ 64) (hc : cols ≤ 64) (i : Nat) (hi : i < rows) (m : Nat) : ∀ (K k : Nat), k + m = cols → m + 268 ≤ K →
    kinkeepref04_Cauchy.l1 K (rows : Int) (cols : Int) (up2 (fillM rows cols (cauchyEl cols) i k)) (i : Int) (k : Int) = kinkeepref04_Cauchy.l0 (K - m - 1) (rows : Int) (cols : Int) (up2 (fillM rows cols (cauchyEl cols) (i + 1) 0)) ((i + 1 : Nat) : Int) := by
  induction m with
  | zero =>
    intro K k hk hK
    obtain ⟨K, rfl⟩ : ∃ j, K = j + 1 := ⟨K - 1, by omega⟩
    obtain rfl : k = cols := by omega
    simp only [kinkeepref04_Cauchy.l1]
    rw [if_neg (by omega), wrap_nx _ (by omega), fillM_next]
    rfl
  | succ m ih =>
    intro K k hk hK
    obtain ⟨K, rfl⟩ : ∃ j, K = j + 1 := ⟨K - 1, by omega⟩
    simp only [kinkeepref04_Cauchy.l1]
    rw [if_pos (by omega), if_pos (by omega), if_pos (by rw [up2_length, fillM_length]; omega), refcauchy_el cols i k hc (by omega) (by omega) (by omega)]
    simp only [Option.bind_some]
    rw [if_pos (by omega), rd_L1_up2, if_pos (by rw [up_length, fillM_get _ _ _ _ _ _ hi, fillR_length]; omega), wrap_nx _ (by omega), Int.toNat_natCast, Int.toNat_natCast, set_up, set_up2, fillM_step rows cols _ i k hi (by omega), ih K (k + 1) (by omega) (by omega)]
    congr 1
    omega
theorem refcauchy_l0 (rows cols : Nat) (hr : rows ≤ 64) (hc : cols ≤ 64) (n : Nat) : ∀ (K i : Nat), i + n = rows → n * (cols + 2) + 300 ≤ K + cols →
    kinkeepref04_Cauchy.l0 (K + cols) (rows : Int) (cols : Int) (up2 (fillM rows cols (cauchyEl cols) i 0)) (i : Int) = some (up2 (cauchyM rows cols)) := by
  induction n with
  | zero =>
    intro K i hi hK
    obtain ⟨L, hL⟩ : ∃ j, K + cols = j + 1 := ⟨K + cols - 1, by omega⟩
    rw [hL]
    obtain rfl : i = rows := by omega
    simp only [kinkeepref04_Cauchy.l0]
    rw [if_neg (by omega), fillM_all]
    rfl
  | succ n ih =>
    intro K i hi hK
    obtain ⟨L, hL⟩ : ∃ j, K + cols = j + 1 := ⟨K + cols - 1, by omega⟩
    rw [hL]
    simp only [kinkeepref04_Cauchy.l0]
    rw [Nat.add_mul] at hK
    rw [if_pos (by omega), show (0 : Int) = ((0 : Nat) : Int) from rfl, refcauchy_l1 rows cols hr hc i (by omega) cols L 0 (by omega) (by omega)]
    have := ih (L - cols - 1 - cols) (i + 1) (by omega) (by omega)
    rw [show L - cols - 1 - cols + cols = L - cols - 1 by omega] at this
    exact this
theorem refcauchy_b (rows cols : Nat) (hr : rows ≤ 64) (hc : cols ≤ 64) {k : Nat} (hk : 10000 ≤ k) : kinkeepref04_Cauchy.f k (rows : Int) (cols : Int) = some (up2 (cauchyM rows cols)) := by
  unfold kinkeepref04_Cauchy.f
  rw [refzero_b rows cols (by omega) (by omega) (by omega), ← fillM_zero rows cols (cauchyEl cols)]
  simp only [Option.bind_some]
  have h := refcauchy_l0 rows cols hr hc rows (k - cols) 0 (by omega) (by
    have := Nat.mul_le_mul hr (show cols + 2 ≤ 66 by omega)
    omega)
  rw [show k - cols + cols = k by omega] at h
  exact h
theorem refvander_l1 (rows cols : Nat) (hr : rows ≤ 64) (hc : cols ≤ 64) (i : Nat) (hi : i < rows) (m : Nat) : ∀ (K k : Nat), k + m = cols → m + 20 ≤ K →
    kinkeepref04_Vandermonde.l1 K (rows : Int) (cols : Int) (up2 (fillM rows cols vanderEl i k)) (i : Int) (b2i (vanderEl i k)) (k : Int) = kinkeepref04_Vandermonde.l0 (K - m - 1) (rows : Int) (cols : Int) (up2 (fillM rows cols vanderEl (i + 1) 0)) ((i + 1 : Nat) : Int) := by
  induction m with
  | zero =>
    intro K k hk hK
    obtain ⟨K, rfl⟩ : ∃ j, K = j + 1 := ⟨K - 1, by omega⟩
    obtain rfl : k = cols := by omega
    simp only [kinkeepref04_Vandermonde.l1]
    rw [if_neg (by omega), wrap_nx _ (by omega), fillM_next]
    rfl
  | succ m ih =>
    intro K k hk hK
    obtain ⟨K, rfl⟩ : ∃ j, K = j + 1 := ⟨K - 1, by omega⟩
    simp only [kinkeepref04_Vandermonde.l1]
    rw [if_pos (by omega), if_pos (by omega), if_pos (by rw [up2_length, fillM_length]; omega), if_pos (by omega), rd_L1_up2, if_pos (by rw [up_length, fillM_get _ _ _ _ _ _ hi, fillR_length]; omega), toB_inv i (by omega), refmul_b _ _ (by omega)]
    simp only [Option.bind_some]
    rw [wrap_nx _ (by omega), Int.toNat_natCast, Int.toNat_natCast, set_up, set_up2, fillM_step rows cols _ i k hi (by omega), show gmul (vanderEl i k) (UInt8.ofNat i) = vanderEl i (k + 1) from rfl, ih K (k + 1) (by omega) (by omega)]
    congr 1
    omega
theorem refvander_l0 (rows cols : Nat) (hr : rows ≤ 64) (hc : cols ≤ 64) (n : Nat) : ∀ (K i : Nat), i + n = rows → n * (cols + 2) + 300 ≤ K + cols →
    kinkeepref04_Vandermonde.l0 (K + cols) (rows : Int) (cols : Int) (up2 (fillM rows cols vanderEl i 0)) (i : Int) = some (up2 (vanderM rows cols)) := by
  induction n with
  | zero =>
    intro K i hi hK
    obtain ⟨L, hL⟩ : ∃ j, K + cols = j + 1 := ⟨K + cols - 1, by omega⟩
    rw [hL]
    obtain rfl : i = rows := by omega
    simp only [kinkeepref04_Vandermonde.l0]
    rw [if_neg (by omega), fillM_all]
    rfl
  | succ n ih =>
    intro K i hi hK
    obtain ⟨L, hL⟩ : ∃ j, K + cols = j + 1 := ⟨K + cols - 1, by omega⟩
    rw [hL]
    simp only [kinkeepref04_Vandermonde.l0]
    rw [Nat.add_mul] at hK
    have h1 := refvander_l1 rows cols hr hc i (by omega) cols L 0 (by omega) (by omega)
    rw [show b2i (vanderEl i 0) = 1 from rfl] at h1
    rw [if_pos (by omega), show (0 : Int) = ((0 : Nat) : Int) from rfl, h1]
    have := ih (L - cols - 1 - cols) (i + 1) (by omega) (by omega)
    rw [show L - cols - 1 - cols + cols = L - cols - 1 by omega] at this
    exact this
theorem refvander_b (rows cols : Nat) (hr : rows ≤ 64) (hc : cols ≤ 64) {k : Nat} (hk : 10000 ≤ k) : kinkeepref04_Vandermonde.f k (rows : Int) (cols : Int) = some (up2 (vanderM rows cols)) := by
  unfold kinkeepref04_Vandermonde.f
  rw [refzero_b rows cols (by omega) (by omega) (by omega), ← fillM_zero rows cols vanderEl]
  simp only [Option.bind_some]
  have h := refvander_l0 rows cols hr hc rows (k - cols) 0 (by omega) (by
    have := Nat.mul_le_mul hr (show cols + 2 ≤ 66 by omega)
    omega)
  rw [show k - cols + cols = k by omega] at h
  exact h
end Go.Proofs.Ytpkghpljgjlmjaa.K
/- The plain law of MatrixNamed: what the printed function computes is true. -/
namespace Go.Proofs.Ytpkghpljgjlmjaa.Pure
open Go.RowKit Go.Proofs.Ytpkghpljgjlmjaa.K Go.Proofs.YtpkghpljgjlmjaaW.PrintWords Go.Proofs.YtpkghpljgjlmjaaW.PrintLast
set_option linter.unusedVariables false
theorem named_j2_bad (k : Nat) (a1 a2 : Int) : kinkeeplaw04_MatrixNamed.j2 (k + 1) a1 a2 [] 1 [] 1 true = some true := by
  simp only [kinkeeplaw04_MatrixNamed.j2]
  rw [if_pos trivial, kinkeeplaw04_awake.f]
  rfl
theorem named_j2_good (k rows cols : Nat) (hk : 10000 ≤ k) (hr : rows ≤ 64) (hc : cols ≤ 64) : kinkeeplaw04_MatrixNamed.j2 (k + 1) (rows : Int) (cols : Int) (up2 (cauchyM rows cols)) 0 (up2 (vanderM rows cols)) 0 false = some true := by
  have l1 : (up2 (cauchyM rows cols)).length ≤ 64 := by rw [up2_length]; simp [cauchyM]; exact hr
  have l2 : (up2 (vanderM rows cols)).length ≤ 64 := by rw [up2_length]; simp [vanderM]; exact hr
  simp only [kinkeeplaw04_MatrixNamed.j2]
  rw [if_neg (by simp), kinkeeplaw04_awake.f]
  simp only [Option.bind_some]
  rw [if_pos trivial, if_pos trivial, if_pos trivial, refcauchy_b rows cols hr hc hk]
  simp only [Option.bind_some]
  rw [same_self _ (by omega) (by omega)]
  simp only [Option.bind_some]
  rw [if_pos trivial, refvander_b rows cols hr hc hk]
  simp only [Option.bind_some]
  rw [same_self _ (by omega) (by omega)]
  rfl
theorem named_j1 (k : Nat) (hk : 10002 ≤ k) (a1 a2 : Int) : ((matrix_Cauchy.f a1 a2).bind fun b => (matrix_Vandermonde.f a1 a2).bind fun c => kinkeeplaw04_MatrixNamed.j1 k a1 a2 b.1 b.2 c.1 c.2) = some true := by
  obtain ⟨k, rfl⟩ : ∃ j, k = j + 2 := ⟨k - 2, by omega⟩
  unfold matrix_Cauchy.f matrix_Vandermonde.f
  by_cases hb : (0 ≤ a1 ∧ a1 ≤ 64) ∧ (0 ≤ a2 ∧ a2 ≤ 64)
  · rw [if_pos hb, if_pos hb]
    obtain ⟨⟨h0, h1⟩, h2, h3⟩ := hb
    obtain ⟨rows, rfl⟩ := Int.eq_ofNat_of_zero_le h0
    obtain ⟨cols, rfl⟩ := Int.eq_ofNat_of_zero_le h2
    rw [Int.toNat_natCast, Int.toNat_natCast]
    simp only [Option.bind_some, kinkeeplaw04_MatrixNamed.j1]
    rw [if_neg (by omega), if_neg (by omega), if_neg (by omega), show decide ((cols : Int) > 64) = false by rw [decide_eq_false_iff_not]; omega]
    exact named_j2_good k rows cols (by omega) (by omega) (by omega)
  · rw [if_neg hb, if_neg hb]
    simp only [Option.bind_some, kinkeeplaw04_MatrixNamed.j1]
    have h := named_j2_bad k a1 a2
    by_cases c1 : a1 < 0
    · rw [if_pos c1]; exact h
    · rw [if_neg c1]
      by_cases c2 : a1 > 64
      · rw [if_pos c2]; exact h
      · rw [if_neg c2]
        by_cases c3 : a2 < 0
        · rw [if_pos c3]; exact h
        · rw [if_neg c3, show decide (a2 > 64) = true by rw [decide_eq_true_eq]; omega]
          exact h
theorem named_rest (k : Nat) (hk : 10003 ≤ k) (a0 a1 a2 : Int) (t : List (List Int)) (x : Bool) (h : ∀ j, 10002 ≤ j → ∀ b1 b2 c1 c2, kinkeeplaw04_MatrixNamed.j0 (j + 1) a0 a1 a2 t b1 b2 c1 c2 x = kinkeeplaw04_MatrixNamed.j1 j a1 a2 b1 b2 c1 c2) :
    ((matrix_Cauchy.f a1 a2).bind fun b => (matrix_Vandermonde.f a1 a2).bind fun c => kinkeeplaw04_MatrixNamed.j0 k a0 a1 a2 t b.1 b.2 c.1 c.2 x) = some true := by
  obtain ⟨k, rfl⟩ : ∃ j, k = j + 1 := ⟨k - 1, by omega⟩
  rw [← named_j1 k (by omega) a1 a2]
  congr 1
  funext b
  congr 1
  funext c
  exact h k (by omega) _ _ _ _
theorem named_true (k : Nat) (hk : 10003 ≤ k) (a0 a1 a2 : Int) : kinkeeplaw04_MatrixNamed.f k a0 a1 a2 = some true := by
  unfold kinkeeplaw04_MatrixNamed.f
  by_cases hA : 0 ≤ a0 ∧ a0 ≤ 64
  · obtain ⟨n, rfl⟩ := Int.eq_ofNat_of_zero_le hA.1
    rw [identity_b n (by omega) (by omega)]
    simp only [Option.bind_some]
    have h := named_rest k hk (n : Int) a1 a2 (up2 (idM n)) false (fun j hj b1 b2 c1 c2 => by
      simp only [kinkeeplaw04_MatrixNamed.j0]
      rw [if_neg (by simp), refidentity_b n (by omega) (by omega)]
      simp only [Option.bind_some]
      rw [same_self _ (by rw [up2_length]; simp [idM]; omega) (by rw [up2_length]; simp [idM]; omega)]
      rfl)
    rw [← h]
    congr 1
    funext b
    congr 1
    funext c
    rw [if_neg (by omega), show decide ((n : Int) > 64) = false by rw [decide_eq_false_iff_not]; omega]
  · rw [identity_bad a0 hA]
    simp only [Option.bind_some]
    have h := named_rest k hk a0 a1 a2 [] true (fun j hj b1 b2 c1 c2 => by
      simp only [kinkeeplaw04_MatrixNamed.j0]
      rfl)
    rw [← h]
    congr 1
    funext b
    congr 1
    funext c
    by_cases c1 : a0 < 0
    · rw [if_pos c1]
    · rw [if_neg c1, show decide (a0 > 64) = true by rw [decide_eq_true_eq]; omega]
theorem MatrixNamed : kinkeeplaw04_MatrixNamed.Pure := by
  intro a0 a1 a2 _ _ _
  obtain ⟨k, hk⟩ : ∃ k, 10003 ≤ k := ⟨10003, Nat.le_refl _⟩
  exact ⟨k, named_true k hk a0 a1 a2⟩
end Go.Proofs.Ytpkghpljgjlmjaa.Pure
