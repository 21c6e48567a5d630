/- Walks and plain facts behind the laws of package matrix. No conditions. -/
import Derived.Test.YtpkghpljgjlmjaaClaims1
import Derived.Outline
/- Reduce of the reference: its walk (the print of all but two regions, those by hand). -/
namespace Go.Proofs.Ytpkghpljgjlmjaa.K
open Go.RowKit Go.Proofs.YtpkghpljgjlmjaaW.PrintWords Go.Proofs.YtpkghpljgjlmjaaW.PrintLast Go.Proofs.YtpkghpljgjlmjaaW.PrintMore
attribute [local go_sem] max2_int min2_int max_two min_two max_three min_three max_four min_four   -- for this text's walks alone
set_option linter.unusedVariables false
set_option linter.unusedSimpArgs false

def refred.T20 : Bool × List (List Nat × List Nat) := (true, [([], []), ([], []), ([0, 1], [0, 1]), ([2], [2]), ([], []), ([], []), ([], []), ([5, 6], [5, 6]), ([7], [7]), ([], []), ([8, 9], [8, 9]), ([10], [10]), ([], []), ([11, 12], [11, 12]), ([3, 4, 0, 1, 2, 3, 4, 5, 6, 7, 8, 9, 10, 11, 12, 13], [3, 4]), ([14, 13, 13, 0, 1, 2, 3, 4, 5, 6, 7, 8, 9, 10, 11, 12, 13], [13, 14])])
def refred.B20 : List Nat := [0, 0, 3, 7, 0, 0, 0, 96, 224, 0, 992, 2016, 0, 8160, 16383, 32767]
theorem refred.tab20 : rtab .any (opsOf Try.f20 20) = refred.T20 := by kernel_rfl
theorem refred.bits20 : waitsOk refred.T20.2 refred.B20 = true := by kernel_rfl
def refred.T28 : Bool × List (List Nat × List Nat) := (true, [([], []), ([], []), ([0, 1], [0, 1]), ([2], [2]), ([], []), ([], []), ([], []), ([5, 6], [5, 6]), ([7], [7]), ([], []), ([8, 9], [8, 9]), ([10], [10]), ([], []), ([], []), ([], []), ([13, 14], [13, 14]), ([15], [15]), ([], []), ([16, 17], [16, 17]), ([18], [18]), ([12, 19], [12, 19]), ([11, 20], [11, 20]), ([3, 4, 0, 1, 2, 3, 4, 5, 6, 7, 8, 9, 10, 11, 12, 13, 14, 15, 16, 17, 18, 19, 20, 21], [3, 4]), ([22, 21, 20, 0, 1, 2, 3, 4, 5, 6, 7, 8, 9, 10, 11, 12, 13, 14, 15, 16, 17, 18, 19, 20, 21], [21, 22])])
def refred.B28 : List Nat := [0, 0, 3, 7, 0, 0, 0, 96, 224, 0, 992, 2016, 0, 0, 0, 24576, 57344, 0, 253952, 516096, 1044480, 2097120, 4194303, 8388607]
theorem refred.tab28 : rtab .any (opsOf Try.f20 28) = refred.T28 := by kernel_rfl
theorem refred.bits28 : waitsOk refred.T28.2 refred.B28 = true := by kernel_rfl
def f20.T5 : Bool × List (List Nat × List Nat) := (true, [([], []), ([], []), ([0, 1], [0, 1]), ([2], [2]), ([], []), ([], []), ([4, 5], [4, 5]), ([6], [6]), ([3, 7], [3, 7])])
def f20.B5 : List Nat := [0, 0, 3, 7, 0, 0, 48, 112, 255]
theorem f20.tab5 : rtab .any (opsOf Try.f20 5) = f20.T5 := by kernel_rfl
theorem f20.bits5 : waitsOk f20.T5.2 f20.B5 = true := by kernel_rfl
def f20.T15 : Bool × List (List Nat × List Nat) := (true, [([], []), ([], []), ([], []), ([], []), ([], []), ([], []), ([4, 5], [4, 5]), ([6], [6]), ([], []), ([], []), ([8, 9], [8, 9]), ([10], [10]), ([0, 1, 0, 1, 4, 5, 6, 7, 11], [0, 1]), ([12, 7, 0, 1, 4, 5, 6, 7, 11], [7, 12]), ([2, 3, 0, 1, 2, 3, 4, 5, 6, 7, 8, 9, 10, 11, 12, 13], [2, 3]), ([14, 11, 13, 0, 1, 2, 3, 4, 5, 6, 7, 8, 9, 10, 11, 12, 13], [11, 14])])
def f20.B15 : List Nat := [0, 0, 0, 0, 0, 0, 48, 112, 0, 0, 768, 1792, 4083, 8179, 16383, 32767]
theorem f20.tab15 : rtab .any (opsOf Try.f20 15) = f20.T15 := by kernel_rfl
theorem f20.bits15 : waitsOk f20.T15.2 f20.B15 = true := by kernel_rfl
set_option maxHeartbeats 8000000 in
set_option maxRecDepth 100000 in
theorem refred.calls (k : Nat) (A0 : Option Addr) (c0 : Nat) (l0 : List (List Int)) (r1 : List (List Int)) (r2 : List Int) (w : World) (hr0 : Kd.C (Kd.slice 5 (Kd.int .u8)) w A0 l0.length l0) (hc0 : l0.length ≤ c0) (h : refred.f k l0 = some (r1, r2)) :
    Calls Try.prog 20 #[.slice A0 l0.length c0] w fun e w' => ∃ v0_ v1_ : Value, e = .returned (.tuple #[v0_, v1_]) ∧ Kd.S (Kd.slice 5 (Kd.int .u8)) 34 w' w.heap.size (fun _ => True) v0_ r1 ∧ Kd.R (Kd.int .i64) 3 w' w.heap.size (fun _ => True) v1_ r2 ∧ Below w.heap.size w w' := by
  have HR0 := Aside0.mk hr0
  have HC0 := Aside0.mk hc0
  clear hr0 hc0
  have HB := Aside0.mk (Below.refl w.heap.size w)
  have H : ((kinkeepref04_Cols.f l0).bind fun t101 => ((kinkeepref04_Zero.f k (l0.length : Int) t101).bind fun t102 => (refred.l0 k l0 t102 0))) = some (r1, r2) := h
  clear h
  replace H := Option.bind_eq_some_iff.mp H
  obtain ⟨t101, A20, H⟩ := H
  replace H : ((kinkeepref04_Zero.f k (l0.length : Int) t101).bind fun t102 => (refred.l0 k l0 t102 0)) = some (r1, r2) := H
  have A2 := Aside0.mk A20
  clear A20
  replace H := Option.bind_eq_some_iff.mp H
  obtain ⟨t102, A30, H⟩ := H
  replace H : (refred.l0 k l0 t102 0) = some (r1, r2) := H
  have A3 := Aside0.mk A30
  clear A30
  have H' := Aside0.mk H
  clear H
  go_enter Try.func20, Try.ntmps20
  go_wp2_with (first | ((with_reducible refine gate_callee (f := 21) rfl ?_); refine goesL_ (some 18) rfl rfl Try.func21 (by kernel_rfl) rfl #[.slice A0 l0.length c0] rfl (by (try simp only [List.map_toArray, List.map_cons, List.map_nil]); first | done | rfl | (simp only [List.length_drop, List.length_take]; rfl)) ?_; (with_reducible refine (kinkeepref04_Cols.calls _ _ l0 t101 _ ?side1 ?side2 A2.out).mono ?_); (case side1 => repeat (first | exact HR0.out | (with_reducible refine Kd.C_alloc ?_ _) | (with_reducible refine Kd.C_drewN ?_ _) | (with_reducible refine Kd.C_drew ?_))); (case side2 => exact HC0.out); rintro e w' ⟨rfl, ⟨nd, rfl⟩⟩; refine ⟨_, rfl, ?_⟩) | ((with_reducible refine gate_callee (f := 26) rfl ?_); refine goesL_ (some 19) rfl rfl Try.func26 (by kernel_rfl) rfl #[.int .i64 (l0.length : Int), .int .i64 t101] rfl (by (try simp only [List.map_toArray, List.map_cons, List.map_nil]); first | done | rfl | (simp only [List.length_drop, List.length_take]; rfl)) ?_; (with_reducible refine (kinkeepref04_Zero.calls k (l0.length : Int) t101 t102 _ A3.out).mono ?_); rintro e w4 ⟨v103, rfl, ho0, hb⟩; refine ⟨_, rfl, ?_⟩; have n0_ := Aside0.mk (Kd.S_lower ho0 (below_size (by repeat (first | (with_reducible first | exact HB.out | apply below_alloc | apply pw_below_drewN | apply below_drew1) | exact HB.out)))); have n1_ := Aside0.mk (below_step (by repeat (first | (with_reducible first | exact HB.out | apply below_alloc | apply pw_below_drewN | apply below_drew1) | exact HB.out)) hb); clear HB; have HO104 := n0_; have HB := n1_; clear n0_ n1_; (try clear hb); (try clear hb2); (try clear hk); (try clear hi); (try clear ho0)))
  go_loopg [5] k (fun kq v5 w' => ∃ (x5_1 : Int) (x4_1 : List (List Int)), v5 = .int .i64 x5_1 ∧ Aside0 (refred.l0 kq l0 x4_1 x5_1 = some (r1, r2)) ∧ Aside0 (kq ≤ k) ∧ Aside0 (Kd.S (Kd.slice 5 (Kd.int .u8)) 34 w' w.heap.size (fun _ => True) v103 x4_1) ∧ Aside0 (Below w.heap.size w w'))
  case atStart => exact ⟨(0), t102, (by first | rfl | (simp; done) | (simp [*]; done)), H', ⟨Nat.le_refl _⟩, ⟨by (with_reducible repeat (first | apply Kd.S_alloc | apply Kd.S_drewN | apply Kd.S_drew)); exact HO104.out⟩, ⟨by repeat (first | (with_reducible first | exact HB.out | apply below_alloc | apply pw_below_drewN | apply below_drew1) | exact HB.out)⟩⟩
  case round =>
    clear H'; (try clear c2); (try clear p2)
    obtain ⟨x5_1, x4_1, rfl, HA, HK1, HO_4, HB⟩ := hrel
    cases gk with
    | zero => exact absurd HA.out (by simp [refred.l0])
    | succ k1 =>
      have H := HA.out
      clear HA
      simp only [refred.l0] at H
      by_cases c5 : x5_1 < (l0.length : Int)
      · rw [if_pos c5] at H
        have c5b0 : decide (x5_1 < (l0.length : Int)) = true := decide_eq_true c5
        clear c5
        obtain ⟨hcp, H⟩ := of_if H
        have H' := Aside0.mk H
        clear H
        obtain ⟨p5, q5, e5l⟩ := cpOk_facts hcp
        have c5' : x5_1 < (l0.length : Int) := of_decide_eq_true c5b0
        obtain ⟨AoR, coR, eoR⟩ := Kd.S_slice HO_4.out
        subst eoR
        obtain ⟨adS, AS, cS, eS, hxS, hlS, hiS⟩ := at_L1 (Kd.C_below HR0.out HB.out) x5_1 p5 c5'
        cases eS
        obtain ⟨adD, AD, cD, eD, hxD, hlD, hiD⟩ := at_L1 (Kd.S_reads' HO_4.out).2.2 x5_1 p5 q5
        cases eD
        rw [e5l] at hxD
        clear hlD hiD hlS
        have HIS := Aside0.mk hiS
        have HEL := Aside0.mk e5l
        clear hiS e5l hcp
        go_wp2
        refine start_ (n := 9) (S := fun w' => w'.cell? (adD.add x5_1.toNat) = some (.slice AD (rd_L1 l0 x5_1).length cD) ∧ w'.cell? (adS.add x5_1.toNat) = some (.slice AS (rd_L1 l0 x5_1).length cS)) (ds := [8]) #[false, false, false, false, false, false, false, false, false] (by kernel_rfl) rfl rfl ⟨hxD, hxS⟩ (fun hHeld => ?_)
        refine with_tabW f20.tab5 f20.bits5 (fun HT_ HW_ => ?_)
        have HO_41 := Aside0.mk (Kd.S_drew HO_4.out)
        have HB1 := Aside0.mk (below_drew HB.out)
        replace HIS := Aside0.mk (Kd.C_drew HIS.out)
        clear hxD hxS
        generalize World.drew _ = W1 at HO_41 HB1 HIS hHeld ⊢
        refine pure_ (i := 0) (N := some 26) (v := ?_) (a' := ?_) #[true, false, false, false, false, false, false, false, false] rfl rfl (any_of HT_.out (by kernel_rfl)) (fun _ _ _ h => h) (Or.inl ⟨by rfl, ?_⟩) ?_ ?_
        rotate_left
        · intro w'
          go_simp
          with_reducible rfl
        rotate_left
        · simp only [Act.put, List.setIfInBounds_toArray, List.set_cons_zero, List.set_cons_succ, i64_w, i32_w]
          rfl
        refine pure_ (i := 1) (N := some 27) (v := ?_) (a' := ?_) #[true, true, false, false, false, false, false, false, false] rfl rfl (any_of HT_.out (by kernel_rfl)) (fun _ _ _ h => h) (Or.inl ⟨by rfl, ?_⟩) ?_ ?_
        rotate_left
        · intro w'
          go_simp
          with_reducible rfl
        rotate_left
        · simp only [Act.put, List.setIfInBounds_toArray, List.set_cons_zero, List.set_cons_succ, i64_w, i32_w]
          rfl
        refine pure_ (i := 2) (N := some 28) (v := ?_) (a' := ?_) #[true, true, true, false, false, false, false, false, false] rfl rfl (any_of HT_.out (by kernel_rfl)) (fun _ _ _ h => h) (Or.inl ⟨by rfl, ?_⟩) ?_ ?_
        rotate_left
        · intro w'
          go_simp
          with_reducible rfl
        rotate_left
        · simp only [Act.put, List.setIfInBounds_toArray, List.set_cons_zero, List.set_cons_succ, i64_w, i32_w]
          rfl
        refine pure_ (i := 4) (N := some 30) (v := ?_) (a' := ?_) #[true, true, true, false, true, false, false, false, false] rfl rfl (any_of HT_.out (by kernel_rfl)) (fun _ _ _ h => h) (Or.inl ⟨by rfl, ?_⟩) ?_ ?_
        rotate_left
        · intro w'
          go_simp
          with_reducible rfl
        rotate_left
        · simp only [Act.put, List.setIfInBounds_toArray, List.set_cons_zero, List.set_cons_succ, i64_w, i32_w]
          rfl
        refine pure_ (i := 5) (N := some 31) (v := ?_) (a' := ?_) #[true, true, true, false, true, true, false, false, false] rfl rfl (any_of HT_.out (by kernel_rfl)) (fun _ _ _ h => h) (Or.inl ⟨by rfl, ?_⟩) ?_ ?_
        rotate_left
        · intro w'
          go_simp
          with_reducible rfl
        rotate_left
        · simp only [Act.put, List.setIfInBounds_toArray, List.set_cons_zero, List.set_cons_succ, i64_w, i32_w]
          rfl
        refine pure_ (i := 6) (N := some 32) (v := ?_) (a' := ?_) #[true, true, true, false, true, true, true, false, false] rfl rfl (any_of HT_.out (by kernel_rfl)) (fun _ _ _ h => h) (Or.inl ⟨by rfl, ?_⟩) ?_ ?_
        rotate_left
        · intro w'
          go_simp
          with_reducible rfl
        rotate_left
        · simp only [Act.put, List.setIfInBounds_toArray, List.set_cons_zero, List.set_cons_succ, i64_w, i32_w]
          rfl
        refine take_ (i := 3) (N := some 29) (v := ?_) (a' := ?_) #[true, true, true, true, true, true, true, false, false] rfl rfl (take_ofW HT_.out HW_.out (by kernel_rfl)) (fun _ _ _ h => h) (Or.inl ⟨by rfl, ?_⟩) hHeld ?_ ?_
        rotate_left
        · rintro w' ⟨s0, s1⟩
          go_simp
          with_reducible rfl
        rotate_left
        · simp only [Act.put, List.setIfInBounds_toArray, List.set_cons_zero, List.set_cons_succ, i64_w, i32_w]
          rfl
        refine take_ (i := 7) (N := some 33) (v := ?_) (a' := ?_) #[true, true, true, true, true, true, true, true, false] rfl rfl (take_ofW HT_.out HW_.out (by kernel_rfl)) (fun _ _ _ h => h) (Or.inl ⟨by rfl, ?_⟩) hHeld ?_ ?_
        rotate_left
        · rintro w' ⟨s0, s1⟩
          go_simp
          with_reducible rfl
        rotate_left
        · simp only [Act.put, List.setIfInBounds_toArray, List.set_cons_zero, List.set_cons_succ, i64_w, i32_w]
          rfl
        refine last_ (i := 8) (N := some 34) #[true, true, true, true, true, true, true, true, true] rfl rfl (one_of HT_.out (by kernel_rfl)) (by decide) (fun K hK => ?_)
        obtain ⟨dp, go, co, hcD, hdp, hsome, hfro, hSn, hBn⟩ := S_copy HO_41.out (i := x5_1.toNat) (by omega) (rd_L1 l0 x5_1) HEL.out.symm
        have hlen : (x4_1.getD x5_1.toNat []).length = (rd_L1 l0 x5_1).length := HEL.out
        rw [hlen] at hcD hdp hsome hfro
        have hdd := hcD.symm.trans hHeld.1
        injection hdd with hdd
        injection hdd with hdd _ hdc
        subst hdd hdc
        clear hlen hcD
        refine copy_step rfl (.tmp 29) (.tmp 33) 34 34 rfl 5 Try.underlying34 (by kernel_rfl) _ _ (rd_L1 l0 x5_1).length _ _ rfl rfl go (u8s (rd_L1 l0 x5_1)) (u8s_length _) (fun hp => ⟨hdp hp, C_cells HIS.out hp⟩) hsome hfro (u8s_one _) ?_
        refine hK.out _ _ ?_
        clear hK K
        refine norm_ (a' := ?_) ?_ ?_
        rotate_left
        · show Act.put _ (some 34) _ = _
          simp only [Act.put, List.setIfInBounds_toArray, List.set_cons_zero, List.set_cons_succ, i64_w, i32_w]
          rfl
        refine done_ (done_of HT_.out (by kernel_rfl)) ?_
        have HO_4n := Aside0.mk hSn
        have HBn := Aside0.mk (HB1.out.trans hBn)
        clear hSn hBn HO_41 HB1 hHeld HO_4 HB hdp hsome hfro HIS HEL
        generalize W1.setCells go 0 (u8s (rd_L1 l0 x5_1)) = W2 at HO_4n HBn ⊢
        clear W1
        have HO_4 := HO_4n
        have HB := HBn
        clear HO_4n HBn
        go_wp2
        go_roundg k1
        case measure => have := HK1.out; omega
        case rel => exact ⟨(wrap64 (x5_1 + 1)), (x4_1.set x5_1.toNat (rd_L1 l0 x5_1)), (by first | rfl | (simp; done) | (simp [*]; done)), H', ⟨by have := HK1.out; omega⟩, ⟨by (with_reducible repeat (first | apply Kd.S_alloc | apply Kd.S_drewN | apply Kd.S_drew)); exact HO_4.out⟩, ⟨by repeat (first | (with_reducible first | exact HB.out | apply below_alloc | apply pw_below_drewN | apply below_drew1) | exact HB.out)⟩⟩
      · rw [if_neg c5] at H
        have c5b0 : decide (x5_1 < (l0.length : Int)) = false := decide_eq_false c5
        clear c5
        obtain ⟨y105, hy105⟩ : ∃ y_ : List Int, y_ = (([] : List Int)) := ⟨_, rfl⟩
        replace H : (refred.l1 k1 l0 x4_1 y105 0) = some (r1, r2) := by first | (rw [hy105]; with_reducible exact H) | (have H2_ := (Option.bind_some _ _).symm.trans H; rw [hy105]; with_reducible exact H2_) | (have H2_ := (Option.bind_some _ _).symm.trans H; with_reducible exact H2_) | with_reducible exact H | (rw [hy105]; exact H) | exact H
        have Ny105 := Aside0.mk hy105
        clear hy105
        have H' := Aside0.mk H
        clear H
        go_wp2_with (first | ((with_reducible refine gate_dst (N := 35) rfl ?_); (try (refine gate_guard (by rfl) ?_; dsimp only)); refine Kd.R_lit (Kd.int .i64) _ 3 ?hg (N := 35) ?hd (xs := ([] : List Int)) (inner := []) (ok := fun _ => True) (okp := fun _ => True) ?hr ?hp (fun _ hk => hk) trivial (Below.refl _ _) (Nat.le_refl _) (by simp) ?_; (case hd => rfl); (case hg => rfl); (case hr => first | (go_simp; done) | (go_simp; rfl)); (case hp => exact (Reps.none _ _)); intro v106 w6 ho7 hb hg_ hnew_; clear hg_ hnew_; (first | rw [← Ny105.out] at ho7 | (simp only [Int.reduceToNat] at ho7; rw [← Ny105.out] at ho7)); have n0_ := Aside0.mk (Kd.S_below (by (with_reducible repeat (first | apply Kd.S_alloc | apply Kd.S_drewN | apply Kd.S_drew)); exact HO_4.out) hb); have n1_ := Aside0.mk (Kd.R_lower ho7 (below_size (by repeat (first | (with_reducible first | exact HB.out | apply below_alloc | apply pw_below_drewN | apply below_drew1) | exact HB.out)))); have n2_ := Aside0.mk (below_step (by repeat (first | (with_reducible first | exact HB.out | apply below_alloc | apply pw_below_drewN | apply below_drew1) | exact HB.out)) hb); clear HO_4; clear HB; have HO_4 := n0_; have HO107 := n1_; have HB := n2_; clear n0_ n1_ n2_; clear hb ho7))
        go_loopg [6, 7] k1 (fun kq v6 v7 w' => ∃ (x4_2 : List (List Int)) (x6_2 : List Int) (x7_2 : Int), v7 = .int .i64 x7_2 ∧ Aside0 (refred.l1 kq l0 x4_2 x6_2 x7_2 = some (r1, r2)) ∧ Aside0 (kq ≤ k1) ∧ Aside0 (Kd.S (Kd.slice 5 (Kd.int .u8)) 34 w' w.heap.size (fun _ => True) v103 x4_2) ∧ Aside0 (Kd.R (Kd.int .i64) 3 w' w.heap.size (fun _ => True) v6 x6_2) ∧ Aside0 (Below w.heap.size w w'))
        case atStart => exact ⟨(x4_1), (y105), (0), (by first | rfl | (simp; done) | (simp [*]; done)), H', ⟨Nat.le_refl _⟩, ⟨by (with_reducible repeat (first | apply Kd.S_alloc | apply Kd.S_drewN | apply Kd.S_drew)); exact HO_4.out⟩, ⟨by (with_reducible repeat (first | apply Kd.R_alloc | apply Kd.R_drewN | apply Kd.R_drew)); exact HO107.out⟩, ⟨by repeat (first | (with_reducible first | exact HB.out | apply below_alloc | apply pw_below_drewN | apply below_drew1) | exact HB.out)⟩⟩
        case round =>
          clear H'; (try clear c2); (try clear p2); (try clear c5); (try clear c5b0); (try clear p6); (try clear p2)
          obtain ⟨x4_2, x6_2, x7_2, rfl, HA, HK2, HO_4, HO_6, HB⟩ := hrel
          cases gk with
          | zero => exact absurd HA.out (by simp [refred.l1])
          | succ k2 =>
            have H := HA.out
            clear HA
            simp only [refred.l1] at H
            replace H := Option.bind_eq_some_iff.mp H
            obtain ⟨t108, A80, H⟩ := H
            replace H : (if x7_2 < t108 then (refred.l2 k2 l0 x4_2 x6_2 x7_2 (x6_2.length : Int) (x6_2.length : Int)) else (some (x4_2, x6_2))) = some (r1, r2) := H
            have A8 := Aside0.mk A80
            clear A80
            by_cases c9 : x7_2 < t108
            · rw [if_pos c9] at H
              have c9b0 : decide (x7_2 < t108) = true := decide_eq_true c9
              clear c9
              have HC10 := Aside0.mk H
              clear H
              go_upto_block 4 with (first | ((with_reducible refine gate_callee (f := 21) rfl ?_); refine goesL_ (some 38) rfl rfl Try.func21 (by kernel_rfl) rfl #[.slice A0 l0.length c0] rfl (by (try simp only [List.map_toArray, List.map_cons, List.map_nil]); first | done | rfl | (simp only [List.length_drop, List.length_take]; rfl)) ?_; (with_reducible refine (kinkeepref04_Cols.calls _ _ l0 t108 _ ?side1 ?side2 A8.out).mono ?_); (case side1 => repeat (first | exact (Kd.C_below HR0.out HB.out) | (with_reducible refine Kd.C_alloc ?_ _) | (with_reducible refine Kd.C_drewN ?_ _) | (with_reducible refine Kd.C_drew ?_))); (case side2 => exact HC0.out); rintro e w' ⟨rfl, ⟨nd, rfl⟩⟩; refine ⟨_, rfl, ?_⟩; obtain ⟨Ao11, co11, eo11⟩ := Kd.R_slice HO_6.out; subst eo11))
              (try simp only [Act.put, List.setIfInBounds_toArray, List.set_cons_zero, List.set_cons_succ])
              go_cut [9] (fun v9 wc => ∃ (kq : Nat) (x9_9 : Int), v9 = .int .i64 x9_9 ∧ Aside0 (refred.j3 kq l0 x4_2 x6_2 x7_2 (x6_2.length : Int) x9_9 = some (r1, r2)) ∧ Aside0 (kq ≤ k2) ∧ Aside0 (Kd.S (Kd.slice 5 (Kd.int .u8)) 34 wc w.heap.size (fun _ => True) v103 x4_2) ∧ Aside0 (Kd.R (Kd.int .i64) 3 wc w.heap.size (fun _ => True) (.slice Ao11 x6_2.length co11) x6_2) ∧ Aside0 (Below w.heap.size w wc))
              case first =>
                have H := HC10.out
                clear HC10
                have H' := Aside0.mk H
                clear H
                go_wp2
                go_loopg [9] k2 (fun kq v9 w' => ∃ (x9_3 : Int), v9 = .int .i64 x9_3 ∧ Aside0 (refred.l2 kq l0 x4_2 x6_2 x7_2 (x6_2.length : Int) x9_3 = some (r1, r2)) ∧ Aside0 (kq ≤ k2) ∧ Aside0 (Kd.S (Kd.slice 5 (Kd.int .u8)) 34 w' w.heap.size (fun _ => True) v103 x4_2) ∧ Aside0 (Kd.R (Kd.int .i64) 3 w' w.heap.size (fun _ => True) (.slice Ao11 x6_2.length co11) x6_2) ∧ Aside0 (Below w.heap.size w w'))
                case atStart => exact ⟨((x6_2.length : Int)), (by first | rfl | (simp; done) | (simp [*]; done)), H', ⟨Nat.le_refl _⟩, ⟨by (with_reducible repeat (first | apply Kd.S_alloc | apply Kd.S_drewN | apply Kd.S_drew)); exact HO_4.out⟩, ⟨by (with_reducible repeat (first | apply Kd.R_alloc | apply Kd.R_drewN | apply Kd.R_drew)); exact HO_6.out⟩, ⟨by repeat (first | (with_reducible first | exact HB.out | apply below_alloc | apply pw_below_drewN | apply below_drew1) | exact HB.out)⟩⟩
                case round =>
                  clear H'; (try clear c2); (try clear p2); (try clear c5); (try clear c5b0); (try clear p6); (try clear c9); (try clear c9b0); (try clear p2); (try clear p6)
                  obtain ⟨x9_3, rfl, HA, HK3, HO_4, HO_6, HB⟩ := hrel
                  cases gk with
                  | zero => exact absurd HA.out (by simp [refred.l2])
                  | succ k3 =>
                    have H := HA.out
                    clear HA
                    simp only [refred.l2] at H
                    by_cases c12 : x9_3 < (x4_2.length : Int)
                    · rw [if_pos c12] at H
                      have c12b0 : decide (x9_3 < (x4_2.length : Int)) = true := decide_eq_true c12
                      clear c12
                      (first | rw [c12b0] | rw [c12b1] | rw [c12b2] | (simp only [i64_w, i32_w]; rw [c12b0]) | skip)
                      by_cases c13 : 0 ≤ x9_3
                      · rw [if_pos c13] at H
                        have c13b0 : decide (0 ≤ x9_3) = true := decide_eq_true c13
                        clear c13
                        by_cases c14 : 0 ≤ x7_2
                        · rw [if_pos c14] at H
                          have c14b0 : decide (0 ≤ x7_2) = true := decide_eq_true c14
                          clear c14
                          by_cases c15 : x7_2 < ((rd_L1 x4_2 x9_3).length : Int)
                          · rw [if_pos c15] at H
                            have c15b0 : decide (x7_2 < ((rd_L1 x4_2 x9_3).length : Int)) = true := decide_eq_true c15
                            clear c15
                            by_cases c16 : (rd (rd_L1 x4_2 x9_3) x7_2) = 0
                            · rw [if_pos c16] at H
                              have c16b0 : ((rd (rd_L1 x4_2 x9_3) x7_2) == 0) = true := beq_iff_eq.mpr c16
                              have c16b1 : ((rd (rd_L1 x4_2 x9_3) x7_2) != 0) = false := bne_eq_false_iff_eq.mpr c16
                              clear c16
                              have H' := Aside0.mk H
                              clear H
                              obtain ⟨Ao17, co17, eo17⟩ := Kd.S_slice HO_4.out
                              subst eo17
                              have p109 : 0 ≤ (x9_3 : Int) := of_decide_eq_true (by first | (with_reducible assumption) | assumption)
                              have q109 : x9_3 < (x4_2.length : Int) := of_decide_eq_true (by first | (with_reducible assumption) | assumption)
                              obtain ⟨ad109, A109_0, c109_0, e109, hx109_0, hl109_0, hi109_0⟩ := at_L1 (Kd.S_reads' HO_4.out).2.2 x9_3 p109 q109
                              cases e109
                              obtain ⟨ce109, hce109, hMe109, hcc109⟩ := Kd.S_get HO_4.out [] x9_3 p109 (by first | exact q109 | exact of_decide_eq_true (by first | (with_reducible assumption) | assumption) | (have e_ := (Kd.S_reads' HO_4.out).1; omega))
                              obtain ⟨ve109_0, rfl, ge109_0⟩ := hMe109
                              have hv109_0 := hcc109 0 _ rfl
                              rw [Nat.add_zero, show ((Kd.slice 5 (Kd.int .u8))).sz = 1 from rfl, Nat.mul_one] at hv109_0
                              replace hv109_0 := Option.some.inj (hv109_0.symm.trans hx109_0)
                              rw [hv109_0] at ge109_0
                              have HL109_0 := Aside0.mk (show Kd.R (Kd.int .u8) 5 _ _ _ _ (rd_L1 x4_2 x9_3) from ge109_0)
                              clear hv109_0 ge109_0
                              have HX109_0 := Aside0.mk hx109_0
                              clear hcc109 hce109
                              have HR109_0 := Aside0.mk hi109_0
                              have HC109_0 := Aside0.mk hl109_0
                              clear hi109_0 hl109_0
                              replace p109 := eq_true p109
                              replace q109 := eq_true q109
                              have p110 : 0 ≤ (x7_2 : Int) := of_decide_eq_true (by first | (with_reducible assumption) | assumption)
                              have q110 : x7_2 < ((rd_L1 x4_2 x9_3).length : Int) := of_decide_eq_true (by first | (with_reducible assumption) | assumption)
                              obtain ⟨ad110, e110, hx110_0⟩ := Kd.at_int (by repeat (first | (with_reducible exact HR109_0.out) | (with_reducible refine Kd.C_alloc ?_ _) | (with_reducible refine Kd.C_drewN ?_ _) | (with_reducible refine Kd.C_drew ?_) | exact HR109_0.out)) x7_2 p110 q110
                              cases e110
                              replace p110 := eq_true p110
                              replace q110 := eq_true q110
                              go_wp2
                              go_roundg k3
                              case measure => have := HK1.out; have := HK2.out; have := HK3.out; omega
                              case rel => exact ⟨(wrap64 (x9_3 + 1)), (by first | rfl | (simp; done) | (simp [*]; done)), H', ⟨by have := HK1.out; have := HK2.out; have := HK3.out; omega⟩, ⟨by (with_reducible repeat (first | apply Kd.S_alloc | apply Kd.S_drewN | apply Kd.S_drew)); exact HO_4.out⟩, ⟨by (with_reducible repeat (first | apply Kd.R_alloc | apply Kd.R_drewN | apply Kd.R_drew)); exact HO_6.out⟩, ⟨by repeat (first | (with_reducible first | exact HB.out | apply below_alloc | apply pw_below_drewN | apply below_drew1) | exact HB.out)⟩⟩
                            · rw [if_neg c16] at H
                              have c16b0 : ((rd (rd_L1 x4_2 x9_3) x7_2) == 0) = false := beq_eq_false_iff_ne.mpr c16
                              have c16b1 : ((rd (rd_L1 x4_2 x9_3) x7_2) != 0) = true := bne_iff_ne.mpr c16
                              have H' := Aside0.mk H
                              clear H
                              obtain ⟨Ao18, co18, eo18⟩ := Kd.S_slice HO_4.out
                              subst eo18
                              have p109 : 0 ≤ (x9_3 : Int) := of_decide_eq_true (by first | (with_reducible assumption) | assumption)
                              have q109 : x9_3 < (x4_2.length : Int) := of_decide_eq_true (by first | (with_reducible assumption) | assumption)
                              obtain ⟨ad109, A109_0, c109_0, e109, hx109_0, hl109_0, hi109_0⟩ := at_L1 (Kd.S_reads' HO_4.out).2.2 x9_3 p109 q109
                              cases e109
                              obtain ⟨ce109, hce109, hMe109, hcc109⟩ := Kd.S_get HO_4.out [] x9_3 p109 (by first | exact q109 | exact of_decide_eq_true (by first | (with_reducible assumption) | assumption) | (have e_ := (Kd.S_reads' HO_4.out).1; omega))
                              obtain ⟨ve109_0, rfl, ge109_0⟩ := hMe109
                              have hv109_0 := hcc109 0 _ rfl
                              rw [Nat.add_zero, show ((Kd.slice 5 (Kd.int .u8))).sz = 1 from rfl, Nat.mul_one] at hv109_0
                              replace hv109_0 := Option.some.inj (hv109_0.symm.trans hx109_0)
                              rw [hv109_0] at ge109_0
                              have HL109_0 := Aside0.mk (show Kd.R (Kd.int .u8) 5 _ _ _ _ (rd_L1 x4_2 x9_3) from ge109_0)
                              clear hv109_0 ge109_0
                              have HX109_0 := Aside0.mk hx109_0
                              clear hcc109 hce109
                              have HR109_0 := Aside0.mk hi109_0
                              have HC109_0 := Aside0.mk hl109_0
                              clear hi109_0 hl109_0
                              replace p109 := eq_true p109
                              replace q109 := eq_true q109
                              have p110 : 0 ≤ (x7_2 : Int) := of_decide_eq_true (by first | (with_reducible assumption) | assumption)
                              have q110 : x7_2 < ((rd_L1 x4_2 x9_3).length : Int) := of_decide_eq_true (by first | (with_reducible assumption) | assumption)
                              obtain ⟨ad110, e110, hx110_0⟩ := Kd.at_int (by repeat (first | (with_reducible exact HR109_0.out) | (with_reducible refine Kd.C_alloc ?_ _) | (with_reducible refine Kd.C_drewN ?_ _) | (with_reducible refine Kd.C_drew ?_) | exact HR109_0.out)) x7_2 p110 q110
                              cases e110
                              replace p110 := eq_true p110
                              replace q110 := eq_true q110
                              go_wp2
                              go_meet
                              case rel => exact ⟨_, (x9_3), (by first | rfl | (simp; done) | (simp [*]; done)), H', ⟨by have := HK1.out; have := HK2.out; have := HK3.out; first | omega | exact Nat.le_refl _⟩, ⟨by (with_reducible repeat (first | apply Kd.S_alloc | apply Kd.S_drewN | apply Kd.S_drew)); exact HO_4.out⟩, ⟨by (with_reducible repeat (first | apply Kd.R_alloc | apply Kd.R_drewN | apply Kd.R_drew)); exact HO_6.out⟩, ⟨by repeat (first | (with_reducible first | exact HB.out | apply below_alloc | apply pw_below_drewN | apply below_drew1) | exact HB.out)⟩⟩
                          · rw [if_neg c15] at H
                            exact absurd H (by simp)
                        · rw [if_neg c14] at H
                          exact absurd H (by simp)
                      · rw [if_neg c13] at H
                        exact absurd H (by simp)
                    · rw [if_neg c12] at H
                      have c12b0 : decide (x9_3 < (x4_2.length : Int)) = false := decide_eq_false c12
                      clear c12
                      (first | rw [c12b0] | rw [c12b1] | rw [c12b2] | (simp only [i64_w, i32_w]; rw [c12b0]) | skip)
                      have H' := Aside0.mk H
                      clear H
                      obtain ⟨Ao19, co19, eo19⟩ := Kd.S_slice HO_4.out
                      subst eo19
                      go_wp2
                      go_meet
                      case rel => exact ⟨_, (x9_3), (by first | rfl | (simp; done) | (simp [*]; done)), H', ⟨by have := HK1.out; have := HK2.out; have := HK3.out; first | omega | exact Nat.le_refl _⟩, ⟨by (with_reducible repeat (first | apply Kd.S_alloc | apply Kd.S_drewN | apply Kd.S_drew)); exact HO_4.out⟩, ⟨by (with_reducible repeat (first | apply Kd.R_alloc | apply Kd.R_drewN | apply Kd.R_drew)); exact HO_6.out⟩, ⟨by repeat (first | (with_reducible first | exact HB.out | apply below_alloc | apply pw_below_drewN | apply below_drew1) | exact HB.out)⟩⟩
              case rest =>
                clear HC10; (try clear c1); (try clear p1); (try clear q1); (try clear hx1); (try clear c2); (try clear p2); (try clear c5); (try clear c5b0); (try clear p6); (try clear c9); (try clear c9b0); (try clear c10); (try clear p10); (try clear q10); (try clear hx10); (try clear p11); (try clear q11); (try clear hx11); (try clear c12); (try clear c12b0); (try clear c13); (try clear c13b0); (try clear c14); (try clear c14b0); (try clear c15); (try clear c15b0); (try clear c16); (try clear c16b0); (try clear c16b1); (try clear hx109_0); (try clear hx110_0); (try clear p109); (try clear p110); (try clear p2); (try clear p6); (try clear q109); (try clear q110)
                obtain ⟨kq, x9_9, rfl, HA, HJ9, HO_4, HO_6, HB⟩ := hcut
                cases kq with
                | zero => exact absurd HA.out (by simp [refred.j3])
                | succ kj9 =>
                  have H := HA.out
                  clear HA
                  simp only [refred.j3] at H
                  by_cases c20 : x9_9 = (x4_2.length : Int)
                  · rw [if_pos c20] at H
                    have c20b0 : (x9_9 == (x4_2.length : Int)) = true := beq_iff_eq.mpr c20
                    have c20b1 : (x9_9 != (x4_2.length : Int)) = false := bne_eq_false_iff_eq.mpr c20
                    clear c20
                    have H' := Aside0.mk H
                    clear H
                    obtain ⟨Ao21, co21, eo21⟩ := Kd.S_slice HO_4.out
                    subst eo21
                    go_wp2
                    go_roundg kj9
                    case measure => have := HK1.out; have := HK2.out; have := HJ9.out; omega
                    case rel => exact ⟨(x4_2), (x6_2), (wrap64 (x7_2 + 1)), (by first | rfl | (simp; done) | (simp [*]; done)), H', ⟨by have := HK1.out; have := HK2.out; have := HJ9.out; omega⟩, ⟨by (with_reducible repeat (first | apply Kd.S_alloc | apply Kd.S_drewN | apply Kd.S_drew)); exact HO_4.out⟩, ⟨by (with_reducible repeat (first | apply Kd.R_alloc | apply Kd.R_drewN | apply Kd.R_drew)); exact HO_6.out⟩, ⟨by repeat (first | (with_reducible first | exact HB.out | apply below_alloc | apply pw_below_drewN | apply below_drew1) | exact HB.out)⟩⟩
                  · rw [if_neg c20] at H
                    have c20b0 : (x9_9 == (x4_2.length : Int)) = false := beq_eq_false_iff_ne.mpr c20
                    have c20b1 : (x9_9 != (x4_2.length : Int)) = true := bne_iff_ne.mpr c20
                    obtain ⟨hsw, H⟩ := of_if H
                    obtain ⟨ra, rb, rc, rd_⟩ := swOk_facts hsw
                    obtain ⟨i9, rfl⟩ := Int.eq_ofNat_of_zero_le rc
                    obtain ⟨gr, cr, er, _, _, _⟩ := Kd.S_form HO_4.out (by omega)
                    subst er
                    obtain ⟨Ap, cp, hxp, hlp, hCp, hfp⟩ := S_slot HO_4.out x6_2.length (by omega)
                    obtain ⟨Ak, ck, hxk, hlk, hCk, hfk⟩ := S_slot HO_4.out i9 (by omega)
                    clear hlp hCp hlk hCk hsw
                    generalize (x4_2.getD x6_2.length []).length = np at hxp
                    generalize (x4_2.getD i9 []).length = nk at hxk
                    have HRA := Aside0.mk H
                    have HR1 := Aside0.mk rb
                    have HR3 := Aside0.mk rd_
                    clear H c20
                    go_wp2
                    refine start_ (n := 16) (S := fun w' => w'.cell? ⟨gr, x6_2.length, none⟩ = some (.slice Ap np cp) ∧ w'.cell? ⟨gr, i9, none⟩ = some (.slice Ak nk ck)) (ds := [13, 15]) #[false, false, false, false, false, false, false, false, false, false, false, false, false, false, false, false] (by kernel_rfl) rfl rfl ⟨hxp, hxk⟩ (fun hHeld => ?_)
                    refine with_tabW f20.tab15 f20.bits15 (fun HT_ HW_ => ?_)
                    have HO_41 := Aside0.mk (Kd.S_drew HO_4.out)
                    have HO_61 := Aside0.mk (Kd.R_drew HO_6.out)
                    have HB1 := Aside0.mk (below_drew HB.out)
                    replace hfp : wc.drew.frozen? ⟨gr, x6_2.length, none⟩ = false := hfp
                    replace hfk : wc.drew.frozen? ⟨gr, i9, none⟩ = false := hfk
                    clear hxp hxk
                    generalize wc.drew = W1 at HO_41 HO_61 HB1 hfp hfk hHeld ⊢
                    refine pure_ (i := 0) (N := some 65) (v := ?_) (a' := ?_) #[true, false, false, false, false, false, false, false, false, false, false, false, false, false, false, false] rfl rfl (any_of HT_.out (by kernel_rfl)) (fun _ _ _ h => h) (Or.inl ⟨by rfl, ?_⟩) ?_ ?_
                    rotate_left
                    · intro w'
                      go_simp
                      with_reducible rfl
                    rotate_left
                    · simp only [Act.put, List.setIfInBounds_toArray, List.set_cons_zero, List.set_cons_succ, i64_w, i32_w]
                      rfl
                    refine pure_ (i := 1) (N := some 66) (v := ?_) (a' := ?_) #[true, true, false, false, false, false, false, false, false, false, false, false, false, false, false, false] rfl rfl (any_of HT_.out (by kernel_rfl)) (fun _ _ _ h => h) (Or.inl ⟨by rfl, ?_⟩) ?_ ?_
                    rotate_left
                    · intro w'
                      go_simp
                      with_reducible rfl
                    rotate_left
                    · simp only [Act.put, List.setIfInBounds_toArray, List.set_cons_zero, List.set_cons_succ, i64_w, i32_w]
                      rfl
                    refine pure_ (i := 2) (N := some 67) (v := ?_) (a' := ?_) #[true, true, true, false, false, false, false, false, false, false, false, false, false, false, false, false] rfl rfl (any_of HT_.out (by kernel_rfl)) (fun _ _ _ h => h) (Or.inl ⟨by rfl, ?_⟩) ?_ ?_
                    rotate_left
                    · intro w'
                      go_simp
                      with_reducible rfl
                    rotate_left
                    · simp only [Act.put, List.setIfInBounds_toArray, List.set_cons_zero, List.set_cons_succ, i64_w, i32_w]
                      rfl
                    refine pure_ (i := 3) (N := some 68) (v := ?_) (a' := ?_) #[true, true, true, true, false, false, false, false, false, false, false, false, false, false, false, false] rfl rfl (any_of HT_.out (by kernel_rfl)) (fun _ _ _ h => h) (Or.inl ⟨by rfl, ?_⟩) ?_ ?_
                    rotate_left
                    · intro w'
                      go_simp
                      with_reducible rfl
                    rotate_left
                    · simp only [Act.put, List.setIfInBounds_toArray, List.set_cons_zero, List.set_cons_succ, i64_w, i32_w]
                      rfl
                    refine pure_ (i := 4) (N := some 69) (v := ?_) (a' := ?_) #[true, true, true, true, true, false, false, false, false, false, false, false, false, false, false, false] rfl rfl (any_of HT_.out (by kernel_rfl)) (fun _ _ _ h => h) (Or.inl ⟨by rfl, ?_⟩) ?_ ?_
                    rotate_left
                    · intro w'
                      go_simp
                      with_reducible rfl
                    rotate_left
                    · simp only [Act.put, List.setIfInBounds_toArray, List.set_cons_zero, List.set_cons_succ, i64_w, i32_w]
                      rfl
                    refine pure_ (i := 5) (N := some 70) (v := ?_) (a' := ?_) #[true, true, true, true, true, true, false, false, false, false, false, false, false, false, false, false] rfl rfl (any_of HT_.out (by kernel_rfl)) (fun _ _ _ h => h) (Or.inl ⟨by rfl, ?_⟩) ?_ ?_
                    rotate_left
                    · intro w'
                      go_simp
                      with_reducible rfl
                    rotate_left
                    · simp only [Act.put, List.setIfInBounds_toArray, List.set_cons_zero, List.set_cons_succ, i64_w, i32_w]
                      rfl
                    refine pure_ (i := 6) (N := some 71) (v := ?_) (a' := ?_) #[true, true, true, true, true, true, true, false, false, false, false, false, false, false, false, false] rfl rfl (any_of HT_.out (by kernel_rfl)) (fun _ _ _ h => h) (Or.inl ⟨by rfl, ?_⟩) ?_ ?_
                    rotate_left
                    · intro w'
                      go_simp
                      with_reducible rfl
                    rotate_left
                    · simp only [Act.put, List.setIfInBounds_toArray, List.set_cons_zero, List.set_cons_succ, i64_w, i32_w]
                      rfl
                    refine pure_ (i := 8) (N := some 73) (v := ?_) (a' := ?_) #[true, true, true, true, true, true, true, false, true, false, false, false, false, false, false, false] rfl rfl (any_of HT_.out (by kernel_rfl)) (fun _ _ _ h => h) (Or.inl ⟨by rfl, ?_⟩) ?_ ?_
                    rotate_left
                    · intro w'
                      go_simp
                      with_reducible rfl
                    rotate_left
                    · simp only [Act.put, List.setIfInBounds_toArray, List.set_cons_zero, List.set_cons_succ, i64_w, i32_w]
                      rfl
                    refine pure_ (i := 9) (N := some 74) (v := ?_) (a' := ?_) #[true, true, true, true, true, true, true, false, true, true, false, false, false, false, false, false] rfl rfl (any_of HT_.out (by kernel_rfl)) (fun _ _ _ h => h) (Or.inl ⟨by rfl, ?_⟩) ?_ ?_
                    rotate_left
                    · intro w'
                      go_simp
                      with_reducible rfl
                    rotate_left
                    · simp only [Act.put, List.setIfInBounds_toArray, List.set_cons_zero, List.set_cons_succ, i64_w, i32_w]
                      rfl
                    refine pure_ (i := 10) (N := some 75) (v := ?_) (a' := ?_) #[true, true, true, true, true, true, true, false, true, true, true, false, false, false, false, false] rfl rfl (any_of HT_.out (by kernel_rfl)) (fun _ _ _ h => h) (Or.inl ⟨by rfl, ?_⟩) ?_ ?_
                    rotate_left
                    · intro w'
                      go_simp
                      with_reducible rfl
                    rotate_left
                    · simp only [Act.put, List.setIfInBounds_toArray, List.set_cons_zero, List.set_cons_succ, i64_w, i32_w]
                      rfl
                    refine take_ (i := 7) (N := some 72) (v := ?_) (a' := ?_) #[true, true, true, true, true, true, true, true, true, true, true, false, false, false, false, false] rfl rfl (take_ofW HT_.out HW_.out (by kernel_rfl)) (fun _ _ _ h => h) (Or.inl ⟨by rfl, ?_⟩) hHeld ?_ ?_
                    rotate_left
                    · rintro w' ⟨s0, s1⟩
                      go_simp
                      with_reducible rfl
                    rotate_left
                    · simp only [Act.put, List.setIfInBounds_toArray, List.set_cons_zero, List.set_cons_succ, i64_w, i32_w]
                      rfl
                    refine take_ (i := 11) (N := some 76) (v := ?_) (a' := ?_) #[true, true, true, true, true, true, true, true, true, true, true, true, false, false, false, false] rfl rfl (take_ofW HT_.out HW_.out (by kernel_rfl)) (fun _ _ _ h => h) (Or.inl ⟨by rfl, ?_⟩) hHeld ?_ ?_
                    rotate_left
                    · rintro w' ⟨s0, s1⟩
                      go_simp
                      with_reducible rfl
                    rotate_left
                    · simp only [Act.put, List.setIfInBounds_toArray, List.set_cons_zero, List.set_cons_succ, i64_w, i32_w]
                      rfl
                    refine pure_ (i := 12) (N := some 77) (v := ?_) (a' := ?_) #[true, true, true, true, true, true, true, true, true, true, true, true, true, false, false, false] rfl rfl (any_of HT_.out (by kernel_rfl)) (fun _ _ _ h => h) (Or.inl ⟨by rfl, ?_⟩) ?_ ?_
                    rotate_left
                    · intro w'
                      go_simp
                      with_reducible rfl
                    rotate_left
                    · simp only [Act.put, List.setIfInBounds_toArray, List.set_cons_zero, List.set_cons_succ, i64_w, i32_w]
                      rfl
                    refine last_ (i := 13) (N := none) #[true, true, true, true, true, true, true, true, true, true, true, true, true, true, false, false] rfl rfl (one_of HT_.out (by kernel_rfl)) (by decide) (fun K hK => ?_)
                    refine skip_ (w1 := ?_) (by rfl) rfl ?_ ?_
                    rotate_left
                    · go_simp
                      rfl
                    refine hK.out _ _ ?_
                    clear hK K
                    refine pure_ (i := 14) (N := some 78) (v := ?_) (a' := ?_) #[true, true, true, true, true, true, true, true, true, true, true, true, true, true, true, false] rfl rfl (any_of HT_.out (by kernel_rfl)) (fun _ _ _ h => h) (Or.inl ⟨by rfl, ?_⟩) ?_ ?_
                    rotate_left
                    · intro w'
                      go_simp
                      with_reducible rfl
                    rotate_left
                    · simp only [Act.put, List.setIfInBounds_toArray, List.set_cons_zero, List.set_cons_succ, i64_w, i32_w]
                      rfl
                    have hx2 : (W1.setCell ⟨gr, x6_2.length, none⟩ (.slice Ak nk ck)).cell? ⟨gr, i9, none⟩ = some (.slice Ak nk ck) := by
                      by_cases e : x6_2.length = i9
                      · subst e
                        exact World.cell?_setCell_same' W1 _ _ (by rw [hHeld.1]; rfl)
                      · exact (World.cell?_setCell_other W1 _ _ _ (by intro h; injection h with h1 h2; exact e h2)).trans hHeld.2
                    refine last_ (i := 15) (N := none) #[true, true, true, true, true, true, true, true, true, true, true, true, true, true, true, true] rfl rfl (one_of HT_.out (by kernel_rfl)) (by decide) (fun K hK => ?_)
                    refine skip_ (w1 := ?_) (by rfl) rfl ?_ ?_
                    rotate_left
                    · go_simp
                      rfl
                    refine hK.out _ _ ?_
                    clear hK K
                    refine done_ (done_of HT_.out (by kernel_rfl)) ?_
                    have HBS := Aside0.mk (Kd.S_form HO_41.out (by have := HR1.out; omega))
                    have hSw := S_swap HO_41.out x6_2.length i9 (rd_L1 x4_2 (x6_2.length : Int)) (rd_L1 x4_2 (i9 : Int)) (.slice Ap np cp) (.slice Ak nk ck) (getD_some (by have := HR1.out; omega)) (getD_some (by have := HR3.out; omega)) hHeld.1 hHeld.2
                    have HO_4n := Aside0.mk (show Kd.S (Kd.slice 5 (Kd.int .u8)) 34 _ w.heap.size (fun _ => True) (.slice (some ⟨gr, 0, none⟩) x4_2.length cr) (swL x4_2 (x6_2.length : Int) (i9 : Int)) from hSw)
                    obtain ⟨_, _, e_, gb_, gl_, _, gc_⟩ := HBS.out
                    injection e_ with e_
                    injection e_ with e_
                    injection e_ with e_
                    subst e_
                    have HO_6n := Aside0.mk (Kd.R_mono (Kd.R_far (p := ⟨gr, i9, none⟩) (Kd.R_far (p := ⟨gr, x6_2.length, none⟩) (Kd.R_types HO_61.out gc_ (by decide)) (fun _ hk => hk.2) (.slice Ak nk ck)) (fun _ hk => hk.2) (.slice Ap np cp)) (fun _ _ => trivial : ∀ k, _ → (fun _ : Nat => True) k))
                    have HBn := Aside0.mk ((Below.setCell HB1.out (p := ⟨gr, x6_2.length, none⟩) gb_ (.slice Ak nk ck)).setCell (p := ⟨gr, i9, none⟩) gb_ (.slice Ap np cp))
                    clear hSw gb_ gl_ gc_ HBS HO_41 HO_61 HB1 HO_4 HO_6 HB hHeld hx2 hfp hfk
                    generalize ((W1.setCell ⟨gr, x6_2.length, none⟩ (.slice Ak nk ck)).setCell ⟨gr, i9, none⟩ (.slice Ap np cp)) = W2 at HO_4n HO_6n HBn ⊢
                    clear W1
                    have HO_4 := HO_4n
                    have HO_6 := HO_6n
                    have HB := HBn
                    clear HO_4n HO_6n HBn
                    cases kj9 with
                    | zero => exact absurd HRA.out (by simp [refred.j4])
                    | succ kjb =>
                    have H := HRA.out
                    clear HRA
                    simp only [refred.j4] at H
                    generalize swL x4_2 (x6_2.length : Int) (i9 : Int) = x4_s at H HO_4
                    generalize hvS : (Value.slice (some ⟨gr, 0, none⟩) x4_2.length cr) = vS at HO_4 ⊢
                    have HVS := Aside0.mk hvS
                    clear hvS; clear HR1 HR3 ra rb rc rd_ c20b0 c20b1
                    by_cases c22 : 0 ≤ (x6_2.length : Int)
                    · rw [if_pos c22] at H
                      have c22b0 : decide (0 ≤ (x6_2.length : Int)) = true := decide_eq_true c22
                      have c22b1 : decide (0 ≤ x6_2.length) = true := decide_eq_true (by omega)
                      clear c22
                      by_cases c23 : (x6_2.length : Int) < (x4_s.length : Int)
                      · rw [if_pos c23] at H
                        have c23b0 : decide ((x6_2.length : Int) < (x4_s.length : Int)) = true := decide_eq_true c23
                        have c23b1 : decide (x6_2.length < x4_s.length) = true := decide_eq_true (Int.ofNat_lt.mp c23)
                        clear c23
                        by_cases c24 : 0 ≤ x7_2
                        · rw [if_pos c24] at H
                          have c24b0 : decide (0 ≤ x7_2) = true := decide_eq_true c24
                          clear c24
                          by_cases c25 : x7_2 < ((rd_L1 x4_s (x6_2.length : Int)).length : Int)
                          · rw [if_pos c25] at H
                            have c25b0 : decide (x7_2 < ((rd_L1 x4_s (x6_2.length : Int)).length : Int)) = true := decide_eq_true c25
                            clear c25
                            replace H := Option.bind_eq_some_iff.mp H
                            obtain ⟨t113, A260, H⟩ := H
                            replace H : (refred.l3 kjb l0 x4_s x6_2 x7_2 (x6_2.length : Int) t113 0) = some (r1, r2) := H
                            have A26 := Aside0.mk A260
                            clear A260
                            have H' := Aside0.mk H
                            clear H
                            obtain ⟨Ao27, co27, eo27⟩ := Kd.S_slice HO_4.out
                            subst eo27
                            have p111 : 0 ≤ ((x6_2.length : Int) : Int) := of_decide_eq_true (by first | (with_reducible assumption) | assumption)
                            have q111 : (x6_2.length : Int) < (x4_s.length : Int) := of_decide_eq_true (by first | (with_reducible assumption) | assumption)
                            obtain ⟨ad111, A111_0, c111_0, e111, hx111_0, hl111_0, hi111_0⟩ := at_L1 (Kd.S_reads' HO_4.out).2.2 (x6_2.length : Int) p111 q111
                            cases e111
                            obtain ⟨ce111, hce111, hMe111, hcc111⟩ := Kd.S_get HO_4.out [] (x6_2.length : Int) p111 (by first | exact q111 | exact of_decide_eq_true (by first | (with_reducible assumption) | assumption) | (have e_ := (Kd.S_reads' HO_4.out).1; omega))
                            obtain ⟨ve111_0, rfl, ge111_0⟩ := hMe111
                            have hv111_0 := hcc111 0 _ rfl
                            rw [Nat.add_zero, show ((Kd.slice 5 (Kd.int .u8))).sz = 1 from rfl, Nat.mul_one] at hv111_0
                            replace hv111_0 := Option.some.inj (hv111_0.symm.trans hx111_0)
                            rw [hv111_0] at ge111_0
                            have HL111_0 := Aside0.mk (show Kd.R (Kd.int .u8) 5 _ _ _ _ (rd_L1 x4_s (x6_2.length : Int)) from ge111_0)
                            clear hv111_0 ge111_0
                            have HX111_0 := Aside0.mk hx111_0
                            clear hcc111 hce111
                            have HR111_0 := Aside0.mk hi111_0
                            have HC111_0 := Aside0.mk hl111_0
                            clear hi111_0 hl111_0
                            (try simp only [Go.IntWalk.toNatUp] at hx111_0)
                            replace p111 := eq_true p111
                            replace q111 := eq_true q111
                            have p112 : 0 ≤ (x7_2 : Int) := of_decide_eq_true (by first | (with_reducible assumption) | assumption)
                            have q112 : x7_2 < ((rd_L1 x4_s (x6_2.length : Int)).length : Int) := of_decide_eq_true (by first | (with_reducible assumption) | assumption)
                            obtain ⟨ad112, e112, hx112_0⟩ := Kd.at_int (by repeat (first | (with_reducible exact HR111_0.out) | (with_reducible refine Kd.C_alloc ?_ _) | (with_reducible refine Kd.C_drewN ?_ _) | (with_reducible refine Kd.C_drew ?_) | exact HR111_0.out)) x7_2 p112 q112
                            cases e112
                            replace p112 := eq_true p112
                            replace q112 := eq_true q112
                            go_wp2_with (first | ((with_reducible refine gate_callee (f := 61) rfl ?_); refine goesL_ (some 86) rfl rfl Try.func61 (by kernel_rfl) rfl #[.int .u8 (rd (rd_L1 x4_s (x6_2.length : Int)) x7_2)] rfl (by (try simp only [List.map_toArray, List.map_cons, List.map_nil]); first | done | rfl | (simp only [List.length_drop, List.length_take]; rfl)) ?_; (with_reducible refine (kinkeepref04_Inv.calls kjb (rd (rd_L1 x4_s (x6_2.length : Int)) x7_2) t113 _ A26.out).mono ?_); rintro e w' ⟨rfl, ⟨nd, rfl⟩⟩; refine ⟨_, rfl, ?_⟩))
                            go_loopg [11] kjb (fun kq v11 w' => ∃ (x4_4 : List (List Int)) (x11_4 : Int), v11 = .int .i64 x11_4 ∧ Aside0 (refred.l3 kq l0 x4_4 x6_2 x7_2 (x6_2.length : Int) t113 x11_4 = some (r1, r2)) ∧ Aside0 (kq ≤ kjb) ∧ Aside0 (Kd.S (Kd.slice 5 (Kd.int .u8)) 34 w' w.heap.size (fun _ => True) (.slice (some ad111) x4_s.length co27) x4_4) ∧ Aside0 (Kd.R (Kd.int .i64) 3 w' w.heap.size (fun _ => True) (.slice Ao11 x6_2.length co11) x6_2) ∧ Aside0 (Below w.heap.size w w'))
                            case atStart => exact ⟨(x4_s), (0), (by first | rfl | (simp; done) | (simp [*]; done)), H', ⟨Nat.le_refl _⟩, ⟨by (with_reducible repeat (first | apply Kd.S_alloc | apply Kd.S_drewN | apply Kd.S_drew)); exact HO_4.out⟩, ⟨by (with_reducible repeat (first | apply Kd.R_alloc | apply Kd.R_drewN | apply Kd.R_drew)); exact HO_6.out⟩, ⟨by repeat (first | (with_reducible first | exact HB.out | apply below_alloc | apply pw_below_drewN | apply below_drew1) | exact HB.out)⟩⟩
                            case round =>
                              clear H'; (try clear c1); (try clear p1); (try clear q1); (try clear hx1); (try clear c2); (try clear p2); (try clear c5); (try clear c5b0); (try clear c6); (try clear p6); (try clear c9); (try clear c9b0); (try clear c10); (try clear p10); (try clear q10); (try clear hx10); (try clear c11); (try clear p11); (try clear q11); (try clear hx11); (try clear c12); (try clear c12b0); (try clear c13); (try clear c13b0); (try clear c14); (try clear c14b0); (try clear c15); (try clear c15b0); (try clear c16); (try clear c16b0); (try clear c16b1); (try clear c20); (try clear c20b0); (try clear c20b1); (try clear c21); (try clear c22); (try clear c22b0); (try clear c22b1); (try clear c23); (try clear c23b0); (try clear c23b1); (try clear c24); (try clear c24b0); (try clear c25); (try clear c25b0); (try clear c26); (try clear hx109_0); (try clear hx110_0); (try clear hx111_0); (try clear hx112_0); (try clear p1); (try clear p10); (try clear p109); (try clear p11); (try clear p110); (try clear p111); (try clear p112); (try clear p2); (try clear p6); (try clear q1); (try clear q10); (try clear q109); (try clear q11); (try clear q110); (try clear q111); (try clear q112)
                              obtain ⟨x4_4, x11_4, rfl, HA, HK4, HO_4, HO_6, HB⟩ := hrel
                              have hl4_4 := (Kd.S_reads' HO_4.out).1
                              rw [hl4_4] at HO_4
                              (try simp only [hl4_4])
                              (try simp only [hl4_4] at HO_6)
                              cases gk with
                              | zero => exact absurd HA.out (by simp [refred.l3])
                              | succ k4 =>
                                have H := HA.out
                                clear HA
                                simp only [refred.l3] at H
                                by_cases c28 : 0 ≤ (x6_2.length : Int)
                                · rw [if_pos c28] at H
                                  have c28b0 : decide (0 ≤ (x6_2.length : Int)) = true := decide_eq_true c28
                                  (try (have c28b0x := c28b0; rw [hl4_4] at c28b0x))
                                  have c28b1 : decide (0 ≤ x6_2.length) = true := decide_eq_true (by omega)
                                  (try (have c28b1x := c28b1; rw [hl4_4] at c28b1x))
                                  clear c28
                                  by_cases c29 : (x6_2.length : Int) < (x4_4.length : Int)
                                  · rw [if_pos c29] at H
                                    have c29b0 : decide ((x6_2.length : Int) < (x4_4.length : Int)) = true := decide_eq_true c29
                                    (try (have c29b0x := c29b0; rw [hl4_4] at c29b0x))
                                    have c29b1 : decide (x6_2.length < x4_4.length) = true := decide_eq_true (Int.ofNat_lt.mp c29)
                                    (try (have c29b1x := c29b1; rw [hl4_4] at c29b1x))
                                    clear c29
                                    by_cases c30 : x11_4 < ((rd_L1 x4_4 (x6_2.length : Int)).length : Int)
                                    · rw [if_pos c30] at H
                                      have c30b0 : decide (x11_4 < ((rd_L1 x4_4 (x6_2.length : Int)).length : Int)) = true := decide_eq_true c30
                                      (try (have c30b0x := c30b0; rw [hl4_4] at c30b0x))
                                      clear c30
                                      by_cases c31 : 0 ≤ x11_4
                                      · rw [if_pos c31] at H
                                        have c31b0 : decide (0 ≤ x11_4) = true := decide_eq_true c31
                                        (try (have c31b0x := c31b0; rw [hl4_4] at c31b0x))
                                        clear c31
                                        replace H := Option.bind_eq_some_iff.mp H
                                        obtain ⟨t118, A320, H⟩ := H
                                        replace H : (refred.l3 k4 l0 (x4_4.set ((x6_2.length : Int) : Int).toNat ((rd_L1 x4_4 (x6_2.length : Int)).set (x11_4 : Int).toNat t118)) x6_2 x7_2 (x6_2.length : Int) t113 (wrap64 (x11_4 + 1))) = some (r1, r2) := H
                                        have A32 := Aside0.mk A320
                                        clear A320
                                        obtain ⟨y119, hy119⟩ : ∃ y_ : List Int, y_ = ((rd_L1 x4_4 (x6_2.length : Int)).set (x11_4 : Int).toNat t118) := ⟨_, rfl⟩
                                        replace H : (refred.l3 k4 l0 (x4_4.set ((x6_2.length : Int) : Int).toNat y119) x6_2 x7_2 (x6_2.length : Int) t113 (wrap64 (x11_4 + 1))) = some (r1, r2) := by first | (rw [hy119]; with_reducible exact H) | (have H2_ := (Option.bind_some _ _).symm.trans H; rw [hy119]; with_reducible exact H2_) | (have H2_ := (Option.bind_some _ _).symm.trans H; with_reducible exact H2_) | with_reducible exact H | (rw [hy119]; exact H) | exact H
                                        have Ny119 := Aside0.mk hy119
                                        clear hy119
                                        obtain ⟨y121, hy121⟩ : ∃ y_ : List (List Int), y_ = (x4_4.set ((x6_2.length : Int) : Int).toNat y119) := ⟨_, rfl⟩
                                        replace H : (refred.l3 k4 l0 y121 x6_2 x7_2 (x6_2.length : Int) t113 (wrap64 (x11_4 + 1))) = some (r1, r2) := by first | (rw [hy121]; with_reducible exact H) | (have H2_ := (Option.bind_some _ _).symm.trans H; rw [hy121]; with_reducible exact H2_) | (have H2_ := (Option.bind_some _ _).symm.trans H; with_reducible exact H2_) | with_reducible exact H | (rw [hy121]; exact H) | exact H
                                        have Ny121 := Aside0.mk hy121
                                        clear hy121
                                        have H' := Aside0.mk H
                                        clear H
                                        have p114 : 0 ≤ ((x6_2.length : Int) : Int) := of_decide_eq_true (by first | (with_reducible assumption) | assumption)
                                        have q114 : (x6_2.length : Int) < (x4_4.length : Int) := of_decide_eq_true (by first | (with_reducible assumption) | assumption)
                                        obtain ⟨ad114, A114_0, c114_0, e114, hx114_0, hl114_0, hi114_0⟩ := at_L1 (Kd.S_reads' HO_4.out).2.2 (x6_2.length : Int) p114 q114
                                        obtain rfl : ad111 = ad114 := (by injection e114)
                                        obtain ⟨ce114, hce114, hMe114, hcc114⟩ := Kd.S_get HO_4.out [] (x6_2.length : Int) p114 (by first | exact q114 | exact of_decide_eq_true (by first | (with_reducible assumption) | assumption) | (have e_ := (Kd.S_reads' HO_4.out).1; omega))
                                        obtain ⟨ve114_0, rfl, ge114_0⟩ := hMe114
                                        have hv114_0 := hcc114 0 _ rfl
                                        rw [Nat.add_zero, show ((Kd.slice 5 (Kd.int .u8))).sz = 1 from rfl, Nat.mul_one] at hv114_0
                                        replace hv114_0 := Option.some.inj (hv114_0.symm.trans hx114_0)
                                        rw [hv114_0] at ge114_0
                                        have HL114_0 := Aside0.mk (show Kd.R (Kd.int .u8) 5 _ _ _ _ (rd_L1 x4_4 (x6_2.length : Int)) from ge114_0)
                                        clear hv114_0 ge114_0
                                        have HX114_0 := Aside0.mk hx114_0
                                        clear hcc114 hce114
                                        have HR114_0 := Aside0.mk hi114_0
                                        have HC114_0 := Aside0.mk hl114_0
                                        clear hi114_0 hl114_0
                                        (try simp only [Go.IntWalk.toNatUp] at hx114_0)
                                        (try simp only [hl4_4] at p114)
                                        (try simp only [hl4_4] at q114)
                                        (try simp only [hl4_4] at hx114_0)
                                        replace p114 := eq_true p114
                                        replace q114 := eq_true q114
                                        try go_wp2
                                        have n0_ := Aside0.mk (Kd.S_drew HO_4.out)
                                        have n1_ := Aside0.mk (Kd.R_drew HO_6.out)
                                        have n2_ := Aside0.mk (Kd.R_drew HL114_0.out)
                                        have n3_ := Aside0.mk (Kd.C_drew HR114_0.out)
                                        have n4_ := Aside0.mk (below_drew1 HB.out)
                                        clear HO_4; clear HO_6; clear HL114_0; clear HR114_0; clear HB
                                        have HO_4 := n0_
                                        have HO_6 := n1_
                                        have HL114_0 := n2_
                                        have HR114_0 := n3_
                                        have HB := n4_
                                        clear n0_ n1_ n2_ n3_ n4_
                                        have p115 : 0 ≤ ((x6_2.length : Int) : Int) := of_decide_eq_true (by first | (with_reducible assumption) | assumption)
                                        have q115 : (x6_2.length : Int) < (x4_4.length : Int) := of_decide_eq_true (by first | (with_reducible assumption) | assumption)
                                        obtain ⟨ad115, A115_0, c115_0, e115, hx115_0, hl115_0, hi115_0⟩ := at_L1 (Kd.S_reads' HO_4.out).2.2 (x6_2.length : Int) p115 q115
                                        obtain rfl : ad111 = ad115 := (by injection e115)
                                        obtain ⟨ce115, hce115, hMe115, hcc115⟩ := Kd.S_get HO_4.out [] (x6_2.length : Int) p115 (by first | exact q115 | exact of_decide_eq_true (by first | (with_reducible assumption) | assumption) | (have e_ := (Kd.S_reads' HO_4.out).1; omega))
                                        obtain ⟨ve115_0, rfl, ge115_0⟩ := hMe115
                                        have hv115_0 := hcc115 0 _ rfl
                                        rw [Nat.add_zero, show ((Kd.slice 5 (Kd.int .u8))).sz = 1 from rfl, Nat.mul_one] at hv115_0
                                        replace hv115_0 := Option.some.inj (hv115_0.symm.trans hx115_0)
                                        rw [hv115_0] at ge115_0
                                        have HL115_0 := Aside0.mk (show Kd.R (Kd.int .u8) 5 _ _ _ _ (rd_L1 x4_4 (x6_2.length : Int)) from ge115_0)
                                        clear hv115_0 ge115_0
                                        have HX115_0 := Aside0.mk hx115_0
                                        clear hcc115 hce115
                                        have HR115_0 := Aside0.mk hi115_0
                                        have HC115_0 := Aside0.mk hl115_0
                                        clear hi115_0 hl115_0
                                        (try simp only [Go.IntWalk.toNatUp] at hx115_0)
                                        (try simp only [hl4_4] at p115)
                                        (try simp only [hl4_4] at q115)
                                        (try simp only [hl4_4] at hx115_0)
                                        replace p115 := eq_true p115
                                        replace q115 := eq_true q115
                                        have p116 : 0 ≤ ((x6_2.length : Int) : Int) := of_decide_eq_true (by first | (with_reducible assumption) | assumption)
                                        have q116 : (x6_2.length : Int) < (x4_4.length : Int) := of_decide_eq_true (by first | (with_reducible assumption) | assumption)
                                        obtain ⟨ad116, A116_0, c116_0, e116, hx116_0, hl116_0, hi116_0⟩ := at_L1 (Kd.S_reads' HO_4.out).2.2 (x6_2.length : Int) p116 q116
                                        obtain rfl : ad111 = ad116 := (by injection e116)
                                        obtain ⟨ce116, hce116, hMe116, hcc116⟩ := Kd.S_get HO_4.out [] (x6_2.length : Int) p116 (by first | exact q116 | exact of_decide_eq_true (by first | (with_reducible assumption) | assumption) | (have e_ := (Kd.S_reads' HO_4.out).1; omega))
                                        obtain ⟨ve116_0, rfl, ge116_0⟩ := hMe116
                                        have hv116_0 := hcc116 0 _ rfl
                                        rw [Nat.add_zero, show ((Kd.slice 5 (Kd.int .u8))).sz = 1 from rfl, Nat.mul_one] at hv116_0
                                        replace hv116_0 := Option.some.inj (hv116_0.symm.trans hx116_0)
                                        rw [hv116_0] at ge116_0
                                        have HL116_0 := Aside0.mk (show Kd.R (Kd.int .u8) 5 _ _ _ _ (rd_L1 x4_4 (x6_2.length : Int)) from ge116_0)
                                        clear hv116_0 ge116_0
                                        have HX116_0 := Aside0.mk hx116_0
                                        clear hcc116 hce116
                                        have HR116_0 := Aside0.mk hi116_0
                                        have HC116_0 := Aside0.mk hl116_0
                                        clear hi116_0 hl116_0
                                        (try simp only [Go.IntWalk.toNatUp] at hx116_0)
                                        (try simp only [hl4_4] at p116)
                                        (try simp only [hl4_4] at q116)
                                        (try simp only [hl4_4] at hx116_0)
                                        replace p116 := eq_true p116
                                        replace q116 := eq_true q116
                                        have ea_ := Option.some.inj (hx115_0.symm.trans hx116_0)
                                        injection ea_ with ea_ en_ ec_
                                        subst ea_
                                        subst ec_
                                        clear en_
                                        have p117 : 0 ≤ (x11_4 : Int) := of_decide_eq_true (by first | (with_reducible assumption) | assumption)
                                        have q117 : x11_4 < ((rd_L1 x4_4 (x6_2.length : Int)).length : Int) := of_decide_eq_true (by first | (with_reducible assumption) | assumption)
                                        obtain ⟨ad117, e117, hx117_0⟩ := Kd.at_int (by repeat (first | (with_reducible exact HR116_0.out) | (with_reducible refine Kd.C_alloc ?_ _) | (with_reducible refine Kd.C_drewN ?_ _) | (with_reducible refine Kd.C_drew ?_) | exact HR116_0.out)) x11_4 p117 q117
                                        cases e117
                                        replace p117 := eq_true p117
                                        replace q117 := eq_true q117
                                        refine start_ (n := 16) (S := fun w' => w'.cell? (ad111.add x6_2.length) = some (.slice (some ad117) (rd_L1 x4_4 (x6_2.length : Int)).length c115_0) ∧ w'.cell? (ad111.add x6_2.length) = some (.slice (some ad117) (rd_L1 x4_4 (x6_2.length : Int)).length c115_0) ∧ w'.cell? (ad117.add (x11_4).toNat) = some (.int .u8 (rd (rd_L1 x4_4 (x6_2.length : Int)) x11_4))) (ds := [15]) #[false, false, false, false, false, false, false, false, false, false, false, false, false, false, false, false] (by kernel_rfl) rfl rfl ⟨hx115_0, hx116_0, hx117_0⟩ (fun hHeld => ?_); refine with_tabW refred.tab20 refred.bits20 (fun HT_ HW_ => ?_)
                                        generalize wr.drew = w34 at HO_4 HO_6 HL114_0 HR114_0 HB HL115_0 HL116_0 HR115_0 HR116_0 HX115_0 HX116_0 hx115_0 hx116_0 hx117_0 hHeld ⊢
                                        refine pure_ (i := 0) (N := some 96) (v := ?_) (a' := ?_) #[true, false, false, false, false, false, false, false, false, false, false, false, false, false, false, false] rfl rfl (any_of HT_.out (by kernel_rfl)) (fun _ _ _ h => h) (Or.inl ⟨by rfl, ?_⟩) ?_ ?_
                                        rotate_left
                                        · intro w'
                                          go_simp
                                          with_reducible rfl
                                        rotate_left
                                        · simp only [Act.put, List.setIfInBounds_toArray, List.set_cons_zero, List.set_cons_succ, i64_w, i32_w]
                                          rfl
                                        refine pure_ (i := 1) (N := some 97) (v := ?_) (a' := ?_) #[true, true, false, false, false, false, false, false, false, false, false, false, false, false, false, false] rfl rfl (any_of HT_.out (by kernel_rfl)) (fun _ _ _ h => h) (Or.inl ⟨by rfl, ?_⟩) ?_ ?_
                                        rotate_left
                                        · intro w'
                                          go_simp
                                          with_reducible rfl
                                        rotate_left
                                        · simp only [Act.put, List.setIfInBounds_toArray, List.set_cons_zero, List.set_cons_succ, i64_w, i32_w]
                                          rfl
                                        refine pure_ (i := 2) (N := some 98) (v := ?_) (a' := ?_) #[true, true, true, false, false, false, false, false, false, false, false, false, false, false, false, false] rfl rfl (any_of HT_.out (by kernel_rfl)) (fun _ _ _ h => h) (Or.inl ⟨by rfl, ?_⟩) ?_ ?_
                                        rotate_left
                                        · intro w'
                                          go_simp
                                          with_reducible rfl
                                        rotate_left
                                        · simp only [Act.put, List.setIfInBounds_toArray, List.set_cons_zero, List.set_cons_succ, i64_w, i32_w]
                                          rfl
                                        refine pure_ (i := 4) (N := some 100) (v := ?_) (a' := ?_) #[true, true, true, false, true, false, false, false, false, false, false, false, false, false, false, false] rfl rfl (any_of HT_.out (by kernel_rfl)) (fun _ _ _ h => h) (Or.inl ⟨by rfl, ?_⟩) ?_ ?_
                                        rotate_left
                                        · intro w'
                                          go_simp
                                          with_reducible rfl
                                        rotate_left
                                        · simp only [Act.put, List.setIfInBounds_toArray, List.set_cons_zero, List.set_cons_succ, i64_w, i32_w]
                                          rfl
                                        refine pure_ (i := 5) (N := some 101) (v := ?_) (a' := ?_) #[true, true, true, false, true, true, false, false, false, false, false, false, false, false, false, false] rfl rfl (any_of HT_.out (by kernel_rfl)) (fun _ _ _ h => h) (Or.inl ⟨by rfl, ?_⟩) ?_ ?_
                                        rotate_left
                                        · intro w'
                                          go_simp
                                          with_reducible rfl
                                        rotate_left
                                        · simp only [Act.put, List.setIfInBounds_toArray, List.set_cons_zero, List.set_cons_succ, i64_w, i32_w]
                                          rfl
                                        refine pure_ (i := 6) (N := some 102) (v := ?_) (a' := ?_) #[true, true, true, false, true, true, true, false, false, false, false, false, false, false, false, false] rfl rfl (any_of HT_.out (by kernel_rfl)) (fun _ _ _ h => h) (Or.inl ⟨by rfl, ?_⟩) ?_ ?_
                                        rotate_left
                                        · intro w'
                                          go_simp
                                          with_reducible rfl
                                        rotate_left
                                        · simp only [Act.put, List.setIfInBounds_toArray, List.set_cons_zero, List.set_cons_succ, i64_w, i32_w]
                                          rfl
                                        refine pure_ (i := 7) (N := some 103) (v := ?_) (a' := ?_) #[true, true, true, false, true, true, true, true, false, false, false, false, false, false, false, false] rfl rfl (any_of HT_.out (by kernel_rfl)) (fun _ _ _ h => h) (Or.inl ⟨by rfl, ?_⟩) ?_ ?_
                                        rotate_left
                                        · intro w'
                                          go_simp
                                          with_reducible rfl
                                        rotate_left
                                        · simp only [Act.put, List.setIfInBounds_toArray, List.set_cons_zero, List.set_cons_succ, i64_w, i32_w]
                                          rfl
                                        refine pure_ (i := 9) (N := some 105) (v := ?_) (a' := ?_) #[true, true, true, false, true, true, true, true, false, true, false, false, false, false, false, false] rfl rfl (any_of HT_.out (by kernel_rfl)) (fun _ _ _ h => h) (Or.inl ⟨by rfl, ?_⟩) ?_ ?_
                                        rotate_left
                                        · intro w'
                                          go_simp
                                          with_reducible rfl
                                        rotate_left
                                        · simp only [Act.put, List.setIfInBounds_toArray, List.set_cons_zero, List.set_cons_succ, i64_w, i32_w]
                                          rfl
                                        refine pure_ (i := 12) (N := some 108) (v := ?_) (a' := ?_) #[true, true, true, false, true, true, true, true, false, true, false, false, true, false, false, false] rfl rfl (any_of HT_.out (by kernel_rfl)) (fun _ _ _ h => h) (Or.inl ⟨by rfl, ?_⟩) ?_ ?_
                                        rotate_left
                                        · intro w'
                                          go_simp
                                          with_reducible rfl
                                        rotate_left
                                        · simp only [Act.put, List.setIfInBounds_toArray, List.set_cons_zero, List.set_cons_succ, i64_w, i32_w]
                                          rfl
                                        refine take_ (i := 3) (N := some 99) (v := ?_) (a' := ?_) #[true, true, true, true, true, true, true, true, false, true, false, false, true, false, false, false] rfl rfl (take_ofW HT_.out HW_.out (by kernel_rfl)) (fun _ _ _ h => h) (Or.inl ⟨by rfl, ?_⟩) hHeld ?_ ?_
                                        rotate_left
                                        · rintro w' ⟨s0, s1, s2⟩
                                          go_simp
                                          with_reducible rfl
                                        rotate_left
                                        · simp only [Act.put, List.setIfInBounds_toArray, List.set_cons_zero, List.set_cons_succ, i64_w, i32_w]
                                          rfl
                                        refine take_ (i := 8) (N := some 104) (v := ?_) (a' := ?_) #[true, true, true, true, true, true, true, true, true, true, false, false, true, false, false, false] rfl rfl (take_ofW HT_.out HW_.out (by kernel_rfl)) (fun _ _ _ h => h) (Or.inl ⟨by rfl, ?_⟩) hHeld ?_ ?_
                                        rotate_left
                                        · rintro w' ⟨s0, s1, s2⟩
                                          go_simp
                                          with_reducible rfl
                                        rotate_left
                                        · simp only [Act.put, List.setIfInBounds_toArray, List.set_cons_zero, List.set_cons_succ, i64_w, i32_w]
                                          rfl
                                        refine pure_ (i := 10) (N := some 106) (v := ?_) (a' := ?_) #[true, true, true, true, true, true, true, true, true, true, true, false, true, false, false, false] rfl rfl (any_of HT_.out (by kernel_rfl)) (fun _ _ _ h => h) (Or.inl ⟨by rfl, ?_⟩) ?_ ?_
                                        rotate_left
                                        · intro w'
                                          go_simp
                                          with_reducible rfl
                                        rotate_left
                                        · simp only [Act.put, List.setIfInBounds_toArray, List.set_cons_zero, List.set_cons_succ, i64_w, i32_w]
                                          rfl
                                        refine take_ (i := 11) (N := some 107) (v := ?_) (a' := ?_) #[true, true, true, true, true, true, true, true, true, true, true, true, true, false, false, false] rfl rfl (take_ofW HT_.out HW_.out (by kernel_rfl)) (fun _ _ _ h => h) (Or.inl ⟨by rfl, ?_⟩) hHeld ?_ ?_
                                        rotate_left
                                        · rintro w' ⟨s0, s1, s2⟩
                                          go_simp
                                          with_reducible rfl
                                        rotate_left
                                        · simp only [Act.put, List.setIfInBounds_toArray, List.set_cons_zero, List.set_cons_succ, i64_w, i32_w]
                                          rfl
                                        refine one_ (i := 13) (N := some 109) #[true, true, true, true, true, true, true, true, true, true, true, true, true, true, false, false] rfl rfl (one_of HT_.out (by kernel_rfl)) (by decide) (fun K hK => ?_)
                                        refine goes_ Try.func35 (by kernel_rfl) rfl #[.int .u8 (rd (rd_L1 x4_4 (x6_2.length : Int)) x11_4), .int .u8 t113] (by rfl) rfl rfl (by (try simp only [List.map_toArray, List.map_cons, List.map_nil]); first | done | rfl | (simp only [List.length_drop, List.length_take]; rfl)) ?_
                                        with_reducible refine (kinkeepref04_Mul.calls k4 (rd (rd_L1 x4_4 (x6_2.length : Int)) x11_4) t113 t118 _ A32.out).mono ?_
                                        rintro e w' ⟨rfl, ⟨nd, rfl⟩⟩
                                        refine ⟨_, rfl, ?_⟩
                                        have p33 : 0 ≤ (x11_4 : Int) := of_decide_eq_true (by first | (with_reducible assumption) | assumption)
                                        have q33 : (x11_4 : Int) < (((rd_L1 x4_4 (x6_2.length : Int)).length : Int) : Int) := of_decide_eq_true (by first | (with_reducible assumption) | assumption)
                                        obtain ⟨go33, co33, eo33, gb33, gl33, cl33, HG33⟩ := Kd.R_form HL115_0.out (by omega)
                                        (first | cases eo33 | (injection eo33 with ea_ en_ ec_; (first | subst ea_ | (injection ea_ with ea_; subst ea_)); subst ec_; clear en_))
                                        have GB33 := Aside0.mk gb33
                                        have GG33 := Aside0.mk HG33
                                        clear gb33 gl33 HG33
                                        (first | simp only [add_plain] at hx117_0 | skip)
                                        obtain ⟨hx33_0, hf33_0⟩ := Kd.R_celln 0 HL115_0.out (x11_4 : Int) p33 q33
                                        replace p33 := eq_true p33
                                        replace q33 := eq_true q33
                                        have hq35 : ((x6_2.length : Int) : Int) < (x4_4.length : Int) := (by have h_ : ((x6_2.length : Int) : Int) < ((x4_4.length : Int) : Int) := of_decide_eq_true (by first | (with_reducible assumption) | assumption); first | exact h_ | (have e_ := (Kd.S_reads' HO_4.out).1; omega) | simpa only [List.length_set, List.length_set] using h_)
                                        obtain ⟨oki35, ce35, hcl35, hM35, hcc35, hok35, hbk35⟩ := Kd.S_borrow HO_4.out [] ((x6_2.length : Int) : Int) (of_decide_eq_true (by first | (with_reducible assumption) | assumption)) hq35
                                        obtain ⟨ve35_0, rfl, ge35_0⟩ := hM35
                                        have hv35 := hcc35 0 _ rfl
                                        rw [Nat.add_zero, show ((Kd.slice 5 (Kd.int .u8))).sz = 1 from rfl, Nat.mul_one] at hv35
                                        replace hv35 := Option.some.inj (hv35.symm.trans HX115_0.out)
                                        subst hv35
                                        clear hcc35 hcl35
                                        replace ge35_0 := (show Kd.R (Kd.int .u8) 5 _ _ _ _ (rd_L1 x4_4 (x6_2.length : Int)) from ge35_0)
                                        have HP35 := Kd.R_putg ge35_0 (x11_4 : Int) t118
                                        rw [← Ny119.out] at HP35
                                        have HS35 := hbk35 HP35.2 (fun k_ e_ => by injection e_ with e_; subst e_; exact ge35_0.1 _ rfl) (x' := y119) (Kd.M_row HP35.1)
                                        rw [← Ny121.out] at HS35
                                        have HQ35 := Aside0.mk HS35
                                        clear HP35 HS35 hbk35 hok35
                                        refine hK.out _ _ ⟨hHeld.1, hHeld.2.1, hHeld.2.2⟩ (fun hHeld => ?_)
                                        clear hK K
                                        refine norm_ (a' := ?_) ?_ ?_
                                        rotate_left
                                        · show Act.put _ (some 109) _ = _
                                          simp only [Act.put, List.setIfInBounds_toArray, List.set_cons_zero, List.set_cons_succ, i64_w, i32_w]
                                          rfl
                                        refine pure_ (i := 14) (N := some 110) (v := ?_) (a' := ?_) #[true, true, true, true, true, true, true, true, true, true, true, true, true, true, true, false] rfl rfl (any_of HT_.out (by kernel_rfl)) (fun _ _ _ h => h) (Or.inl ⟨by rfl, ?_⟩) ?_ ?_
                                        rotate_left
                                        · intro w'
                                          go_simp
                                          with_reducible rfl
                                        rotate_left
                                        · simp only [Act.put, List.setIfInBounds_toArray, List.set_cons_zero, List.set_cons_succ, i64_w, i32_w]
                                          rfl
                                        refine last_ (i := 15) (N := none) #[true, true, true, true, true, true, true, true, true, true, true, true, true, true, true, true] rfl rfl (one_of HT_.out (by kernel_rfl)) (by decide) (fun K hK => ?_)
                                        refine skip_ (w1 := ?_) (by rfl) rfl ?_ ?_
                                        rotate_left
                                        · go_simp
                                          rfl
                                        refine hK.out _ _ ?_
                                        clear hK K
                                        refine done_ (done_of HT_.out (by kernel_rfl)) ?_
                                        try go_wp2
                                        (try simp only [← hl4_4])
                                        go_roundg k4
                                        case measure => have := HK1.out; have := HK2.out; have := HJ9.out; have := HK4.out; omega
                                        case rel => exact ⟨(y121), (wrap64 (x11_4 + 1)), (by first | rfl | (simp; done) | (simp [*]; done)), H', ⟨by have := HK1.out; have := HK2.out; have := HJ9.out; have := HK4.out; omega⟩, ⟨by (try simp only [hl4_4]); (with_reducible repeat (first | apply Kd.S_alloc | apply Kd.S_drewN | apply Kd.S_drew)); exact HQ35.out⟩, ⟨by (try simp only [hl4_4]); (with_reducible repeat (first | apply Kd.R_alloc | apply Kd.R_drewN | apply Kd.R_drew)); exact Kd.R_mono (Kd.R_far (p := ⟨go33, (x11_4 : Int).toNat, none⟩) (Kd.R_types HO_6.out GG33.out (by decide)) (fun _ hk => hk.2) (.int .u8 t118)) (fun _ hk => trivial)⟩, ⟨by repeat (first | (with_reducible first | exact HB.out | apply below_alloc | apply pw_below_drewN | apply below_drew1 | refine below_set ?_ GB33.out) | exact HB.out)⟩⟩
                                      · rw [if_neg c31] at H
                                        exact absurd H (by simp)
                                    · rw [if_neg c30] at H
                                      have c30b0 : decide (x11_4 < ((rd_L1 x4_4 (x6_2.length : Int)).length : Int)) = false := decide_eq_false c30
                                      (try (have c30b0x := c30b0; rw [hl4_4] at c30b0x))
                                      clear c30
                                      have H' := Aside0.mk H
                                      clear H
                                      have p114 : 0 ≤ ((x6_2.length : Int) : Int) := of_decide_eq_true (by first | (with_reducible assumption) | assumption)
                                      have q114 : (x6_2.length : Int) < (x4_4.length : Int) := of_decide_eq_true (by first | (with_reducible assumption) | assumption)
                                      obtain ⟨ad114, A114_0, c114_0, e114, hx114_0, hl114_0, hi114_0⟩ := at_L1 (Kd.S_reads' HO_4.out).2.2 (x6_2.length : Int) p114 q114
                                      obtain rfl : ad111 = ad114 := (by injection e114)
                                      obtain ⟨ce114, hce114, hMe114, hcc114⟩ := Kd.S_get HO_4.out [] (x6_2.length : Int) p114 (by first | exact q114 | exact of_decide_eq_true (by first | (with_reducible assumption) | assumption) | (have e_ := (Kd.S_reads' HO_4.out).1; omega))
                                      obtain ⟨ve114_0, rfl, ge114_0⟩ := hMe114
                                      have hv114_0 := hcc114 0 _ rfl
                                      rw [Nat.add_zero, show ((Kd.slice 5 (Kd.int .u8))).sz = 1 from rfl, Nat.mul_one] at hv114_0
                                      replace hv114_0 := Option.some.inj (hv114_0.symm.trans hx114_0)
                                      rw [hv114_0] at ge114_0
                                      have HL114_0 := Aside0.mk (show Kd.R (Kd.int .u8) 5 _ _ _ _ (rd_L1 x4_4 (x6_2.length : Int)) from ge114_0)
                                      clear hv114_0 ge114_0
                                      have HX114_0 := Aside0.mk hx114_0
                                      clear hcc114 hce114
                                      have HR114_0 := Aside0.mk hi114_0
                                      have HC114_0 := Aside0.mk hl114_0
                                      clear hi114_0 hl114_0
                                      (try simp only [Go.IntWalk.toNatUp] at hx114_0)
                                      (try simp only [hl4_4] at p114)
                                      (try simp only [hl4_4] at q114)
                                      (try simp only [hl4_4] at hx114_0)
                                      replace p114 := eq_true p114
                                      replace q114 := eq_true q114
                                      go_wp2
                                      go_loopg [12] k4 (fun kq v12 w' => ∃ (x4_5 : List (List Int)) (x12_5 : Int), v12 = .int .i64 x12_5 ∧ Aside0 (refred.l4 kq l0 x4_5 x6_2 x7_2 (x6_2.length : Int) x12_5 = some (r1, r2)) ∧ Aside0 (kq ≤ k4) ∧ Aside0 (Kd.S (Kd.slice 5 (Kd.int .u8)) 34 w' w.heap.size (fun _ => True) (.slice (some ad111) x4_4.length co27) x4_5) ∧ Aside0 (Kd.R (Kd.int .i64) 3 w' w.heap.size (fun _ => True) (.slice Ao11 x6_2.length co11) x6_2) ∧ Aside0 (Below w.heap.size w w'))
                                      case atStart => exact ⟨(x4_4), (0), (by first | rfl | (simp; done) | (simp [*]; done)), H', ⟨Nat.le_refl _⟩, ⟨by (try simp only [hl4_4]); (with_reducible repeat (first | apply Kd.S_alloc | apply Kd.S_drewN | apply Kd.S_drew)); exact HO_4.out⟩, ⟨by (try simp only [hl4_4]); (with_reducible repeat (first | apply Kd.R_alloc | apply Kd.R_drewN | apply Kd.R_drew)); exact HO_6.out⟩, ⟨by repeat (first | (with_reducible first | exact HB.out | apply below_alloc | apply pw_below_drewN | apply below_drew1) | exact HB.out)⟩⟩
                                      case round =>
                                        clear H'; (try clear c1); (try clear p1); (try clear q1); (try clear hx1); (try clear c2); (try clear p2); (try clear c3); (try clear p3); (try clear q3); (try clear hx3); (try clear hf3); (try clear c5); (try clear c5b0); (try clear c6); (try clear p6); (try clear c9); (try clear c9b0); (try clear c10); (try clear p10); (try clear q10); (try clear hx10); (try clear c11); (try clear p11); (try clear q11); (try clear hx11); (try clear c12); (try clear c12b0); (try clear c13); (try clear c13b0); (try clear c14); (try clear c14b0); (try clear c15); (try clear c15b0); (try clear c16); (try clear c16b0); (try clear c16b1); (try clear c20); (try clear c20b0); (try clear c20b1); (try clear c21); (try clear c22); (try clear c22b0); (try clear c22b1); (try clear c23); (try clear c23b0); (try clear c23b1); (try clear c24); (try clear c24b0); (try clear c25); (try clear c25b0); (try clear c26); (try clear c28); (try clear c28b0); (try clear c28b1); (try clear c29); (try clear c29b0); (try clear c29b1); (try clear c30); (try clear c30b0); (try clear c31); (try clear c31b0); (try clear p33); (try clear q33); (try clear hx33); (try clear hf33); (try clear c35); (try clear q35); (try clear hx109_0); (try clear hx110_0); (try clear hx111_0); (try clear hx112_0); (try clear hx114_0); (try clear hx115_0); (try clear hx116_0); (try clear hx117_0); (try clear hx33_0); (try clear p1); (try clear p10); (try clear p109); (try clear p11); (try clear p110); (try clear p111); (try clear p112); (try clear p114); (try clear p115); (try clear p116); (try clear p117); (try clear p2); (try clear p33); (try clear p6); (try clear q1); (try clear q10); (try clear q109); (try clear q11); (try clear q110); (try clear q111); (try clear q112); (try clear q114); (try clear q115); (try clear q116); (try clear q117); (try clear q33)
                                        obtain ⟨x4_5, x12_5, rfl, HA, HK5, HO_4, HO_6, HB⟩ := hrel
                                        have hl4_5 := (Kd.S_reads' HO_4.out).1
                                        rw [hl4_5] at HO_4
                                        (try simp only [hl4_5])
                                        (try simp only [hl4_5] at HO_6)
                                        cases gk with
                                        | zero => exact absurd HA.out (by simp [refred.l4])
                                        | succ k5 =>
                                          have H := HA.out
                                          clear HA
                                          simp only [refred.l4] at H
                                          by_cases c37 : x12_5 < (x4_5.length : Int)
                                          · rw [if_pos c37] at H
                                            have c37b0 : decide (x12_5 < (x4_5.length : Int)) = true := decide_eq_true c37
                                            (try (have c37b0x := c37b0; rw [hl4_4] at c37b0x))
                                            (try (have c37b0x := c37b0; rw [hl4_5] at c37b0x))
                                            clear c37
                                            by_cases c38 : 0 ≤ x12_5
                                            · rw [if_pos c38] at H
                                              have c38b0 : decide (0 ≤ x12_5) = true := decide_eq_true c38
                                              (try (have c38b0x := c38b0; rw [hl4_4] at c38b0x))
                                              (try (have c38b0x := c38b0; rw [hl4_5] at c38b0x))
                                              clear c38
                                              by_cases c39 : 0 ≤ x7_2
                                              · rw [if_pos c39] at H
                                                have c39b0 : decide (0 ≤ x7_2) = true := decide_eq_true c39
                                                (try (have c39b0x := c39b0; rw [hl4_4] at c39b0x))
                                                (try (have c39b0x := c39b0; rw [hl4_5] at c39b0x))
                                                clear c39
                                                by_cases c40 : x7_2 < ((rd_L1 x4_5 x12_5).length : Int)
                                                · rw [if_pos c40] at H
                                                  have c40b0 : decide (x7_2 < ((rd_L1 x4_5 x12_5).length : Int)) = true := decide_eq_true c40
                                                  (try (have c40b0x := c40b0; rw [hl4_4] at c40b0x))
                                                  (try (have c40b0x := c40b0; rw [hl4_5] at c40b0x))
                                                  clear c40
                                                  have H' := Aside0.mk H
                                                  clear H
                                                  have p125 : 0 ≤ (x12_5 : Int) := of_decide_eq_true (by first | (with_reducible assumption) | assumption)
                                                  have q125 : x12_5 < (x4_5.length : Int) := of_decide_eq_true (by first | (with_reducible assumption) | assumption)
                                                  obtain ⟨ad125, A125_0, c125_0, e125, hx125_0, hl125_0, hi125_0⟩ := at_L1 (Kd.S_reads' HO_4.out).2.2 x12_5 p125 q125
                                                  obtain rfl : ad111 = ad125 := (by injection e125)
                                                  obtain ⟨ce125, hce125, hMe125, hcc125⟩ := Kd.S_get HO_4.out [] x12_5 p125 (by first | exact q125 | exact of_decide_eq_true (by first | (with_reducible assumption) | assumption) | (have e_ := (Kd.S_reads' HO_4.out).1; omega))
                                                  obtain ⟨ve125_0, rfl, ge125_0⟩ := hMe125
                                                  have hv125_0 := hcc125 0 _ rfl
                                                  rw [Nat.add_zero, show ((Kd.slice 5 (Kd.int .u8))).sz = 1 from rfl, Nat.mul_one] at hv125_0
                                                  replace hv125_0 := Option.some.inj (hv125_0.symm.trans hx125_0)
                                                  rw [hv125_0] at ge125_0
                                                  have HL125_0 := Aside0.mk (show Kd.R (Kd.int .u8) 5 _ _ _ _ (rd_L1 x4_5 x12_5) from ge125_0)
                                                  clear hv125_0 ge125_0
                                                  have HX125_0 := Aside0.mk hx125_0
                                                  clear hcc125 hce125
                                                  have HR125_0 := Aside0.mk hi125_0
                                                  have HC125_0 := Aside0.mk hl125_0
                                                  clear hi125_0 hl125_0
                                                  replace p125 := eq_true p125
                                                  replace q125 := eq_true q125
                                                  have p126 : 0 ≤ (x7_2 : Int) := of_decide_eq_true (by first | (with_reducible assumption) | assumption)
                                                  have q126 : x7_2 < ((rd_L1 x4_5 x12_5).length : Int) := of_decide_eq_true (by first | (with_reducible assumption) | assumption)
                                                  obtain ⟨ad126, e126, hx126_0⟩ := Kd.at_int (by repeat (first | (with_reducible exact HR125_0.out) | (with_reducible refine Kd.C_alloc ?_ _) | (with_reducible refine Kd.C_drewN ?_ _) | (with_reducible refine Kd.C_drew ?_) | exact HR125_0.out)) x7_2 p126 q126
                                                  cases e126
                                                  replace p126 := eq_true p126
                                                  replace q126 := eq_true q126
                                                  go_wp2
                                                  go_loopg [14] k5 (fun kq v14 w' => ∃ (x4_6 : List (List Int)) (x14_6 : Int), v14 = .int .i64 x14_6 ∧ Aside0 (refred.l5 kq l0 x4_6 x6_2 x7_2 (x6_2.length : Int) x12_5 (rd (rd_L1 x4_5 x12_5) x7_2) x14_6 = some (r1, r2)) ∧ Aside0 (kq ≤ k5) ∧ Aside0 (Kd.S (Kd.slice 5 (Kd.int .u8)) 34 w' w.heap.size (fun _ => True) (.slice (some ad111) x4_5.length co27) x4_6) ∧ Aside0 (Kd.R (Kd.int .i64) 3 w' w.heap.size (fun _ => True) (.slice Ao11 x6_2.length co11) x6_2) ∧ Aside0 (Below w.heap.size w w'))
                                                  case atStart => exact ⟨(x4_5), (0), (by first | rfl | (simp; done) | (simp [*]; done)), H', ⟨Nat.le_refl _⟩, ⟨by (try simp only [hl4_4]); (try simp only [hl4_5]); (with_reducible repeat (first | apply Kd.S_alloc | apply Kd.S_drewN | apply Kd.S_drew)); exact HO_4.out⟩, ⟨by (try simp only [hl4_4]); (try simp only [hl4_5]); (with_reducible repeat (first | apply Kd.R_alloc | apply Kd.R_drewN | apply Kd.R_drew)); exact HO_6.out⟩, ⟨by repeat (first | (with_reducible first | exact HB.out | apply below_alloc | apply pw_below_drewN | apply below_drew1) | exact HB.out)⟩⟩
                                                  case round =>
                                                    clear H'; (try clear c1); (try clear p1); (try clear q1); (try clear hx1); (try clear c2); (try clear p2); (try clear c3); (try clear p3); (try clear q3); (try clear hx3); (try clear hf3); (try clear c4); (try clear c5); (try clear c5b0); (try clear c6); (try clear p6); (try clear c9); (try clear c9b0); (try clear c10); (try clear p10); (try clear q10); (try clear hx10); (try clear c11); (try clear p11); (try clear q11); (try clear hx11); (try clear c12); (try clear c12b0); (try clear p12); (try clear q12); (try clear hx12); (try clear c13); (try clear c13b0); (try clear c14); (try clear c14b0); (try clear c15); (try clear c15b0); (try clear c16); (try clear c16b0); (try clear c16b1); (try clear c20); (try clear c20b0); (try clear c20b1); (try clear c21); (try clear c22); (try clear c22b0); (try clear c22b1); (try clear c23); (try clear c23b0); (try clear c23b1); (try clear c24); (try clear c24b0); (try clear c25); (try clear c25b0); (try clear c26); (try clear c28); (try clear c28b0); (try clear c28b1); (try clear c29); (try clear c29b0); (try clear c29b1); (try clear c30); (try clear c30b0); (try clear c31); (try clear c31b0); (try clear p33); (try clear q33); (try clear hx33); (try clear hf33); (try clear c35); (try clear q35); (try clear c37); (try clear c37b0); (try clear c38); (try clear c38b0); (try clear c39); (try clear c39b0); (try clear c40); (try clear c40b0); (try clear hx109_0); (try clear hx110_0); (try clear hx111_0); (try clear hx112_0); (try clear hx114_0); (try clear hx115_0); (try clear hx116_0); (try clear hx117_0); (try clear hx125_0); (try clear hx126_0); (try clear hx33_0); (try clear p1); (try clear p10); (try clear p109); (try clear p11); (try clear p110); (try clear p111); (try clear p112); (try clear p114); (try clear p115); (try clear p116); (try clear p117); (try clear p125); (try clear p126); (try clear p2); (try clear p3); (try clear p33); (try clear p6); (try clear q1); (try clear q10); (try clear q109); (try clear q11); (try clear q110); (try clear q111); (try clear q112); (try clear q114); (try clear q115); (try clear q116); (try clear q117); (try clear q125); (try clear q126); (try clear q3); (try clear q33); (try clear q35)
                                                    obtain ⟨x4_6, x14_6, rfl, HA, HK6, HO_4, HO_6, HB⟩ := hrel
                                                    have hl4_6 := (Kd.S_reads' HO_4.out).1
                                                    rw [hl4_6] at HO_4
                                                    (try simp only [hl4_6])
                                                    (try simp only [hl4_6] at HO_6)
                                                    cases gk with
                                                    | zero => exact absurd HA.out (by simp [refred.l5])
                                                    | succ k6 =>
                                                      have H := HA.out
                                                      clear HA
                                                      simp only [refred.l5] at H
                                                      by_cases c41 : x12_5 = (x6_2.length : Int)
                                                      · rw [if_pos c41] at H
                                                        have c41b0 : (x12_5 == (x6_2.length : Int)) = true := beq_iff_eq.mpr c41
                                                        (try (have c41b0x := c41b0; rw [hl4_4] at c41b0x))
                                                        (try (have c41b0x := c41b0; rw [hl4_5] at c41b0x))
                                                        (try (have c41b0x := c41b0; rw [hl4_6] at c41b0x))
                                                        have c41b1 : (x12_5 != (x6_2.length : Int)) = false := bne_eq_false_iff_eq.mpr c41
                                                        (try (have c41b1x := c41b1; rw [hl4_4] at c41b1x))
                                                        (try (have c41b1x := c41b1; rw [hl4_5] at c41b1x))
                                                        (try (have c41b1x := c41b1; rw [hl4_6] at c41b1x))
                                                        clear c41
                                                        have H' := Aside0.mk H
                                                        clear H
                                                        go_wp2
                                                        (try simp only [← hl4_5, ← hl4_6])
                                                        go_roundg k6
                                                        case measure => have := HK1.out; have := HK2.out; have := HJ9.out; have := HK4.out; have := HK5.out; have := HK6.out; omega
                                                        case rel => exact ⟨(x4_6), (wrap64 (x12_5 + 1)), (by first | rfl | (simp; done) | (simp [*]; done)), H', ⟨by have := HK1.out; have := HK2.out; have := HJ9.out; have := HK4.out; have := HK5.out; have := HK6.out; omega⟩, ⟨by (try simp only [hl4_4]); (try simp only [hl4_5]); (try simp only [hl4_6]); (with_reducible repeat (first | apply Kd.S_alloc | apply Kd.S_drewN | apply Kd.S_drew)); exact HO_4.out⟩, ⟨by (try simp only [hl4_4]); (try simp only [hl4_5]); (try simp only [hl4_6]); (with_reducible repeat (first | apply Kd.R_alloc | apply Kd.R_drewN | apply Kd.R_drew)); exact HO_6.out⟩, ⟨by repeat (first | (with_reducible first | exact HB.out | apply below_alloc | apply pw_below_drewN | apply below_drew1) | exact HB.out)⟩⟩
                                                      · rw [if_neg c41] at H
                                                        have c41b0 : (x12_5 == (x6_2.length : Int)) = false := beq_eq_false_iff_ne.mpr c41
                                                        (try (have c41b0x := c41b0; rw [hl4_4] at c41b0x))
                                                        (try (have c41b0x := c41b0; rw [hl4_5] at c41b0x))
                                                        (try (have c41b0x := c41b0; rw [hl4_6] at c41b0x))
                                                        have c41b1 : (x12_5 != (x6_2.length : Int)) = true := bne_iff_ne.mpr c41
                                                        (try (have c41b1x := c41b1; rw [hl4_4] at c41b1x))
                                                        (try (have c41b1x := c41b1; rw [hl4_5] at c41b1x))
                                                        (try (have c41b1x := c41b1; rw [hl4_6] at c41b1x))
                                                        by_cases c42 : 0 ≤ x12_5
                                                        · rw [if_pos c42] at H
                                                          have c42b0 : decide (0 ≤ x12_5) = true := decide_eq_true c42
                                                          (try (have c42b0x := c42b0; rw [hl4_4] at c42b0x))
                                                          (try (have c42b0x := c42b0; rw [hl4_5] at c42b0x))
                                                          (try (have c42b0x := c42b0; rw [hl4_6] at c42b0x))
                                                          clear c42
                                                          by_cases c43 : x12_5 < (x4_6.length : Int)
                                                          · rw [if_pos c43] at H
                                                            have c43b0 : decide (x12_5 < (x4_6.length : Int)) = true := decide_eq_true c43
                                                            (try (have c43b0x := c43b0; rw [hl4_4] at c43b0x))
                                                            (try (have c43b0x := c43b0; rw [hl4_5] at c43b0x))
                                                            (try (have c43b0x := c43b0; rw [hl4_6] at c43b0x))
                                                            clear c43
                                                            by_cases c44 : x14_6 < ((rd_L1 x4_6 x12_5).length : Int)
                                                            · rw [if_pos c44] at H
                                                              have c44b0 : decide (x14_6 < ((rd_L1 x4_6 x12_5).length : Int)) = true := decide_eq_true c44
                                                              (try (have c44b0x := c44b0; rw [hl4_4] at c44b0x))
                                                              (try (have c44b0x := c44b0; rw [hl4_5] at c44b0x))
                                                              (try (have c44b0x := c44b0; rw [hl4_6] at c44b0x))
                                                              clear c44
                                                              by_cases c45 : 0 ≤ x14_6
                                                              · rw [if_pos c45] at H
                                                                have c45b0 : decide (0 ≤ x14_6) = true := decide_eq_true c45
                                                                (try (have c45b0x := c45b0; rw [hl4_4] at c45b0x))
                                                                (try (have c45b0x := c45b0; rw [hl4_5] at c45b0x))
                                                                (try (have c45b0x := c45b0; rw [hl4_6] at c45b0x))
                                                                clear c45
                                                                by_cases c46 : 0 ≤ (x6_2.length : Int)
                                                                · rw [if_pos c46] at H
                                                                  have c46b0 : decide (0 ≤ (x6_2.length : Int)) = true := decide_eq_true c46
                                                                  (try (have c46b0x := c46b0; rw [hl4_4] at c46b0x))
                                                                  (try (have c46b0x := c46b0; rw [hl4_5] at c46b0x))
                                                                  (try (have c46b0x := c46b0; rw [hl4_6] at c46b0x))
                                                                  have c46b1 : decide (0 ≤ x6_2.length) = true := decide_eq_true (by omega)
                                                                  (try (have c46b1x := c46b1; rw [hl4_4] at c46b1x))
                                                                  (try (have c46b1x := c46b1; rw [hl4_5] at c46b1x))
                                                                  (try (have c46b1x := c46b1; rw [hl4_6] at c46b1x))
                                                                  clear c46
                                                                  by_cases c47 : (x6_2.length : Int) < (x4_6.length : Int)
                                                                  · rw [if_pos c47] at H
                                                                    have c47b0 : decide ((x6_2.length : Int) < (x4_6.length : Int)) = true := decide_eq_true c47
                                                                    (try (have c47b0x := c47b0; rw [hl4_4] at c47b0x))
                                                                    (try (have c47b0x := c47b0; rw [hl4_5] at c47b0x))
                                                                    (try (have c47b0x := c47b0; rw [hl4_6] at c47b0x))
                                                                    have c47b1 : decide (x6_2.length < x4_6.length) = true := decide_eq_true (Int.ofNat_lt.mp c47)
                                                                    (try (have c47b1x := c47b1; rw [hl4_4] at c47b1x))
                                                                    (try (have c47b1x := c47b1; rw [hl4_5] at c47b1x))
                                                                    (try (have c47b1x := c47b1; rw [hl4_6] at c47b1x))
                                                                    clear c47
                                                                    by_cases c48 : x14_6 < ((rd_L1 x4_6 (x6_2.length : Int)).length : Int)
                                                                    · rw [if_pos c48] at H
                                                                      have c48b0 : decide (x14_6 < ((rd_L1 x4_6 (x6_2.length : Int)).length : Int)) = true := decide_eq_true c48
                                                                      (try (have c48b0x := c48b0; rw [hl4_4] at c48b0x))
                                                                      (try (have c48b0x := c48b0; rw [hl4_5] at c48b0x))
                                                                      (try (have c48b0x := c48b0; rw [hl4_6] at c48b0x))
                                                                      clear c48
                                                                      replace H := Option.bind_eq_some_iff.mp H
                                                                      obtain ⟨t133, A490, H⟩ := H
                                                                      replace H : (refred.l5 k6 l0 (x4_6.set (x12_5 : Int).toNat ((rd_L1 x4_6 x12_5).set (x14_6 : Int).toNat (Go.bits .xor .u8 (rd (rd_L1 x4_6 x12_5) x14_6) t133))) x6_2 x7_2 (x6_2.length : Int) x12_5 (rd (rd_L1 x4_5 x12_5) x7_2) (wrap64 (x14_6 + 1))) = some (r1, r2) := H
                                                                      have A49 := Aside0.mk A490
                                                                      clear A490
                                                                      obtain ⟨y134, hy134⟩ : ∃ y_ : List Int, y_ = ((rd_L1 x4_6 x12_5).set (x14_6 : Int).toNat (Go.bits .xor .u8 (rd (rd_L1 x4_6 x12_5) x14_6) t133)) := ⟨_, rfl⟩
                                                                      replace H : (refred.l5 k6 l0 (x4_6.set (x12_5 : Int).toNat y134) x6_2 x7_2 (x6_2.length : Int) x12_5 (rd (rd_L1 x4_5 x12_5) x7_2) (wrap64 (x14_6 + 1))) = some (r1, r2) := by first | (rw [hy134]; with_reducible exact H) | (have H2_ := (Option.bind_some _ _).symm.trans H; rw [hy134]; with_reducible exact H2_) | (have H2_ := (Option.bind_some _ _).symm.trans H; with_reducible exact H2_) | with_reducible exact H | (rw [hy134]; exact H) | exact H
                                                                      have Ny134 := Aside0.mk hy134
                                                                      clear hy134
                                                                      obtain ⟨y136, hy136⟩ : ∃ y_ : List (List Int), y_ = (x4_6.set (x12_5 : Int).toNat y134) := ⟨_, rfl⟩
                                                                      replace H : (refred.l5 k6 l0 y136 x6_2 x7_2 (x6_2.length : Int) x12_5 (rd (rd_L1 x4_5 x12_5) x7_2) (wrap64 (x14_6 + 1))) = some (r1, r2) := by first | (rw [hy136]; with_reducible exact H) | (have H2_ := (Option.bind_some _ _).symm.trans H; rw [hy136]; with_reducible exact H2_) | (have H2_ := (Option.bind_some _ _).symm.trans H; with_reducible exact H2_) | with_reducible exact H | (rw [hy136]; exact H) | exact H
                                                                      have Ny136 := Aside0.mk hy136
                                                                      clear hy136
                                                                      have H' := Aside0.mk H
                                                                      clear H
                                                                      have p127 : 0 ≤ (x12_5 : Int) := of_decide_eq_true (by first | (with_reducible assumption) | assumption)
                                                                      have q127 : x12_5 < (x4_6.length : Int) := of_decide_eq_true (by first | (with_reducible assumption) | assumption)
                                                                      obtain ⟨ad127, A127_0, c127_0, e127, hx127_0, hl127_0, hi127_0⟩ := at_L1 (Kd.S_reads' HO_4.out).2.2 x12_5 p127 q127
                                                                      obtain rfl : ad111 = ad127 := (by injection e127)
                                                                      obtain ⟨ce127, hce127, hMe127, hcc127⟩ := Kd.S_get HO_4.out [] x12_5 p127 (by first | exact q127 | exact of_decide_eq_true (by first | (with_reducible assumption) | assumption) | (have e_ := (Kd.S_reads' HO_4.out).1; omega))
                                                                      obtain ⟨ve127_0, rfl, ge127_0⟩ := hMe127
                                                                      have hv127_0 := hcc127 0 _ rfl
                                                                      rw [Nat.add_zero, show ((Kd.slice 5 (Kd.int .u8))).sz = 1 from rfl, Nat.mul_one] at hv127_0
                                                                      replace hv127_0 := Option.some.inj (hv127_0.symm.trans hx127_0)
                                                                      rw [hv127_0] at ge127_0
                                                                      have HL127_0 := Aside0.mk (show Kd.R (Kd.int .u8) 5 _ _ _ _ (rd_L1 x4_6 x12_5) from ge127_0)
                                                                      clear hv127_0 ge127_0
                                                                      have HX127_0 := Aside0.mk hx127_0
                                                                      clear hcc127 hce127
                                                                      have HR127_0 := Aside0.mk hi127_0
                                                                      have HC127_0 := Aside0.mk hl127_0
                                                                      clear hi127_0 hl127_0
                                                                      replace p127 := eq_true p127
                                                                      replace q127 := eq_true q127
                                                                      try go_wp2
                                                                      have n0_ := Aside0.mk (Kd.S_drew HO_4.out)
                                                                      have n1_ := Aside0.mk (Kd.R_drew HO_6.out)
                                                                      have n2_ := Aside0.mk (Kd.R_drew HL127_0.out)
                                                                      have n3_ := Aside0.mk (Kd.C_drew HR127_0.out)
                                                                      have n4_ := Aside0.mk (below_drew1 HB.out)
                                                                      clear HO_4; clear HO_6; clear HL127_0; clear HR127_0; clear HB
                                                                      have HO_4 := n0_
                                                                      have HO_6 := n1_
                                                                      have HL127_0 := n2_
                                                                      have HR127_0 := n3_
                                                                      have HB := n4_
                                                                      clear n0_ n1_ n2_ n3_ n4_
                                                                      have p128 : 0 ≤ (x12_5 : Int) := of_decide_eq_true (by first | (with_reducible assumption) | assumption)
                                                                      have q128 : x12_5 < (x4_6.length : Int) := of_decide_eq_true (by first | (with_reducible assumption) | assumption)
                                                                      obtain ⟨ad128, A128_0, c128_0, e128, hx128_0, hl128_0, hi128_0⟩ := at_L1 (Kd.S_reads' HO_4.out).2.2 x12_5 p128 q128
                                                                      obtain rfl : ad111 = ad128 := (by injection e128)
                                                                      obtain ⟨ce128, hce128, hMe128, hcc128⟩ := Kd.S_get HO_4.out [] x12_5 p128 (by first | exact q128 | exact of_decide_eq_true (by first | (with_reducible assumption) | assumption) | (have e_ := (Kd.S_reads' HO_4.out).1; omega))
                                                                      obtain ⟨ve128_0, rfl, ge128_0⟩ := hMe128
                                                                      have hv128_0 := hcc128 0 _ rfl
                                                                      rw [Nat.add_zero, show ((Kd.slice 5 (Kd.int .u8))).sz = 1 from rfl, Nat.mul_one] at hv128_0
                                                                      replace hv128_0 := Option.some.inj (hv128_0.symm.trans hx128_0)
                                                                      rw [hv128_0] at ge128_0
                                                                      have HL128_0 := Aside0.mk (show Kd.R (Kd.int .u8) 5 _ _ _ _ (rd_L1 x4_6 x12_5) from ge128_0)
                                                                      clear hv128_0 ge128_0
                                                                      have HX128_0 := Aside0.mk hx128_0
                                                                      clear hcc128 hce128
                                                                      have HR128_0 := Aside0.mk hi128_0
                                                                      have HC128_0 := Aside0.mk hl128_0
                                                                      clear hi128_0 hl128_0
                                                                      replace p128 := eq_true p128
                                                                      replace q128 := eq_true q128
                                                                      have p129 : 0 ≤ (x12_5 : Int) := of_decide_eq_true (by first | (with_reducible assumption) | assumption)
                                                                      have q129 : x12_5 < (x4_6.length : Int) := of_decide_eq_true (by first | (with_reducible assumption) | assumption)
                                                                      obtain ⟨ad129, A129_0, c129_0, e129, hx129_0, hl129_0, hi129_0⟩ := at_L1 (Kd.S_reads' HO_4.out).2.2 x12_5 p129 q129
                                                                      obtain rfl : ad111 = ad129 := (by injection e129)
                                                                      obtain ⟨ce129, hce129, hMe129, hcc129⟩ := Kd.S_get HO_4.out [] x12_5 p129 (by first | exact q129 | exact of_decide_eq_true (by first | (with_reducible assumption) | assumption) | (have e_ := (Kd.S_reads' HO_4.out).1; omega))
                                                                      obtain ⟨ve129_0, rfl, ge129_0⟩ := hMe129
                                                                      have hv129_0 := hcc129 0 _ rfl
                                                                      rw [Nat.add_zero, show ((Kd.slice 5 (Kd.int .u8))).sz = 1 from rfl, Nat.mul_one] at hv129_0
                                                                      replace hv129_0 := Option.some.inj (hv129_0.symm.trans hx129_0)
                                                                      rw [hv129_0] at ge129_0
                                                                      have HL129_0 := Aside0.mk (show Kd.R (Kd.int .u8) 5 _ _ _ _ (rd_L1 x4_6 x12_5) from ge129_0)
                                                                      clear hv129_0 ge129_0
                                                                      have HX129_0 := Aside0.mk hx129_0
                                                                      clear hcc129 hce129
                                                                      have HR129_0 := Aside0.mk hi129_0
                                                                      have HC129_0 := Aside0.mk hl129_0
                                                                      clear hi129_0 hl129_0
                                                                      replace p129 := eq_true p129
                                                                      replace q129 := eq_true q129
                                                                      have ea_ := Option.some.inj (hx128_0.symm.trans hx129_0)
                                                                      injection ea_ with ea_ en_ ec_
                                                                      subst ea_
                                                                      subst ec_
                                                                      clear en_
                                                                      have p130 : 0 ≤ (x14_6 : Int) := of_decide_eq_true (by first | (with_reducible assumption) | assumption)
                                                                      have q130 : x14_6 < ((rd_L1 x4_6 x12_5).length : Int) := of_decide_eq_true (by first | (with_reducible assumption) | assumption)
                                                                      obtain ⟨ad130, e130, hx130_0⟩ := Kd.at_int (by repeat (first | (with_reducible exact HR129_0.out) | (with_reducible refine Kd.C_alloc ?_ _) | (with_reducible refine Kd.C_drewN ?_ _) | (with_reducible refine Kd.C_drew ?_) | exact HR129_0.out)) x14_6 p130 q130
                                                                      cases e130
                                                                      replace p130 := eq_true p130
                                                                      replace q130 := eq_true q130
                                                                      have p131 : 0 ≤ ((x6_2.length : Int) : Int) := of_decide_eq_true (by first | (with_reducible assumption) | assumption)
                                                                      have q131 : (x6_2.length : Int) < (x4_6.length : Int) := of_decide_eq_true (by first | (with_reducible assumption) | assumption)
                                                                      obtain ⟨ad131, A131_0, c131_0, e131, hx131_0, hl131_0, hi131_0⟩ := at_L1 (Kd.S_reads' HO_4.out).2.2 (x6_2.length : Int) p131 q131
                                                                      obtain rfl : ad111 = ad131 := (by injection e131)
                                                                      obtain ⟨ce131, hce131, hMe131, hcc131⟩ := Kd.S_get HO_4.out [] (x6_2.length : Int) p131 (by first | exact q131 | exact of_decide_eq_true (by first | (with_reducible assumption) | assumption) | (have e_ := (Kd.S_reads' HO_4.out).1; omega))
                                                                      obtain ⟨ve131_0, rfl, ge131_0⟩ := hMe131
                                                                      have hv131_0 := hcc131 0 _ rfl
                                                                      rw [Nat.add_zero, show ((Kd.slice 5 (Kd.int .u8))).sz = 1 from rfl, Nat.mul_one] at hv131_0
                                                                      replace hv131_0 := Option.some.inj (hv131_0.symm.trans hx131_0)
                                                                      rw [hv131_0] at ge131_0
                                                                      have HL131_0 := Aside0.mk (show Kd.R (Kd.int .u8) 5 _ _ _ _ (rd_L1 x4_6 (x6_2.length : Int)) from ge131_0)
                                                                      clear hv131_0 ge131_0
                                                                      have HX131_0 := Aside0.mk hx131_0
                                                                      clear hcc131 hce131
                                                                      have HR131_0 := Aside0.mk hi131_0
                                                                      have HC131_0 := Aside0.mk hl131_0
                                                                      clear hi131_0 hl131_0
                                                                      (try simp only [Go.IntWalk.toNatUp] at hx131_0)
                                                                      (try simp only [hl4_4, hl4_5, hl4_6] at p131)
                                                                      (try simp only [hl4_4, hl4_5, hl4_6] at q131)
                                                                      (try simp only [hl4_4, hl4_5, hl4_6] at hx131_0)
                                                                      replace p131 := eq_true p131
                                                                      replace q131 := eq_true q131
                                                                      have p132 : 0 ≤ (x14_6 : Int) := of_decide_eq_true (by first | (with_reducible assumption) | assumption)
                                                                      have q132 : x14_6 < ((rd_L1 x4_6 (x6_2.length : Int)).length : Int) := of_decide_eq_true (by first | (with_reducible assumption) | assumption)
                                                                      obtain ⟨ad132, e132, hx132_0⟩ := Kd.at_int (by repeat (first | (with_reducible exact HR131_0.out) | (with_reducible refine Kd.C_alloc ?_ _) | (with_reducible refine Kd.C_drewN ?_ _) | (with_reducible refine Kd.C_drew ?_) | exact HR131_0.out)) x14_6 p132 q132
                                                                      cases e132
                                                                      replace p132 := eq_true p132
                                                                      replace q132 := eq_true q132
                                                                      refine start_ (n := 24) (S := fun w' => w'.cell? (ad111.add (x12_5).toNat) = some (.slice (some ad130) (rd_L1 x4_6 x12_5).length c128_0) ∧ w'.cell? (ad111.add (x12_5).toNat) = some (.slice (some ad130) (rd_L1 x4_6 x12_5).length c128_0) ∧ w'.cell? (ad130.add (x14_6).toNat) = some (.int .u8 (rd (rd_L1 x4_6 x12_5) x14_6)) ∧ w'.cell? (ad111.add x6_2.length) = some (.slice (some ad132) (rd_L1 x4_6 (x6_2.length : Int)).length c131_0) ∧ w'.cell? (ad132.add (x14_6).toNat) = some (.int .u8 (rd (rd_L1 x4_6 (x6_2.length : Int)) x14_6))) (ds := [23]) #[false, false, false, false, false, false, false, false, false, false, false, false, false, false, false, false, false, false, false, false, false, false, false, false] (by kernel_rfl) rfl rfl ⟨hx128_0, hx129_0, hx130_0, hx131_0, hx132_0⟩ (fun hHeld => ?_); refine with_tabW refred.tab28 refred.bits28 (fun HT_ HW_ => ?_)
                                                                      generalize wr.drew = w51 at HO_4 HO_6 HL127_0 HR127_0 HB HL128_0 HL129_0 HL131_0 HR128_0 HR129_0 HR131_0 HX128_0 HX129_0 HX131_0 hx128_0 hx129_0 hx130_0 hx131_0 hx132_0 hHeld ⊢
                                                                      refine pure_ (i := 0) (N := some 138) (v := ?_) (a' := ?_) #[true, false, false, false, false, false, false, false, false, false, false, false, false, false, false, false, false, false, false, false, false, false, false, false] rfl rfl (any_of HT_.out (by kernel_rfl)) (fun _ _ _ h => h) (Or.inl ⟨by rfl, ?_⟩) ?_ ?_
                                                                      rotate_left
                                                                      · intro w'
                                                                        go_simp
                                                                        with_reducible rfl
                                                                      rotate_left
                                                                      · simp only [Act.put, List.setIfInBounds_toArray, List.set_cons_zero, List.set_cons_succ, i64_w, i32_w]
                                                                        rfl
                                                                      refine pure_ (i := 1) (N := some 139) (v := ?_) (a' := ?_) #[true, true, false, false, false, false, false, false, false, false, false, false, false, false, false, false, false, false, false, false, false, false, false, false] rfl rfl (any_of HT_.out (by kernel_rfl)) (fun _ _ _ h => h) (Or.inl ⟨by rfl, ?_⟩) ?_ ?_
                                                                      rotate_left
                                                                      · intro w'
                                                                        go_simp
                                                                        with_reducible rfl
                                                                      rotate_left
                                                                      · simp only [Act.put, List.setIfInBounds_toArray, List.set_cons_zero, List.set_cons_succ, i64_w, i32_w]
                                                                        rfl
                                                                      refine pure_ (i := 2) (N := some 140) (v := ?_) (a' := ?_) #[true, true, true, false, false, false, false, false, false, false, false, false, false, false, false, false, false, false, false, false, false, false, false, false] rfl rfl (any_of HT_.out (by kernel_rfl)) (fun _ _ _ h => h) (Or.inl ⟨by rfl, ?_⟩) ?_ ?_
                                                                      rotate_left
                                                                      · intro w'
                                                                        go_simp
                                                                        with_reducible rfl
                                                                      rotate_left
                                                                      · simp only [Act.put, List.setIfInBounds_toArray, List.set_cons_zero, List.set_cons_succ, i64_w, i32_w]
                                                                        rfl
                                                                      refine pure_ (i := 4) (N := some 142) (v := ?_) (a' := ?_) #[true, true, true, false, true, false, false, false, false, false, false, false, false, false, false, false, false, false, false, false, false, false, false, false] rfl rfl (any_of HT_.out (by kernel_rfl)) (fun _ _ _ h => h) (Or.inl ⟨by rfl, ?_⟩) ?_ ?_
                                                                      rotate_left
                                                                      · intro w'
                                                                        go_simp
                                                                        with_reducible rfl
                                                                      rotate_left
                                                                      · simp only [Act.put, List.setIfInBounds_toArray, List.set_cons_zero, List.set_cons_succ, i64_w, i32_w]
                                                                        rfl
                                                                      refine pure_ (i := 5) (N := some 143) (v := ?_) (a' := ?_) #[true, true, true, false, true, true, false, false, false, false, false, false, false, false, false, false, false, false, false, false, false, false, false, false] rfl rfl (any_of HT_.out (by kernel_rfl)) (fun _ _ _ h => h) (Or.inl ⟨by rfl, ?_⟩) ?_ ?_
                                                                      rotate_left
                                                                      · intro w'
                                                                        go_simp
                                                                        with_reducible rfl
                                                                      rotate_left
                                                                      · simp only [Act.put, List.setIfInBounds_toArray, List.set_cons_zero, List.set_cons_succ, i64_w, i32_w]
                                                                        rfl
                                                                      refine pure_ (i := 6) (N := some 144) (v := ?_) (a' := ?_) #[true, true, true, false, true, true, true, false, false, false, false, false, false, false, false, false, false, false, false, false, false, false, false, false] rfl rfl (any_of HT_.out (by kernel_rfl)) (fun _ _ _ h => h) (Or.inl ⟨by rfl, ?_⟩) ?_ ?_
                                                                      rotate_left
                                                                      · intro w'
                                                                        go_simp
                                                                        with_reducible rfl
                                                                      rotate_left
                                                                      · simp only [Act.put, List.setIfInBounds_toArray, List.set_cons_zero, List.set_cons_succ, i64_w, i32_w]
                                                                        rfl
                                                                      refine pure_ (i := 7) (N := some 145) (v := ?_) (a' := ?_) #[true, true, true, false, true, true, true, true, false, false, false, false, false, false, false, false, false, false, false, false, false, false, false, false] rfl rfl (any_of HT_.out (by kernel_rfl)) (fun _ _ _ h => h) (Or.inl ⟨by rfl, ?_⟩) ?_ ?_
                                                                      rotate_left
                                                                      · intro w'
                                                                        go_simp
                                                                        with_reducible rfl
                                                                      rotate_left
                                                                      · simp only [Act.put, List.setIfInBounds_toArray, List.set_cons_zero, List.set_cons_succ, i64_w, i32_w]
                                                                        rfl
                                                                      refine pure_ (i := 9) (N := some 147) (v := ?_) (a' := ?_) #[true, true, true, false, true, true, true, true, false, true, false, false, false, false, false, false, false, false, false, false, false, false, false, false] rfl rfl (any_of HT_.out (by kernel_rfl)) (fun _ _ _ h => h) (Or.inl ⟨by rfl, ?_⟩) ?_ ?_
                                                                      rotate_left
                                                                      · intro w'
                                                                        go_simp
                                                                        with_reducible rfl
                                                                      rotate_left
                                                                      · simp only [Act.put, List.setIfInBounds_toArray, List.set_cons_zero, List.set_cons_succ, i64_w, i32_w]
                                                                        rfl
                                                                      refine pure_ (i := 12) (N := some 150) (v := ?_) (a' := ?_) #[true, true, true, false, true, true, true, true, false, true, false, false, true, false, false, false, false, false, false, false, false, false, false, false] rfl rfl (any_of HT_.out (by kernel_rfl)) (fun _ _ _ h => h) (Or.inl ⟨by rfl, ?_⟩) ?_ ?_
                                                                      rotate_left
                                                                      · intro w'
                                                                        go_simp
                                                                        with_reducible rfl
                                                                      rotate_left
                                                                      · simp only [Act.put, List.setIfInBounds_toArray, List.set_cons_zero, List.set_cons_succ, i64_w, i32_w]
                                                                        rfl
                                                                      refine pure_ (i := 13) (N := some 151) (v := ?_) (a' := ?_) #[true, true, true, false, true, true, true, true, false, true, false, false, true, true, false, false, false, false, false, false, false, false, false, false] rfl rfl (any_of HT_.out (by kernel_rfl)) (fun _ _ _ h => h) (Or.inl ⟨by rfl, ?_⟩) ?_ ?_
                                                                      rotate_left
                                                                      · intro w'
                                                                        go_simp
                                                                        with_reducible rfl
                                                                      rotate_left
                                                                      · simp only [Act.put, List.setIfInBounds_toArray, List.set_cons_zero, List.set_cons_succ, i64_w, i32_w]
                                                                        rfl
                                                                      refine pure_ (i := 14) (N := some 152) (v := ?_) (a' := ?_) #[true, true, true, false, true, true, true, true, false, true, false, false, true, true, true, false, false, false, false, false, false, false, false, false] rfl rfl (any_of HT_.out (by kernel_rfl)) (fun _ _ _ h => h) (Or.inl ⟨by rfl, ?_⟩) ?_ ?_
                                                                      rotate_left
                                                                      · intro w'
                                                                        go_simp
                                                                        with_reducible rfl
                                                                      rotate_left
                                                                      · simp only [Act.put, List.setIfInBounds_toArray, List.set_cons_zero, List.set_cons_succ, i64_w, i32_w]
                                                                        rfl
                                                                      refine pure_ (i := 15) (N := some 153) (v := ?_) (a' := ?_) #[true, true, true, false, true, true, true, true, false, true, false, false, true, true, true, true, false, false, false, false, false, false, false, false] rfl rfl (any_of HT_.out (by kernel_rfl)) (fun _ _ _ h => h) (Or.inl ⟨by rfl, ?_⟩) ?_ ?_
                                                                      rotate_left
                                                                      · intro w'
                                                                        go_simp
                                                                        with_reducible rfl
                                                                      rotate_left
                                                                      · simp only [Act.put, List.setIfInBounds_toArray, List.set_cons_zero, List.set_cons_succ, i64_w, i32_w]
                                                                        rfl
                                                                      refine pure_ (i := 17) (N := some 155) (v := ?_) (a' := ?_) #[true, true, true, false, true, true, true, true, false, true, false, false, true, true, true, true, false, true, false, false, false, false, false, false] rfl rfl (any_of HT_.out (by kernel_rfl)) (fun _ _ _ h => h) (Or.inl ⟨by rfl, ?_⟩) ?_ ?_
                                                                      rotate_left
                                                                      · intro w'
                                                                        go_simp
                                                                        with_reducible rfl
                                                                      rotate_left
                                                                      · simp only [Act.put, List.setIfInBounds_toArray, List.set_cons_zero, List.set_cons_succ, i64_w, i32_w]
                                                                        rfl
                                                                      refine take_ (i := 3) (N := some 141) (v := ?_) (a' := ?_) #[true, true, true, true, true, true, true, true, false, true, false, false, true, true, true, true, false, true, false, false, false, false, false, false] rfl rfl (take_ofW HT_.out HW_.out (by kernel_rfl)) (fun _ _ _ h => h) (Or.inl ⟨by rfl, ?_⟩) hHeld ?_ ?_
                                                                      rotate_left
                                                                      · rintro w' ⟨s0, s1, s2, s3, s4⟩
                                                                        go_simp
                                                                        with_reducible rfl
                                                                      rotate_left
                                                                      · simp only [Act.put, List.setIfInBounds_toArray, List.set_cons_zero, List.set_cons_succ, i64_w, i32_w]
                                                                        rfl
                                                                      refine take_ (i := 8) (N := some 146) (v := ?_) (a' := ?_) #[true, true, true, true, true, true, true, true, true, true, false, false, true, true, true, true, false, true, false, false, false, false, false, false] rfl rfl (take_ofW HT_.out HW_.out (by kernel_rfl)) (fun _ _ _ h => h) (Or.inl ⟨by rfl, ?_⟩) hHeld ?_ ?_
                                                                      rotate_left
                                                                      · rintro w' ⟨s0, s1, s2, s3, s4⟩
                                                                        go_simp
                                                                        with_reducible rfl
                                                                      rotate_left
                                                                      · simp only [Act.put, List.setIfInBounds_toArray, List.set_cons_zero, List.set_cons_succ, i64_w, i32_w]
                                                                        rfl
                                                                      refine pure_ (i := 10) (N := some 148) (v := ?_) (a' := ?_) #[true, true, true, true, true, true, true, true, true, true, true, false, true, true, true, true, false, true, false, false, false, false, false, false] rfl rfl (any_of HT_.out (by kernel_rfl)) (fun _ _ _ h => h) (Or.inl ⟨by rfl, ?_⟩) ?_ ?_
                                                                      rotate_left
                                                                      · intro w'
                                                                        go_simp
                                                                        with_reducible rfl
                                                                      rotate_left
                                                                      · simp only [Act.put, List.setIfInBounds_toArray, List.set_cons_zero, List.set_cons_succ, i64_w, i32_w]
                                                                        rfl
                                                                      refine take_ (i := 11) (N := some 149) (v := ?_) (a' := ?_) #[true, true, true, true, true, true, true, true, true, true, true, true, true, true, true, true, false, true, false, false, false, false, false, false] rfl rfl (take_ofW HT_.out HW_.out (by kernel_rfl)) (fun _ _ _ h => h) (Or.inl ⟨by rfl, ?_⟩) hHeld ?_ ?_
                                                                      rotate_left
                                                                      · rintro w' ⟨s0, s1, s2, s3, s4⟩
                                                                        go_simp
                                                                        with_reducible rfl
                                                                      rotate_left
                                                                      · simp only [Act.put, List.setIfInBounds_toArray, List.set_cons_zero, List.set_cons_succ, i64_w, i32_w]
                                                                        rfl
                                                                      refine take_ (i := 16) (N := some 154) (v := ?_) (a' := ?_) #[true, true, true, true, true, true, true, true, true, true, true, true, true, true, true, true, true, true, false, false, false, false, false, false] rfl rfl (take_ofW HT_.out HW_.out (by kernel_rfl)) (fun _ _ _ h => h) (Or.inl ⟨by rfl, ?_⟩) hHeld ?_ ?_
                                                                      rotate_left
                                                                      · rintro w' ⟨s0, s1, s2, s3, s4⟩
                                                                        go_simp
                                                                        with_reducible rfl
                                                                      rotate_left
                                                                      · simp only [Act.put, List.setIfInBounds_toArray, List.set_cons_zero, List.set_cons_succ, i64_w, i32_w]
                                                                        rfl
                                                                      refine pure_ (i := 18) (N := some 156) (v := ?_) (a' := ?_) #[true, true, true, true, true, true, true, true, true, true, true, true, true, true, true, true, true, true, true, false, false, false, false, false] rfl rfl (any_of HT_.out (by kernel_rfl)) (fun _ _ _ h => h) (Or.inl ⟨by rfl, ?_⟩) ?_ ?_
                                                                      rotate_left
                                                                      · intro w'
                                                                        go_simp
                                                                        with_reducible rfl
                                                                      rotate_left
                                                                      · simp only [Act.put, List.setIfInBounds_toArray, List.set_cons_zero, List.set_cons_succ, i64_w, i32_w]
                                                                        rfl
                                                                      refine take_ (i := 19) (N := some 157) (v := ?_) (a' := ?_) #[true, true, true, true, true, true, true, true, true, true, true, true, true, true, true, true, true, true, true, true, false, false, false, false] rfl rfl (take_ofW HT_.out HW_.out (by kernel_rfl)) (fun _ _ _ h => h) (Or.inl ⟨by rfl, ?_⟩) hHeld ?_ ?_
                                                                      rotate_left
                                                                      · rintro w' ⟨s0, s1, s2, s3, s4⟩
                                                                        go_simp
                                                                        with_reducible rfl
                                                                      rotate_left
                                                                      · simp only [Act.put, List.setIfInBounds_toArray, List.set_cons_zero, List.set_cons_succ, i64_w, i32_w]
                                                                        rfl
                                                                      refine one_ (i := 20) (N := some 158) #[true, true, true, true, true, true, true, true, true, true, true, true, true, true, true, true, true, true, true, true, true, false, false, false] rfl rfl (one_of HT_.out (by kernel_rfl)) (by decide) (fun K hK => ?_)
                                                                      refine goes_ Try.func35 (by kernel_rfl) rfl #[.int .u8 (rd (rd_L1 x4_5 x12_5) x7_2), .int .u8 (rd (rd_L1 x4_6 (x6_2.length : Int)) x14_6)] (by rfl) rfl rfl (by (try simp only [List.map_toArray, List.map_cons, List.map_nil]); first | done | rfl | (simp only [List.length_drop, List.length_take]; rfl)) ?_
                                                                      with_reducible refine (kinkeepref04_Mul.calls k6 (rd (rd_L1 x4_5 x12_5) x7_2) (rd (rd_L1 x4_6 (x6_2.length : Int)) x14_6) t133 _ A49.out).mono ?_
                                                                      rintro e w' ⟨rfl, ⟨nd, rfl⟩⟩
                                                                      refine ⟨_, rfl, ?_⟩
                                                                      have p50 : 0 ≤ (x14_6 : Int) := of_decide_eq_true (by first | (with_reducible assumption) | assumption)
                                                                      have q50 : (x14_6 : Int) < (((rd_L1 x4_6 x12_5).length : Int) : Int) := of_decide_eq_true (by first | (with_reducible assumption) | assumption)
                                                                      obtain ⟨go50, co50, eo50, gb50, gl50, cl50, HG50⟩ := Kd.R_form HL128_0.out (by omega)
                                                                      (first | cases eo50 | (injection eo50 with ea_ en_ ec_; (first | subst ea_ | (injection ea_ with ea_; subst ea_)); subst ec_; clear en_))
                                                                      have GB50 := Aside0.mk gb50
                                                                      have GG50 := Aside0.mk HG50
                                                                      clear gb50 gl50 HG50
                                                                      (first | simp only [add_plain] at hx130_0 | skip)
                                                                      obtain ⟨hx50_0, hf50_0⟩ := Kd.R_celln 0 HL128_0.out (x14_6 : Int) p50 q50
                                                                      replace p50 := eq_true p50
                                                                      replace q50 := eq_true q50
                                                                      have hq52 : (x12_5 : Int) < (x4_6.length : Int) := (by have h_ : (x12_5 : Int) < ((x4_6.length : Int) : Int) := of_decide_eq_true (by first | (with_reducible assumption) | assumption); first | exact h_ | (have e_ := (Kd.S_reads' HO_4.out).1; omega) | simpa only [List.length_set, List.length_set] using h_)
                                                                      obtain ⟨oki52, ce52, hcl52, hM52, hcc52, hok52, hbk52⟩ := Kd.S_borrow HO_4.out [] (x12_5 : Int) (of_decide_eq_true (by first | (with_reducible assumption) | assumption)) hq52
                                                                      obtain ⟨ve52_0, rfl, ge52_0⟩ := hM52
                                                                      have hv52 := hcc52 0 _ rfl
                                                                      rw [Nat.add_zero, show ((Kd.slice 5 (Kd.int .u8))).sz = 1 from rfl, Nat.mul_one] at hv52
                                                                      replace hv52 := Option.some.inj (hv52.symm.trans HX128_0.out)
                                                                      subst hv52
                                                                      clear hcc52 hcl52
                                                                      replace ge52_0 := (show Kd.R (Kd.int .u8) 5 _ _ _ _ (rd_L1 x4_6 x12_5) from ge52_0)
                                                                      have HP52 := Kd.R_putg ge52_0 (x14_6 : Int) (Go.bits .xor .u8 (rd (rd_L1 x4_6 x12_5) x14_6) t133)
                                                                      rw [← Ny134.out] at HP52
                                                                      have HS52 := hbk52 HP52.2 (fun k_ e_ => by injection e_ with e_; subst e_; exact ge52_0.1 _ rfl) (x' := y134) (Kd.M_row HP52.1)
                                                                      rw [← Ny136.out] at HS52
                                                                      have HQ52 := Aside0.mk HS52
                                                                      clear HP52 HS52 hbk52 hok52
                                                                      refine hK.out _ _ ⟨hHeld.1, hHeld.2.1, hHeld.2.2.1, hHeld.2.2.2.1, hHeld.2.2.2.2⟩ (fun hHeld => ?_)
                                                                      clear hK K
                                                                      refine norm_ (a' := ?_) ?_ ?_
                                                                      rotate_left
                                                                      · show Act.put _ (some 158) _ = _
                                                                        simp only [Act.put, List.setIfInBounds_toArray, List.set_cons_zero, List.set_cons_succ, i64_w, i32_w]
                                                                        rfl
                                                                      refine pure_ (i := 21) (N := some 159) (v := ?_) (a' := ?_) #[true, true, true, true, true, true, true, true, true, true, true, true, true, true, true, true, true, true, true, true, true, true, false, false] rfl rfl (any_of HT_.out (by kernel_rfl)) (fun _ _ _ h => h) (Or.inl ⟨by rfl, ?_⟩) ?_ ?_
                                                                      rotate_left
                                                                      · intro w'
                                                                        go_simp
                                                                        with_reducible rfl
                                                                      rotate_left
                                                                      · simp only [Act.put, List.setIfInBounds_toArray, List.set_cons_zero, List.set_cons_succ, i64_w, i32_w]
                                                                        rfl
                                                                      refine pure_ (i := 22) (N := some 160) (v := ?_) (a' := ?_) #[true, true, true, true, true, true, true, true, true, true, true, true, true, true, true, true, true, true, true, true, true, true, true, false] rfl rfl (any_of HT_.out (by kernel_rfl)) (fun _ _ _ h => h) (Or.inl ⟨by rfl, ?_⟩) ?_ ?_
                                                                      rotate_left
                                                                      · intro w'
                                                                        go_simp
                                                                        with_reducible rfl
                                                                      rotate_left
                                                                      · simp only [Act.put, List.setIfInBounds_toArray, List.set_cons_zero, List.set_cons_succ, i64_w, i32_w]
                                                                        rfl
                                                                      refine last_ (i := 23) (N := none) #[true, true, true, true, true, true, true, true, true, true, true, true, true, true, true, true, true, true, true, true, true, true, true, true] rfl rfl (one_of HT_.out (by kernel_rfl)) (by decide) (fun K hK => ?_)
                                                                      refine skip_ (w1 := ?_) (by rfl) rfl ?_ ?_
                                                                      rotate_left
                                                                      · go_simp
                                                                        rfl
                                                                      refine hK.out _ _ ?_
                                                                      clear hK K
                                                                      refine done_ (done_of HT_.out (by kernel_rfl)) ?_
                                                                      try go_wp2
                                                                      (try simp only [← hl4_6])
                                                                      go_roundg k6
                                                                      case measure => have := HK1.out; have := HK2.out; have := HJ9.out; have := HK4.out; have := HK5.out; have := HK6.out; omega
                                                                      case rel => exact ⟨(y136), (wrap64 (x14_6 + 1)), (by first | rfl | (simp; done) | (simp [*]; done)), H', ⟨by have := HK1.out; have := HK2.out; have := HJ9.out; have := HK4.out; have := HK5.out; have := HK6.out; omega⟩, ⟨by (try simp only [hl4_4]); (try simp only [hl4_5]); (try simp only [hl4_6]); (with_reducible repeat (first | apply Kd.S_alloc | apply Kd.S_drewN | apply Kd.S_drew)); exact HQ52.out⟩, ⟨by (try simp only [hl4_4]); (try simp only [hl4_5]); (try simp only [hl4_6]); (with_reducible repeat (first | apply Kd.R_alloc | apply Kd.R_drewN | apply Kd.R_drew)); exact Kd.R_mono (Kd.R_far (p := ⟨go50, (x14_6 : Int).toNat, none⟩) (Kd.R_types HO_6.out GG50.out (by decide)) (fun _ hk => hk.2) (.int .u8 (Go.bits .xor .u8 (rd (rd_L1 x4_6 x12_5) x14_6) t133))) (fun _ hk => trivial)⟩, ⟨by repeat (first | (with_reducible first | exact HB.out | apply below_alloc | apply pw_below_drewN | apply below_drew1 | refine below_set ?_ GB50.out) | exact HB.out)⟩⟩
                                                                    · rw [if_neg c48] at H
                                                                      exact absurd H (by simp)
                                                                  · rw [if_neg c47] at H
                                                                    exact absurd H (by simp)
                                                                · rw [if_neg c46] at H
                                                                  exact absurd H (by simp)
                                                              · rw [if_neg c45] at H
                                                                exact absurd H (by simp)
                                                            · rw [if_neg c44] at H
                                                              have c44b0 : decide (x14_6 < ((rd_L1 x4_6 x12_5).length : Int)) = false := decide_eq_false c44
                                                              (try (have c44b0x := c44b0; rw [hl4_4] at c44b0x))
                                                              (try (have c44b0x := c44b0; rw [hl4_5] at c44b0x))
                                                              (try (have c44b0x := c44b0; rw [hl4_6] at c44b0x))
                                                              clear c44
                                                              have H' := Aside0.mk H
                                                              clear H
                                                              have p127 : 0 ≤ (x12_5 : Int) := of_decide_eq_true (by first | (with_reducible assumption) | assumption)
                                                              have q127 : x12_5 < (x4_6.length : Int) := of_decide_eq_true (by first | (with_reducible assumption) | assumption)
                                                              obtain ⟨ad127, A127_0, c127_0, e127, hx127_0, hl127_0, hi127_0⟩ := at_L1 (Kd.S_reads' HO_4.out).2.2 x12_5 p127 q127
                                                              obtain rfl : ad111 = ad127 := (by injection e127)
                                                              obtain ⟨ce127, hce127, hMe127, hcc127⟩ := Kd.S_get HO_4.out [] x12_5 p127 (by first | exact q127 | exact of_decide_eq_true (by first | (with_reducible assumption) | assumption) | (have e_ := (Kd.S_reads' HO_4.out).1; omega))
                                                              obtain ⟨ve127_0, rfl, ge127_0⟩ := hMe127
                                                              have hv127_0 := hcc127 0 _ rfl
                                                              rw [Nat.add_zero, show ((Kd.slice 5 (Kd.int .u8))).sz = 1 from rfl, Nat.mul_one] at hv127_0
                                                              replace hv127_0 := Option.some.inj (hv127_0.symm.trans hx127_0)
                                                              rw [hv127_0] at ge127_0
                                                              have HL127_0 := Aside0.mk (show Kd.R (Kd.int .u8) 5 _ _ _ _ (rd_L1 x4_6 x12_5) from ge127_0)
                                                              clear hv127_0 ge127_0
                                                              have HX127_0 := Aside0.mk hx127_0
                                                              clear hcc127 hce127
                                                              have HR127_0 := Aside0.mk hi127_0
                                                              have HC127_0 := Aside0.mk hl127_0
                                                              clear hi127_0 hl127_0
                                                              replace p127 := eq_true p127
                                                              replace q127 := eq_true q127
                                                              go_wp2
                                                              (try simp only [← hl4_5, ← hl4_6])
                                                              go_roundg k6
                                                              case measure => have := HK1.out; have := HK2.out; have := HJ9.out; have := HK4.out; have := HK5.out; have := HK6.out; omega
                                                              case rel => exact ⟨(x4_6), (wrap64 (x12_5 + 1)), (by first | rfl | (simp; done) | (simp [*]; done)), H', ⟨by have := HK1.out; have := HK2.out; have := HJ9.out; have := HK4.out; have := HK5.out; have := HK6.out; omega⟩, ⟨by (try simp only [hl4_4]); (try simp only [hl4_5]); (try simp only [hl4_6]); (with_reducible repeat (first | apply Kd.S_alloc | apply Kd.S_drewN | apply Kd.S_drew)); exact HO_4.out⟩, ⟨by (try simp only [hl4_4]); (try simp only [hl4_5]); (try simp only [hl4_6]); (with_reducible repeat (first | apply Kd.R_alloc | apply Kd.R_drewN | apply Kd.R_drew)); exact HO_6.out⟩, ⟨by repeat (first | (with_reducible first | exact HB.out | apply below_alloc | apply pw_below_drewN | apply below_drew1) | exact HB.out)⟩⟩
                                                          · rw [if_neg c43] at H
                                                            exact absurd H (by simp)
                                                        · rw [if_neg c42] at H
                                                          exact absurd H (by simp)
                                                · rw [if_neg c40] at H
                                                  exact absurd H (by simp)
                                              · rw [if_neg c39] at H
                                                exact absurd H (by simp)
                                            · rw [if_neg c38] at H
                                              exact absurd H (by simp)
                                          · rw [if_neg c37] at H
                                            have c37b0 : decide (x12_5 < (x4_5.length : Int)) = false := decide_eq_false c37
                                            (try (have c37b0x := c37b0; rw [hl4_4] at c37b0x))
                                            (try (have c37b0x := c37b0; rw [hl4_5] at c37b0x))
                                            clear c37
                                            by_cases c54 : x6_2.length < 17592186044416
                                            · rw [if_pos c54] at H
                                              have LMc54 := Aside0.mk c54
                                              clear c54
                                              obtain ⟨y122, hy122⟩ : ∃ y_ : List Int, y_ = (x6_2 ++ [x7_2]) := ⟨_, rfl⟩
                                              replace H : (refred.l1 k5 l0 x4_5 y122 (wrap64 (x7_2 + 1))) = some (r1, r2) := by first | (rw [hy122]; with_reducible exact H) | (have H2_ := (Option.bind_some _ _).symm.trans H; rw [hy122]; with_reducible exact H2_) | (have H2_ := (Option.bind_some _ _).symm.trans H; with_reducible exact H2_) | with_reducible exact H | (rw [hy122]; exact H) | exact H
                                              have Ny122 := Aside0.mk hy122
                                              clear hy122
                                              have H' := Aside0.mk H
                                              clear H
                                              go_wp2_with (first | ((with_reducible refine gate_builtin (b := .append) (xs := #[.tmp 161, .tmp 163]) rfl ?_); (try (refine gate_guard (by rfl) ?_; dsimp only)); at_builtin; refine Kd.R_append (Kd.int .i64) (w0 := w) w.heap.size rfl (.tmp 161) (.tmp 163) 29 3 (.int .i64 0) 8 rfl Try.underlying29 info3 rfl (by decide) (by omega) (.slice Ao11 x6_2.length co11) x6_2 x7_2 [.int .i64 x7_2] (fun _ => True) (fun _ => False) rfl rfl ?aP (fun _ hk => hk.elim) ?aF ?aO ?aB ?aS ?aL ?_; (case aP => exact rfl); (case aB => exact (by repeat (first | (with_reducible first | exact HB.out | apply below_alloc | apply pw_below_drewN | apply below_drew1) | exact HB.out))); (case aF => exact (fun _ _ => trivial)); (case aO => exact (by (with_reducible repeat (first | apply Kd.R_alloc | apply Kd.R_drewN | apply Kd.R_drew)); exact HO_6.out)); (case aS => exact (below_size (by repeat (first | (with_reducible first | exact HB.out | apply below_alloc | apply pw_below_drewN | apply below_drew1) | exact HB.out)))); (case aL => have := LMc54.out; omega); intro v123 w55 ho hb hg hat; rw [← Ny122.out] at ho; have n0_ := Aside0.mk (Kd.S_over' (by (with_reducible repeat (first | apply Kd.S_alloc | apply Kd.S_drewN | apply Kd.S_drew)); exact HO_4.out) (Kd.R_typed (by (with_reducible repeat (first | apply Kd.R_alloc | apply Kd.R_drewN | apply Kd.R_drew)); exact HO_6.out)) (by decide) hg); have n1_ := Aside0.mk (hb); have n2_ := Aside0.mk (ho); clear HO_4; clear HB; clear HO_6; have HO_4 := n0_; have HB := n1_; have HO124 := n2_; clear n0_ n1_ n2_; clear ho hb hg hat))
                                              (try simp only [← hl4_4, ← hl4_5])
                                              rw [← HVS.out]
                                              go_roundg k5
                                              case measure => have := HK1.out; have := HK2.out; have := HJ9.out; have := HK4.out; have := HK5.out; omega
                                              case rel => exact ⟨(x4_5), (y122), (wrap64 (x7_2 + 1)), (by first | rfl | (simp; done) | (simp [*]; done)), H', ⟨by have := HK1.out; have := HK2.out; have := HJ9.out; have := HK4.out; have := HK5.out; omega⟩, ⟨by rw [HVS.out]; (try simp only [hl4_4]); (try simp only [hl4_5]); (with_reducible repeat (first | apply Kd.S_alloc | apply Kd.S_drewN | apply Kd.S_drew)); exact HO_4.out⟩, ⟨by (try simp only [hl4_4]); (try simp only [hl4_5]); (with_reducible repeat (first | apply Kd.R_alloc | apply Kd.R_drewN | apply Kd.R_drew)); exact HO124.out⟩, ⟨by repeat (first | (with_reducible first | exact HB.out | apply below_alloc | apply pw_below_drewN | apply below_drew1) | exact HB.out)⟩⟩
                                            · rw [if_neg c54] at H
                                              exact absurd H (by simp)
                                  · rw [if_neg c29] at H
                                    exact absurd H (by simp)
                                · rw [if_neg c28] at H
                                  exact absurd H (by simp)
                          · rw [if_neg c25] at H
                            exact absurd H (by simp)
                        · rw [if_neg c24] at H
                          exact absurd H (by simp)
                      · rw [if_neg c23] at H
                        exact absurd H (by simp)
                    · rw [if_neg c22] at H
                      exact absurd H (by simp)
            · rw [if_neg c9] at H
              have c9b0 : decide (x7_2 < t108) = false := decide_eq_false c9
              clear c9
              simp only [Option.some.injEq, Prod.mk.injEq] at H
              obtain ⟨rfl, rfl⟩ := H
              go_wp2_with (first | ((with_reducible refine gate_callee (f := 21) rfl ?_); refine goesL_ (some 38) rfl rfl Try.func21 (by kernel_rfl) rfl #[.slice A0 l0.length c0] rfl (by (try simp only [List.map_toArray, List.map_cons, List.map_nil]); first | done | rfl | (simp only [List.length_drop, List.length_take]; rfl)) ?_; (with_reducible refine (kinkeepref04_Cols.calls _ _ l0 t108 _ ?side1 ?side2 A8.out).mono ?_); (case side1 => repeat (first | exact (Kd.C_below HR0.out HB.out) | (with_reducible refine Kd.C_alloc ?_ _) | (with_reducible refine Kd.C_drewN ?_ _) | (with_reducible refine Kd.C_drew ?_))); (case side2 => exact HC0.out); rintro e w' ⟨rfl, ⟨nd, rfl⟩⟩; refine ⟨_, rfl, ?_⟩))
              go_ret2
              exact ⟨_, _, by first | rfl | (simp [errW_none, errW_some] <;> rfl) | (simp [*, errW_none, errW_some] <;> rfl), by (with_reducible repeat (first | apply Kd.S_alloc | apply Kd.S_drewN | apply Kd.S_drew)); exact HO_4.out, by (with_reducible repeat (first | apply Kd.R_alloc | apply Kd.R_drewN | apply Kd.R_drew)); exact HO_6.out, by repeat (first | (with_reducible first | exact HB.out | apply below_alloc | apply pw_below_drewN | apply below_drew1) | exact HB.out)⟩
end Go.Proofs.Ytpkghpljgjlmjaa.K
/- Sums and determinants over the field of 256 elements, matrices as functions. No program in sight. -/
namespace Kin
set_option linter.unusedVariables false

/-- The sum of f 0 to f (n-1). -/
def bsum : Nat → (Nat → B) → B
  | 0, _ => 0
  | n + 1, f => bsum n f ^^^ f n
theorem bsum_congr {n : Nat} {f g : Nat → B} (h : ∀ j, j < n → f j = g j) : bsum n f = bsum n g := by
  induction n with
  | zero => rfl
  | succ n ih => simp only [bsum]; rw [ih (fun j hj => h j (by omega)), h n (by omega)]
theorem bsum_add (n : Nat) (f g : Nat → B) : bsum n (fun j => f j ^^^ g j) = bsum n f ^^^ bsum n g := by
  induction n with
  | zero => exact (bx_self 0).symm
  | succ n ih => simp only [bsum]; rw [ih, bx_swap4]
theorem bsum_mul (n : Nat) (c : B) (f : Nat → B) : bsum n (fun j => gmul c (f j)) = gmul c (bsum n f) := by
  induction n with
  | zero => simp only [bsum]; rw [gmul_zero]
  | succ n ih => simp only [bsum]; rw [ih, gmul_add_right]
theorem bsum_mul_right (n : Nat) (c : B) (f : Nat → B) : bsum n (fun j => gmul (f j) c) = gmul (bsum n f) c := by
  rw [gmul_comm, ← bsum_mul]
  exact bsum_congr fun j _ => gmul_comm _ _
theorem bsum_zero {n : Nat} {f : Nat → B} (h : ∀ j, j < n → f j = 0) : bsum n f = 0 := by
  induction n with
  | zero => rfl
  | succ n ih => simp only [bsum]; rw [ih (fun j hj => h j (by omega)), h n (by omega), bx_self]
theorem bsum_one {n : Nat} {f : Nat → B} {p : Nat} (hp : p < n) (h : ∀ j, j < n → j ≠ p → f j = 0) : bsum n f = f p := by
  induction n with
  | zero => omega
  | succ n ih =>
    simp only [bsum]
    by_cases e : p = n
    · subst e
      rw [bsum_zero (fun j hj => h j (by omega) (by omega)), zero_bx]
    · rw [ih (by omega) (fun j hj hne => h j (by omega) hne), h n (by omega) (fun x => e x.symm), bx_zero]
/-- A symmetric double sum without a diagonal is 0. -/
theorem bsum_sym (n : Nat) (h : Nat → Nat → B) (hs : ∀ i j, i < n → j < n → h i j = h j i) (hd : ∀ i, i < n → h i i = 0) : bsum n (fun i => bsum n (fun j => h i j)) = 0 := by
  induction n with
  | zero => rfl
  | succ n ih =>
    rw [show bsum (n + 1) (fun i => bsum (n + 1) (fun j => h i j)) = bsum n (fun i => bsum n (fun j => h i j) ^^^ h i n) ^^^ (bsum n (fun j => h n j) ^^^ h n n) from rfl, bsum_add, ih (fun i j hi hj => hs i j (by omega) (by omega)) (fun i hi => hd i (by omega)), zero_bx, hd n (by omega), bx_zero, bsum_congr (g := fun j => h n j) (fun j hj => hs j n (by omega) (by omega)), bx_self]
/-- j, or the next number from c on. -/
def sk (c j : Nat) : Nat := if j < c then j else j + 1
theorem bsum_skip (n c : Nat) (hc : c ≤ n) (f : Nat → B) : bsum n (fun d => f (sk c d)) = bsum (n + 1) (fun e => if e = c then 0 else f e) := by
  induction n with
  | zero =>
    obtain rfl : c = 0 := by omega
    exact (bx_self 0).symm
  | succ n ih =>
    rw [show bsum (n + 1) (fun d => f (sk c d)) = bsum n (fun d => f (sk c d)) ^^^ f (sk c n) from rfl]
    by_cases e : c = n + 1
    · subst e
      rw [show bsum (n + 1 + 1) (fun e => if e = n + 1 then (0 : B) else f e) = bsum n (fun e => if e = n + 1 then (0 : B) else f e) ^^^ (if n = n + 1 then (0 : B) else f n) ^^^ (if n + 1 = n + 1 then (0 : B) else f (n + 1)) from rfl, if_neg (by omega), if_pos rfl, bx_zero, show sk (n + 1) n = n from if_pos (by omega)]
      congr 1
      exact bsum_congr fun j hj => by rw [if_neg (by omega), show sk (n + 1) j = j from if_pos (by omega)]
    · rw [ih (by omega), show bsum (n + 1 + 1) (fun e => if e = c then (0 : B) else f e) = bsum (n + 1) (fun e => if e = c then (0 : B) else f e) ^^^ (if n + 1 = c then (0 : B) else f (n + 1)) from rfl, if_neg (fun x => e x.symm), show sk c n = n + 1 from if_neg (by omega)]
/-- A matrix as a function. -/
abbrev Mx := Nat → Nat → B
def minor (A : Mx) (c : Nat) : Mx := fun i j => A (i + 1) (sk c j)
/-- The determinant by expansion. -/
def det : Nat → Mx → B
  | 0, _ => 1
  | n + 1, A => bsum (n + 1) (fun c => gmul (A 0 c) (det n (minor A c)))
def upd (A : Mx) (r : Nat) (v : Nat → B) : Mx := fun i j => if i = r then v j else A i j
theorem sk_lt {c j n : Nat} (h : j < n) : sk c j < n + 1 := by unfold sk; split <;> omega
theorem det_congr {n : Nat} : ∀ {A C : Mx}, (∀ i j, i < n → j < n → A i j = C i j) → det n A = det n C := by
  induction n with
  | zero => intro A C _; rfl
  | succ n ih =>
    intro A C h
    simp only [det]
    refine bsum_congr fun c hc => ?_
    rw [h 0 c (by omega) hc, ih (A := minor A c) (C := minor C c) (fun i j hi hj => h (i + 1) (sk c j) (by omega) (sk_lt hj))]
theorem minor_upd_zero (A : Mx) (v : Nat → B) (c : Nat) : minor (upd A 0 v) c = minor A c := by
  funext i j
  simp [minor, upd]
theorem minor_upd_succ (A : Mx) (r : Nat) (v : Nat → B) (c : Nat) : minor (upd A (r + 1) v) c = upd (minor A c) r (fun j => v (sk c j)) := by
  funext i j
  simp [minor, upd]
theorem upd_self (A : Mx) (r : Nat) : upd A r (A r) = A := by
  funext i j
  unfold upd
  split
  · rename_i h; rw [h]
  · rfl
theorem upd_upd (A : Mx) (r : Nat) (u v : Nat → B) : upd (upd A r u) r v = upd A r v := by
  funext i j
  unfold upd
  split <;> rfl
theorem upd_comm (A : Mx) {r s : Nat} (h : r ≠ s) (u v : Nat → B) : upd (upd A r u) s v = upd (upd A s v) r u := by
  funext i j
  unfold upd
  by_cases h1 : i = s
  · rw [if_pos h1, if_neg (by omega), if_pos h1]
  · rw [if_neg h1]
    by_cases h2 : i = r
    · rw [if_pos h2, if_pos h2]
    · rw [if_neg h2, if_neg h2, if_neg h1]
theorem upd_at (A : Mx) (r : Nat) (v : Nat → B) : upd A r v r = v := by
  funext j
  simp [upd]
theorem upd_ne (A : Mx) {r i : Nat} (v : Nat → B) (h : i ≠ r) : upd A r v i = A i := by
  funext j
  simp [upd, h]
/-- The determinant is linear in each row. -/
theorem det_lin {n : Nat} : ∀ (A : Mx) (r : Nat) (s t : B) (u v : Nat → B), r < n → det n (upd A r (fun j => gmul s (u j) ^^^ gmul t (v j))) = gmul s (det n (upd A r u)) ^^^ gmul t (det n (upd A r v)) := by
  induction n with
  | zero => intro A r s t u v h; omega
  | succ n ih =>
    intro A r s t u v hr
    simp only [det]
    rw [← bsum_mul, ← bsum_mul, ← bsum_add]
    refine bsum_congr fun c hc => ?_
    cases r with
    | zero =>
      rw [minor_upd_zero, minor_upd_zero, minor_upd_zero, upd_at, upd_at, upd_at, gmul_add_left, gmul_assoc, gmul_assoc]
    | succ r =>
      rw [minor_upd_succ, minor_upd_succ, minor_upd_succ, upd_ne _ _ (by omega), upd_ne _ _ (by omega), upd_ne _ _ (by omega), ih _ _ _ _ _ _ (by omega), gmul_add_right, gmul_left_comm, gmul_left_comm (A 0 c) t]
theorem det_add {n : Nat} (A : Mx) (r : Nat) (u v : Nat → B) (h : r < n) : det n (upd A r (fun j => u j ^^^ v j)) = det n (upd A r u) ^^^ det n (upd A r v) := by
  have := det_lin A r 1 1 u v h
  simp only [one_gmul] at this
  exact this
theorem det_scale {n : Nat} (A : Mx) (r : Nat) (s : B) (u : Nat → B) (h : r < n) : det n (upd A r (fun j => gmul s (u j))) = gmul s (det n (upd A r u)) := by
  have := det_lin A r s 0 u u h
  simp only [zero_gmul, bx_zero] at this
  exact this
/-- Two columns left out. -/
def sk2 (lo hi j : Nat) : Nat := if j < lo then j else if j + 1 < hi then j + 1 else j + 2
theorem sk_sk (c d j : Nat) : sk c (sk d j) = sk2 (min c (sk c d)) (max c (sk c d)) j := by
  unfold sk sk2
  by_cases h : d < c
  · rw [if_pos h, show min c d = d by omega, show max c d = c by omega]
    by_cases h1 : j < d
    · rw [if_pos h1, if_pos h1, if_pos (by omega)]
    · rw [if_neg h1, if_neg h1]
  · rw [if_neg h, show min c (d + 1) = c by omega, show max c (d + 1) = d + 1 by omega]
    by_cases h1 : j < d
    · rw [if_pos h1]
      by_cases h2 : j < c
      · rw [if_pos h2, if_pos h2]
      · rw [if_neg h2, if_neg h2, if_pos (by omega)]
    · rw [if_neg h1, if_neg (by omega), if_neg (by omega), if_neg (by omega)]
theorem det_eq01 {n : Nat} (A : Mx) (h : ∀ j, j < n + 2 → A 0 j = A 1 j) : det (n + 2) A = 0 := by
  have e : det (n + 2) A = bsum (n + 2) (fun c => bsum (n + 2) (fun e => if e = c then 0 else gmul (A 0 c) (gmul (A 0 e) (det n (fun i j => A (i + 2) (sk2 (min c e) (max c e) j)))))) := by
    rw [show det (n + 2) A = bsum (n + 2) (fun c => gmul (A 0 c) (det (n + 1) (minor A c))) from rfl]
    refine bsum_congr fun c hc => ?_
    rw [← bsum_skip (n + 1) c (by omega) (fun e => gmul (A 0 c) (gmul (A 0 e) (det n (fun i j => A (i + 2) (sk2 (min c e) (max c e) j))))), bsum_mul (n + 1) (A 0 c)]
    congr 1
    rw [show det (n + 1) (minor A c) = bsum (n + 1) (fun d => gmul (minor A c 0 d) (det n (minor (minor A c) d))) from rfl]
    refine bsum_congr fun d hd => ?_
    congr 1
    · show A (0 + 1) (sk c d) = A 0 (sk c d)
      exact (h _ (sk_lt hd)).symm
    · refine det_congr fun i j hi hj => ?_
      show A (i + 1 + 1) (sk c (sk d j)) = A (i + 2) _
      rw [sk_sk]
  rw [e]
  refine bsum_sym (n + 2) (fun c e => if e = c then 0 else gmul (A 0 c) (gmul (A 0 e) (det n (fun i j => A (i + 2) (sk2 (min c e) (max c e) j))))) (fun i j hi hj => ?_) (fun i hi => if_pos rfl)
  by_cases hij : i = j
  · subst hij; rfl
  · show (if j = i then _ else _) = (if i = j then _ else _)
    rw [if_neg (fun x => hij x.symm), if_neg hij, gmul_left_comm, Nat.min_comm, Nat.max_comm]
theorem det_eq_adj {n : Nat} : ∀ (r : Nat) (A : Mx), r + 1 < n → (∀ j, j < n → A r j = A (r + 1) j) → det n A = 0 := by
  induction n with
  | zero => intro r A h; omega
  | succ n ih =>
    intro r A hr h
    cases r with
    | zero =>
      obtain ⟨n, rfl⟩ : ∃ m, n = m + 1 := ⟨n - 1, by omega⟩
      exact det_eq01 A h
    | succ r =>
      simp only [det]
      refine bsum_zero fun c hc => ?_
      rw [ih r (minor A c) (by omega) (fun j hj => h (sk c j) (sk_lt hj)), gmul_zero]
def swp (A : Mx) (a b : Nat) : Mx := upd (upd A a (A b)) b (A a)
theorem swp_row (A : Mx) (a b i : Nat) : swp A a b i = A (if i = b then a else if i = a then b else i) := by
  funext j
  unfold swp upd
  by_cases h : i = b
  · rw [if_pos h, if_pos h]
  · rw [if_neg h, if_neg h]
    by_cases h2 : i = a
    · rw [if_pos h2, if_pos h2]
    · rw [if_neg h2, if_neg h2]
theorem det_swap_adj {n : Nat} (A : Mx) (r : Nat) (h : r + 1 < n) : det n (swp A r (r + 1)) = det n A := by
  have key : ∀ u v : Nat → B, det n (upd (upd A r u) (r + 1) v) = det n (upd (upd A r v) (r + 1) u) := by
    intro u v
    have z : ∀ w : Nat → B, det n (upd (upd A r w) (r + 1) w) = 0 := fun w => det_eq_adj r _ h (fun j hj => by rw [upd_ne _ _ (by omega), upd_at, upd_at])
    have h0 := z (fun j => u j ^^^ v j)
    rw [det_add _ _ _ _ h, upd_comm A (by omega), det_add _ _ _ _ (by omega), upd_comm A (by omega) (fun j => u j ^^^ v j) v, det_add _ _ _ _ (by omega), ← upd_comm A (by omega) u u, ← upd_comm A (by omega) v u, ← upd_comm A (by omega) u v, ← upd_comm A (by omega) v v, z u, z v, zero_bx, bx_zero] at h0
    have e1 : upd (upd A r u) (r + 1) v = upd (upd A (r + 1) v) r u := upd_comm A (by omega) u v
    have e2 : upd (upd A r v) (r + 1) u = upd (upd A (r + 1) u) r v := upd_comm A (by omega) v u
    rw [e1, e2]
    exact (bx_eq_zero.1 h0).symm
  unfold swp
  rw [key (A (r + 1)) (A r), upd_self]
  congr 1
  funext i j
  unfold upd
  split
  · rename_i h; rw [h]
  · rfl
theorem det_swap {n : Nat} (m : Nat) : ∀ (A : Mx) (a : Nat), a + m + 1 < n → det n (swp A a (a + m + 1)) = det n A := by
  induction m with
  | zero => intro A a h; exact det_swap_adj A a h
  | succ m ih =>
    intro A a h
    have e : swp A a (a + (m + 1) + 1) = swp (swp (swp A (a + m + 1) (a + m + 2)) a (a + m + 1)) (a + m + 1) (a + m + 2) := by
      funext i
      rw [swp_row, swp_row, swp_row, swp_row]
      congr 1
      repeat' split
      all_goals omega
    rw [e, det_swap_adj _ _ (by omega), ih _ _ (by omega), det_swap_adj _ _ (by omega)]
theorem swp_comm (A : Mx) (a b : Nat) : swp A a b = swp A b a := by
  unfold swp
  by_cases h : a = b
  · subst h; rfl
  · rw [upd_comm A h]
theorem swp_same (A : Mx) (a : Nat) : swp A a a = A := by
  unfold swp
  rw [upd_upd, upd_self]
theorem det_swp {n : Nat} (A : Mx) (a b : Nat) (ha : a < n) (hb : b < n) : det n (swp A a b) = det n A := by
  by_cases h : a = b
  · subst h; rw [swp_same]
  · by_cases h1 : a < b
    · have := det_swap (b - a - 1) A a (n := n) (by omega)
      rwa [show a + (b - a - 1) + 1 = b by omega] at this
    · have := det_swap (a - b - 1) A b (n := n) (by omega)
      rw [show b + (a - b - 1) + 1 = a by omega] at this
      rw [swp_comm]
      exact this
theorem det_eq_rows {n : Nat} (A : Mx) (a b : Nat) (hab : a ≠ b) (ha : a < n) (hb : b < n) (h : ∀ j, j < n → A a j = A b j) : det n A = 0 := by
  have main : ∀ a b, a < b → b < n → (∀ j, j < n → A a j = A b j) → det n A = 0 := by
    intro a b hlt hb h
    rw [← det_swp A (a + 1) b (by omega) hb]
    refine det_eq_adj a _ (by omega) (fun j hj => ?_)
    simp only [swp, upd]
    rw [if_neg (by omega), if_neg (by omega)]
    by_cases e : a + 1 = b
    · rw [if_pos e, h j hj, e]
    · rw [if_neg e, if_pos trivial, h j hj]
  by_cases h1 : a < b
  · exact main a b h1 hb h
  · exact main b a (by omega) ha (fun j hj => (h j hj).symm)
theorem det_addrow {n : Nat} (A : Mx) (i k : Nat) (c : B) (hi : i < n) (hk : k < n) (hik : i ≠ k) : det n (upd A i (fun j => A i j ^^^ gmul c (A k j))) = det n A := by
  have := det_lin A i 1 c (A i) (A k) hi
  simp only [one_gmul] at this
  rw [this, upd_self, det_eq_rows (upd A i (A k)) i k hik hi hk (fun j _ => by rw [upd_at, upd_ne _ _ (fun e => hik e.symm)]), gmul_zero, bx_zero]
end Kin
/- Row operations over the field of 256 elements, matrices as functions. No program in sight. -/
namespace Kin
set_option linter.unusedVariables false

/-- The product of two matrices, n elements in the middle. -/
def mulF (n : Nat) (A C : Mx) : Mx := fun i j => bsum n (fun t => gmul (A i t) (C t j))
/-- Rows k and q exchanged, row k times s, then for every other row i: plus g i times row k. -/
def rowop (k q : Nat) (s : B) (g : Nat → B) (A : Mx) : Mx := fun i j =>
  if i = k then gmul (swp A k q k j) s else swp A k q i j ^^^ gmul (gmul (swp A k q k j) s) (g i)
theorem rowop_eq (k q : Nat) (s : B) (g : Nat → B) (A : Mx) (j : Nat) : rowop k q s g A k j = gmul (swp A k q k j) s := if_pos rfl
theorem rowop_ne {k q : Nat} (s : B) (g : Nat → B) (A : Mx) {i : Nat} (h : i ≠ k) (j : Nat) : rowop k q s g A i j = swp A k q i j ^^^ gmul (gmul (swp A k q k j) s) (g i) := if_neg h
theorem swp_le {a b i len : Nat} (ha : a < len) (hb : b < len) (hi : i < len) : (if i = b then a else if i = a then b else i) < len := by
  split
  · exact ha
  · split
    · exact hb
    · exact hi
theorem swp_mul (n : Nat) (A C : Mx) (a b : Nat) : swp (mulF n A C) a b = mulF n (swp A a b) C := by
  funext i j
  rw [swp_row]
  unfold mulF
  rw [swp_row]
theorem rowop_mul (n k q : Nat) (s : B) (g : Nat → B) (A C : Mx) : rowop k q s g (mulF n A C) = mulF n (rowop k q s g A) C := by
  funext i j
  by_cases h : i = k
  · subst h
    rw [rowop_eq, swp_mul]
    unfold mulF
    rw [← bsum_mul_right]
    refine bsum_congr fun t _ => ?_
    rw [rowop_eq, gmul_assoc, gmul_assoc, gmul_comm s]
  · rw [rowop_ne _ _ _ h, swp_mul]
    unfold mulF
    rw [← bsum_mul_right, ← bsum_mul_right, ← bsum_add]
    refine bsum_congr fun t _ => ?_
    rw [rowop_ne _ _ _ h, gmul_add_left]
    congr 1
    simp only [gmul_assoc, gmul_comm, gmul_left_comm]
theorem rowop_add (k q : Nat) (s : B) (g : Nat → B) (A C : Mx) : rowop k q s g (fun i j => A i j ^^^ C i j) = fun i j => rowop k q s g A i j ^^^ rowop k q s g C i j := by
  funext i j
  unfold rowop
  by_cases h : i = k
  · rw [if_pos h, if_pos h, if_pos h]
    simp only [swp_row]
    rw [gmul_add_left]
  · rw [if_neg h, if_neg h, if_neg h]
    simp only [swp_row]
    rw [gmul_add_left, gmul_add_left, bx_swap4]
theorem rowop_col {len k q : Nat} (hk : k < len) (hq : q < len) (s : B) (g : Nat → B) {A C : Mx} {j j' : Nat} (h : ∀ i, i < len → A i j = C i j') : ∀ i, i < len → rowop k q s g A i j = rowop k q s g C i j' := by
  have hs : ∀ i, i < len → swp A k q i j = swp C k q i j' := by
    intro i hi
    rw [swp_row, swp_row]
    exact h _ (swp_le hk hq hi)
  intro i hi
  by_cases e : i = k
  · subst e
    rw [rowop_eq, rowop_eq, hs i hi]
  · rw [rowop_ne _ _ _ e, rowop_ne _ _ _ e, hs i hi, hs k hk]
theorem rowop_zero {len k q : Nat} (hk : k < len) (hq : q < len) {s : B} (hs : s ≠ 0) (g : Nat → B) (A : Mx) (j : Nat) (h : ∀ i, i < len → rowop k q s g A i j = 0) : ∀ i, i < len → A i j = 0 := by
  have h0 : swp A k q k j = 0 := by
    have := h k hk
    unfold rowop at this
    rw [if_pos rfl] at this
    rcases gmul_eq_zero.1 this with e | e
    · exact e
    · exact absurd e hs
  have h1 : ∀ i, i < len → swp A k q i j = 0 := by
    intro i hi
    by_cases e : i = k
    · rw [e]; exact h0
    · have := h i hi
      unfold rowop at this
      rw [if_neg e, h0, zero_gmul, zero_gmul, bx_zero] at this
      exact this
  intro i hi
  have := h1 (if i = q then k else if i = k then q else i) (swp_le hk hq hi)
  rw [swp_row] at this
  have e : (if (if i = q then k else if i = k then q else i) = q then k else if (if i = q then k else if i = k then q else i) = k then q else (if i = q then k else if i = k then q else i)) = i := by
    by_cases a : i = q
    · subst a
      rw [if_pos rfl]
      by_cases b : k = i
      · rw [if_pos b, b]
      · rw [if_neg b, if_pos rfl]
    · rw [if_neg a]
      by_cases b : i = k
      · subst b
        rw [if_pos rfl, if_pos rfl]
      · rw [if_neg b, if_neg a, if_neg b]
  rwa [e] at this
/-- The other rows cleared up to row m. -/
def clr (k : Nat) (g : Nat → B) (m : Nat) (A : Mx) : Mx := fun i j => if i ≠ k ∧ i < m then A i j ^^^ gmul (A k j) (g i) else A i j
theorem det_clr {n k : Nat} (hk : k < n) (g : Nat → B) (A : Mx) (m : Nat) (hm : m ≤ n) : det n (clr k g m A) = det n A := by
  induction m with
  | zero =>
    congr 1
    funext i j
    unfold clr
    rw [if_neg (by omega)]
  | succ m ih =>
    rw [← ih (by omega)]
    by_cases e : m = k
    · congr 1
      funext i j
      unfold clr
      by_cases h : i ≠ k ∧ i < m
      · rw [if_pos h, if_pos ⟨h.1, by omega⟩]
      · rw [if_neg h, if_neg (by omega)]
    · rw [← det_addrow (clr k g m A) m k (g m) (by omega) hk e]
      congr 1
      funext i j
      by_cases h : i = m
      · subst h
        rw [upd_at]
        unfold clr
        rw [if_pos ⟨e, by omega⟩, if_neg (by omega), if_neg (by omega), gmul_comm]
      · rw [upd_ne _ _ h]
        unfold clr
        by_cases h2 : i ≠ k ∧ i < m
        · rw [if_pos h2, if_pos ⟨h2.1, by omega⟩]
        · rw [if_neg h2, if_neg (by omega)]
theorem det_rowop {n k q : Nat} (hk : k < n) (hq : q < n) (s : B) (g : Nat → B) (A : Mx) : det n (rowop k q s g A) = gmul s (det n A) := by
  rw [← det_swp A k q hk hq]
  have h2 := det_scale (swp A k q) k s (swp A k q k) hk
  rw [upd_self] at h2
  rw [← h2, ← det_clr hk g _ n (Nat.le_refl _)]
  refine det_congr fun i j hi hj => ?_
  unfold clr
  by_cases h : i = k
  · subst h
    rw [rowop_eq, if_neg (by omega), upd_at, gmul_comm]
  · rw [rowop_ne _ _ _ h, if_pos ⟨h, hi⟩, rowop_eq, upd_ne _ _ h, bx_cancel_right]
/-- F is a series of row operations on the first len rows; d is what they took out of the determinant. -/
structure Ops (len : Nat) (d : B) (F : Mx → Mx) : Prop where
  mul : ∀ n A C, F (mulF n A C) = mulF n (F A) C
  add : ∀ A C, F (fun i j => A i j ^^^ C i j) = fun i j => F A i j ^^^ F C i j
  col : ∀ {A C : Mx} {j j' : Nat}, (∀ i, i < len → A i j = C i j') → ∀ i, i < len → F A i j = F C i j'
  zero : ∀ A j, (∀ i, i < len → F A i j = 0) → ∀ i, i < len → A i j = 0
  det : ∀ A, gmul d (det len (F A)) = det len A
  ne : d ≠ 0
theorem Ops.none (len : Nat) : Ops len 1 (fun A => A) :=
  ⟨fun _ _ _ => rfl, fun _ _ => rfl, fun h => h, fun _ _ h => h, fun _ => one_gmul _, by decide⟩
theorem Ops.one {len k q : Nat} (hk : k < len) (hq : q < len) {p : B} (hp : p ≠ 0) (g : Nat → B) : Ops len p (rowop k q (ginv p) g) :=
  ⟨fun n A C => rowop_mul n k q _ g A C, fun A C => rowop_add k q _ g A C, fun h => rowop_col hk hq _ g h, fun A j h => rowop_zero hk hq (ginv_ne_zero hp) g A j h, fun A => by rw [det_rowop hk hq, ← gmul_assoc, gmul_ginv p hp, one_gmul], hp⟩
theorem Ops.comp {len : Nat} {d e : B} {F G : Mx → Mx} (h : Ops len d F) (h' : Ops len e G) : Ops len (gmul d e) (fun A => G (F A)) :=
  ⟨fun n A C => by rw [h.mul, h'.mul], fun A C => by rw [h.add, h'.add], fun x => h'.col (h.col x), fun A j x => h.zero A j (h'.zero (F A) j x), fun A => by rw [gmul_assoc, h'.det, h.det], gmul_ne_zero h.ne h'.ne⟩
end Kin
/- The elimination, plain: its row operations, and the form that it gives. -/
namespace Go.Proofs.Ytpkghpljgjlmjaa.K
open Kin
set_option linter.unusedVariables false
/-- The elements of a list of rows, 0 outside. -/
def fn (R : List (List B)) : Mx := fun i j => (R.getD i []).getD j 0
theorem fn_out {R : List (List B)} {i : Nat} (h : R.length ≤ i) (j : Nat) : fn R i j = 0 := by
  have e : R.getD i [] = [] := by rw [List.getD_eq_getElem?_getD, List.getElem?_eq_none h]; rfl
  unfold fn
  rw [e]
  rfl
theorem fn_set (R : List (List B)) (a : Nat) (r : List B) (ha : a < R.length) : fn (R.set a r) = upd (fn R) a (fun j => r.getD j 0) := by
  funext i j
  by_cases h : i = a
  · subst h
    rw [upd_at]
    have e : (R.set i r).getD i [] = r := by rw [List.getD_eq_getElem?_getD, List.getElem?_set_self ha]; rfl
    unfold fn
    rw [e]
  · rw [upd_ne _ _ h]
    have e : (R.set a r).getD i [] = R.getD i [] := by rw [List.getD_eq_getElem?_getD, List.getElem?_set_ne (fun e => h e.symm), ← List.getD_eq_getElem?_getD]
    unfold fn
    rw [e]
theorem fn_swap (R : List (List B)) {a b : Nat} (ha : a < R.length) (hb : b < R.length) : fn (swapRows R a b) = swp (fn R) a b := by
  unfold swapRows
  rw [fn_set _ _ _ (by rw [List.length_set]; exact hb), fn_set _ _ _ ha]
  rfl
theorem getD_map_zero (f : B → B) (h0 : f 0 = 0) (l : List B) (j : Nat) : (l.map f).getD j 0 = f (l.getD j 0) := by
  rw [List.getD_eq_getElem?_getD, List.getD_eq_getElem?_getD, List.getElem?_map]
  cases l[j]? with
  | none => exact h0.symm
  | some x => rfl
theorem fn_scale (R : List (List B)) {r : Nat} (c : Nat) (hr : r < R.length) : fn (scaleRow R r c) = upd (fn R) r (fun j => gmul (fn R r j) (ginv (fn R r c))) := by
  unfold scaleRow
  rw [fn_set _ _ _ hr]
  congr 1
  funext j
  rw [getD_map_zero (fun x => gmul x _) (zero_gmul _)]
  rfl
theorem getD_addS {r pr : List B} (h : r.length = pr.length) (c : B) (j : Nat) : (addS r pr c).getD j 0 = r.getD j 0 ^^^ gmul (pr.getD j 0) c := by
  unfold addS
  rw [List.getD_eq_getElem?_getD, List.getElem?_zipWith, List.getD_eq_getElem?_getD, List.getD_eq_getElem?_getD]
  by_cases hj : j < r.length
  · rw [List.getElem?_eq_getElem hj, List.getElem?_eq_getElem (by omega)]
    rfl
  · rw [List.getElem?_eq_none (by omega), List.getElem?_eq_none (by omega)]
    simp [zero_gmul]
theorem fn_clear {R : List (List B)} {m : Nat} (hm : ∀ r ∈ R, r.length = m) {row : Nat} (col : Nat) (hr : row < R.length) : fn (clearRows R row col) = fun i j => if i = row then fn R row j else fn R i j ^^^ gmul (fn R row j) (fn R i col) := by
  funext i j
  by_cases hi : i < R.length
  · have e : (clearRows R row col).getD i [] = if i ≠ row then clearRow (R.getD row []) col (R.getD i []) else R.getD i [] := by
      unfold clearRows
      rw [List.getD_eq_getElem?_getD, List.getElem?_mapIdx, List.getElem?_eq_getElem hi, List.getD_eq_getElem?_getD, List.getD_eq_getElem?_getD, List.getElem?_eq_getElem hi]
      rfl
    show ((clearRows R row col).getD i []).getD j 0 = _
    rw [e]
    by_cases h : i = row
    · rw [if_neg (fun x => x h), if_pos h, h]; rfl
    · rw [if_pos h, if_neg h]
      unfold clearRow
      by_cases hz : (R.getD i []).getD col 0 = 0
      · rw [if_pos hz]
        show fn R i j = fn R i j ^^^ gmul (fn R row j) ((R.getD i []).getD col 0)
        rw [hz, gmul_zero, bx_zero]
      · rw [if_neg hz, getD_addS (by rw [hm _ (getD_mem' hi), hm _ (getD_mem' hr)])]
        rfl
  · rw [fn_out (by rw [clearRows_length]; omega), if_neg (by omega), fn_out (R := R) (i := i) (by omega), fn_out (R := R) (i := i) (by omega), gmul_zero, bx_zero]
theorem elimStep_fn {s : ES} {m : Nat} (hm : ∀ r ∈ s.1, r.length = m) {col q : Nat} (h : findRow s.1 s.2.1.length col = some q) :
    fn (elimStep s col).1 = rowop s.2.1.length q (ginv (fn s.1 q col)) (fun i => swp (fn s.1) s.2.1.length q i col) (fn s.1) ∧ (elimStep s col).2.1 = s.2.1 ++ [col] ∧ (elimStep s col).2.2 = gmul s.2.2 (fn s.1 q col) := by
  have hq := findRow_some h
  have hS := fn_swap s.1 (a := s.2.1.length) (b := q) (by omega) (by omega)
  have hp : swp (fn s.1) s.2.1.length q s.2.1.length col = fn s.1 q col := by
    rw [swp_row]
    by_cases e : s.2.1.length = q
    · rw [if_pos e, e]
    · rw [if_neg e, if_pos rfl]
  have e : elimStep s col = (clearRows (scaleRow (swapRows s.1 s.2.1.length q) s.2.1.length col) s.2.1.length col, s.2.1 ++ [col], gmul s.2.2 (((swapRows s.1 s.2.1.length q).getD s.2.1.length []).getD col 0)) := by
    unfold elimStep
    rw [h]
  rw [e]
  refine ⟨?_, rfl, ?_⟩
  · have h1 := swapRows_rows hm (i := s.2.1.length) (j := q) (by omega) (by omega)
    have h2 := scaleRow_rows h1 (i := s.2.1.length) col (by rw [swapRows_length]; omega)
    show fn (clearRows (scaleRow (swapRows s.1 s.2.1.length q) s.2.1.length col) s.2.1.length col) = _
    rw [fn_clear h2 col (by rw [scaleRow_length, swapRows_length]; omega), fn_scale _ col (by rw [swapRows_length]; omega), hS, hp]
    funext i j
    unfold rowop
    by_cases hi : i = s.2.1.length
    · rw [if_pos hi, if_pos hi, upd_at]
    · rw [if_neg hi, if_neg hi, upd_ne _ _ hi, upd_at]
  · show gmul s.2.2 (fn (swapRows s.1 s.2.1.length q) s.2.1.length col) = _
    rw [hS, hp]
theorem elim_ops {R : List (List B)} {m : Nat} (hm : ∀ r ∈ R, r.length = m) (cols : Nat) : ∃ F, Ops R.length (elimRun R cols).2.2 F ∧ fn (elimRun R cols).1 = F (fn R) := by
  induction cols with
  | zero => exact ⟨_, Ops.none _, rfl⟩
  | succ n ih =>
    obtain ⟨F, hF, hf⟩ := ih
    rw [elimRun_succ]
    have hl := elimRun_length R n
    cases hfind : findRow (elimRun R n).1 (elimRun R n).2.1.length n with
    | none =>
      have e : elimStep (elimRun R n) n = elimRun R n := by
        unfold elimStep
        rw [hfind]
      rw [e]
      exact ⟨F, hF, hf⟩
    | some q =>
      obtain ⟨h1, h2, h3⟩ := elimStep_fn (elimRun_rows hm n) hfind
      have hq := findRow_some hfind
      rw [h3, h1]
      refine ⟨_, hF.comp (Ops.one (k := (elimRun R n).2.1.length) (q := q) (by omega) (by omega) hq.2.2 (fun i => swp (fn (elimRun R n).1) (elimRun R n).2.1.length q i n)), ?_⟩
      rw [← hf]
      rfl
/-- The form that the elimination gives. -/
structure Form (A : Mx) (len cols : Nat) (piv : List Nat) : Prop where
  le : piv.length ≤ len
  inc : ∀ a b, a < b → b < piv.length → piv.getD a 0 < piv.getD b 0
  lt : ∀ a, a < piv.length → piv.getD a 0 < cols
  unit : ∀ a, a < piv.length → ∀ i, i < len → A i (piv.getD a 0) = if i = a then 1 else 0
  zero : ∀ i, piv.length ≤ i → i < len → ∀ j, j < cols → A i j = 0
theorem getD_append_left {l : List Nat} {x a : Nat} (h : a < l.length) : (l ++ [x]).getD a 0 = l.getD a 0 := by
  rw [List.getD_eq_getElem?_getD, List.getElem?_append_left h, ← List.getD_eq_getElem?_getD]
theorem getD_append_at (l : List Nat) (x : Nat) : (l ++ [x]).getD l.length 0 = x := by
  rw [List.getD_eq_getElem?_getD, List.getElem?_append_right (Nat.le_refl _)]
  simp
theorem findRow_none {R : List (List B)} {row col : Nat} (h : findRow R row col = none) {i : Nat} (h1 : row ≤ i) (h2 : i < R.length) : fn R i col = 0 := by
  unfold findRow at h
  rw [List.find?_range_eq_none] at h
  have := h i h2
  simp only [Bool.not_eq_true', Bool.and_eq_false_iff, decide_eq_false_iff_not] at this
  rcases this with e | e
  · exact absurd h1 e
  · exact Decidable.not_not.1 e
theorem elim_form {R : List (List B)} {m : Nat} (hm : ∀ r ∈ R, r.length = m) (cols : Nat) : Form (fn (elimRun R cols).1) R.length cols (elimRun R cols).2.1 := by
  induction cols with
  | zero => exact ⟨Nat.zero_le _, fun a b h hb => absurd hb (Nat.not_lt_zero _), fun a h => absurd h (Nat.not_lt_zero _), fun a h => absurd h (Nat.not_lt_zero _), fun _ _ _ j hj => absurd hj (Nat.not_lt_zero _)⟩
  | succ n ih =>
    rw [elimRun_succ]
    have hl := elimRun_length R n
    cases hfind : findRow (elimRun R n).1 (elimRun R n).2.1.length n with
    | none =>
      have e : elimStep (elimRun R n) n = elimRun R n := by
        unfold elimStep
        rw [hfind]
      rw [e]
      refine ⟨ih.le, ih.inc, fun a h => by have := ih.lt a h; omega, ih.unit, fun i h1 h2 j hj => ?_⟩
      by_cases ej : j = n
      · subst ej
        exact findRow_none hfind h1 (by omega)
      · exact ih.zero i h1 h2 j (by omega)
    | some q =>
      obtain ⟨h1, h2, h3⟩ := elimStep_fn (elimRun_rows hm n) hfind
      have hq := findRow_some hfind
      rw [h1, h2]
      generalize hk : (elimRun R n).2.1.length = k at *
      generalize hA : fn (elimRun R n).1 = A at *
      generalize hpv : (elimRun R n).2.1 = piv at *
      have hp : A q n ≠ 0 := by rw [← hA]; exact hq.2.2
      have hSk : ∀ j, swp A k q k j = A q j := by
        intro j
        rw [swp_row]
        by_cases e : k = q
        · rw [if_pos e, e]
        · rw [if_neg e, if_pos rfl]
      have hl1 : (piv ++ [n]).length = k + 1 := by simp; omega
      have unitn : ∀ i, i < R.length → rowop k q (ginv (A q n)) (fun i => swp A k q i n) A i n = if i = k then 1 else 0 := by
        intro i hi
        unfold rowop
        by_cases e : i = k
        · rw [if_pos e, if_pos e, hSk, gmul_ginv _ hp]
        · rw [if_neg e, if_neg e, hSk, gmul_ginv _ hp, one_gmul, bx_self]
      refine ⟨by omega, fun a b hab hb => ?_, fun a ha => ?_, fun a ha i hi => ?_, fun i g1 g2 j hj => ?_⟩
      · rw [hl1] at hb
        rw [getD_append_left (by omega)]
        by_cases e : b = k
        · subst e
          rw [show (piv ++ [n]).getD b 0 = n by rw [← hk]; exact getD_append_at piv n]
          exact ih.lt a (by omega)
        · rw [getD_append_left (by omega)]
          exact ih.inc a b hab (by omega)
      · rw [hl1] at ha
        by_cases e : a = k
        · subst e
          rw [show (piv ++ [n]).getD a 0 = n by rw [← hk]; exact getD_append_at piv n]
          omega
        · rw [getD_append_left (by omega)]
          have := ih.lt a (by omega)
          omega
      · rw [hl1] at ha
        by_cases e : a = k
        · subst e
          rw [show (piv ++ [n]).getD a 0 = n by rw [← hk]; exact getD_append_at piv n]
          exact unitn i hi
        · have hak : a < k := by omega
          rw [getD_append_left (by omega)]
          have hz : A q (piv.getD a 0) = 0 := by
            rw [ih.unit a (by omega) q (by omega), if_neg (by omega)]
          unfold rowop
          rw [hSk, hz, zero_gmul, zero_gmul]
          by_cases e1 : i = k
          · rw [if_pos e1, if_neg (by omega)]
          · rw [if_neg e1, bx_zero, swp_row]
            by_cases e2 : i = q
            · rw [if_pos e2, ih.unit a (by omega) k (by omega), if_neg (by omega), if_neg (by omega)]
            · rw [if_neg e2, if_neg e1]
              exact ih.unit a (by omega) i hi
      · rw [hl1] at g1
        by_cases e : j = n
        · subst e
          rw [unitn i g2, if_neg (by omega)]
        · have hz : A q j = 0 := ih.zero q (by omega) (by omega) j (by omega)
          unfold rowop
          rw [hSk, hz, zero_gmul, zero_gmul, if_neg (by omega), bx_zero, swp_row]
          refine ih.zero _ ?_ ?_ j (by omega)
          · split
            · omega
            · split <;> omega
          · split
            · omega
            · split <;> omega
end Go.Proofs.Ytpkghpljgjlmjaa.K
/- Products of the program and of the reference, plain: both are the sums of products. -/
namespace Go.Proofs.Ytpkghpljgjlmjaa.K
open Go.RowKit Go.Proofs.YtpkghpljgjlmjaaW.PrintWords Go.Proofs.YtpkghpljgjlmjaaW.PrintLast Go.Proofs.YtpkghpljgjlmjaaW.PrintMore Kin
set_option linter.unusedVariables false
/-- With rounds enough, F tells r. -/
def Evt {α : Type} (F : Nat → Option α) (r : α) : Prop := ∃ K, ∀ k, K ≤ k → F k = some r
theorem Evt.of {α : Type} {F : Nat → Option α} {r : α} (K : Nat) (h : ∀ k, K ≤ k → F k = some r) : Evt F r := ⟨K, h⟩
theorem Evt.succ {α : Type} {F G : Nat → Option α} {r : α} (h : Evt G r) (e : ∀ k, 300 ≤ k → F (k + 1) = G k) : Evt F r := by
  obtain ⟨K, h⟩ := h
  refine ⟨K + 301, fun k hk => ?_⟩
  obtain ⟨k, rfl⟩ : ∃ j, k = j + 1 := ⟨k - 1, by omega⟩
  rw [e k (by omega), h k (by omega)]
/-- The elements el i k in rows of cols. -/
def tabM (rows cols : Nat) (el : Nat → Nat → B) : List (List B) := (List.range rows).map fun i => (List.range cols).map fun k => el i k
theorem tabM_length (rows cols : Nat) (el : Nat → Nat → B) : (tabM rows cols el).length = rows := by simp [tabM]
theorem tabM_rows (rows cols : Nat) (el : Nat → Nat → B) : ∀ r ∈ tabM rows cols el, r.length = cols := by
  intro r hr
  obtain ⟨i, _, rfl⟩ := List.mem_map.1 hr
  simp
theorem tabM_fn {rows cols : Nat} (el : Nat → Nat → B) {i k : Nat} (hi : i < rows) (hk : k < cols) : fn (tabM rows cols el) i k = el i k := by
  have e : (tabM rows cols el).getD i [] = (List.range cols).map fun k => el i k := by
    unfold tabM
    rw [List.getD_eq_getElem?_getD, List.getElem?_map, List.getElem?_range hi]
    rfl
  unfold fn
  rw [e, List.getD_eq_getElem?_getD, List.getElem?_map, List.getElem?_range hk]
  rfl
theorem row_at {A : List (List B)} {i : Nat} (h : i < A.length) : A.getD i [] = A[i] := by
  rw [List.getD_eq_getElem?_getD, List.getElem?_eq_getElem h]; rfl
theorem mat_ext {A C : List (List B)} {r c : Nat} (h1 : A.length = r) (h2 : C.length = r) (hA : ∀ x ∈ A, x.length = c) (hC : ∀ x ∈ C, x.length = c) (h : ∀ i j, i < r → j < c → fn A i j = fn C i j) : A = C := by
  refine List.ext_getElem (by omega) (fun i g1 g2 => ?_)
  have a := hA _ (List.getElem_mem g1)
  have b := hC _ (List.getElem_mem g2)
  refine List.ext_getElem (by omega) (fun j g3 g4 => ?_)
  have := h i j (by omega) (by omega)
  unfold fn at this
  rw [row_at g1, row_at g2, List.getD_eq_getElem?_getD, List.getD_eq_getElem?_getD, List.getElem?_eq_getElem g3, List.getElem?_eq_getElem g4] at this
  exact this
def mulM (A C : List (List B)) (cols : Nat) : List (List B) := tabM A.length cols (mulF C.length (fn A) (fn C))
/-- One element set. -/
def setAt (M : List (List B)) (i k : Nat) (x : B) : List (List B) := M.set i ((M.getD i []).set k x)
theorem setAt_length (M : List (List B)) (i k : Nat) (x : B) : (setAt M i k x).length = M.length := by simp [setAt]
theorem setAt_row {M : List (List B)} {i : Nat} (hi : i < M.length) (k : Nat) (x : B) : (setAt M i k x).getD i [] = (M.getD i []).set k x := by
  unfold setAt
  rw [List.getD_eq_getElem?_getD, List.getElem?_set_self hi]
  rfl
theorem setAt_setAt {M : List (List B)} {i : Nat} (hi : i < M.length) (k : Nat) (x y : B) : (setAt M i k x).set i (((setAt M i k x).getD i []).set k y) = setAt M i k y := by
  rw [setAt_row hi, List.set_set]
  unfold setAt
  rw [List.set_set]
theorem setAt_get {M : List (List B)} {i k : Nat} (hi : i < M.length) (hk : k < (M.getD i []).length) (x : B) : ((setAt M i k x).getD i []).getD k 0 = x := by
  rw [setAt_row hi, List.getD_eq_getElem?_getD, List.getElem?_set_self hk]
  rfl
theorem set_getD_own {α : Type} (l : List α) (i : Nat) (d : α) (h : i < l.length) : l.set i (l.getD i d) = l := by
  rw [List.getD_eq_getElem?_getD, List.getElem?_eq_getElem h]
  exact List.set_getElem_self h
theorem fillM_at0 {rows cols : Nat} (el : Nat → Nat → B) {i k : Nat} (hi : i < rows) (hk : k < cols) : setAt (fillM rows cols el i k) i k 0 = fillM rows cols el i k := by
  have e : ((fillM rows cols el i k).getD i []).getD k 0 = 0 := by
    rw [fillM_get _ _ _ _ _ _ hi]
    unfold fillR
    rw [List.getD_eq_getElem?_getD, List.getElem?_map, List.getElem?_range hk]
    show (if _ then _ else _) = _
    rw [if_neg (by omega)]
  unfold setAt
  have h1 : ((fillM rows cols el i k).getD i []).set k 0 = (fillM rows cols el i k).getD i [] := by
    conv => lhs; rw [← e]
    exact set_getD_own _ _ _ (by rw [fillM_get _ _ _ _ _ _ hi, fillR_length]; exact hk)
  rw [h1]
  exact set_getD_own _ _ _ (by rw [fillM_length]; exact hi)
section
variable {A C : List (List B)} {cols : Nat}
theorem product_l2 (hA : ∀ r ∈ A, r.length = C.length) (hC : ∀ r ∈ C, r.length = cols) (hn : C.length ≤ 1000000) {R : List (List Int)} {i k : Nat} (hi : i < A.length) (hk : k < cols) (hk2 : k < 1000000)
    (next : Evt (fun K => kinkeepref04_Product.l1 K (up2 A) (up2 C) (up2 (fillM A.length cols (mulF C.length (fn A) (fn C)) i (k + 1))) (i : Int) ((k + 1 : Nat) : Int)) R) (m : Nat) :
    ∀ j, j + m = C.length → Evt (fun K => kinkeepref04_Product.l2 K (up2 A) (up2 C) (up2 (setAt (fillM A.length cols (mulF C.length (fn A) (fn C)) i k) i k (bsum j (fun t => gmul (fn A i t) (fn C t k))))) (i : Int) (k : Int) (j : Int)) R := by
  have hg : i < (fillM A.length cols (mulF C.length (fn A) (fn C)) i k).length := by rw [fillM_length]; exact hi
  have hr : k < ((fillM A.length cols (mulF C.length (fn A) (fn C)) i k).getD i []).length := by rw [fillM_get _ _ _ _ _ _ hi, fillR_length]; exact hk
  induction m with
  | zero =>
    intro j hj
    obtain rfl : j = C.length := by omega
    refine next.succ fun K _ => ?_
    simp only [kinkeepref04_Product.l2]
    rw [if_neg (by rw [up2_length]; omega), wrap_nx' _ (by omega), show setAt (fillM A.length cols (mulF C.length (fn A) (fn C)) i k) i k (bsum C.length (fun t => gmul (fn A i t) (fn C t k))) = fillM A.length cols (mulF C.length (fn A) (fn C)) i (k + 1) from fillM_step A.length cols (mulF C.length (fn A) (fn C)) i k hi hk]
  | succ m ih =>
    intro j hj
    refine (ih (j + 1) (by omega)).succ fun K hK => ?_
    have l1 : (A.getD i []).length = C.length := hA _ (getD_mem' hi)
    have l2 : (C.getD j []).length = cols := hC _ (getD_mem' (by omega))
    simp only [kinkeepref04_Product.l2]
    rw [if_pos (by rw [up2_length]; omega), if_pos (by omega), if_pos (by rw [up2_length, setAt_length]; omega), if_pos (by omega), rd_L1_up2, if_pos (by rw [up_length, setAt_row hg, List.length_set]; omega), if_pos (by rw [up2_length]; omega), if_pos (by omega), rd_L1_up2, if_pos (by rw [up_length]; omega), rd_L1_up2, if_pos (by rw [up_length]; omega), getD_up, getD_up, getD_up, refmul_b _ _ (by omega)]
    simp only [Option.bind_some]
    rw [setAt_get hg hr, xor_b2i, wrap_nx' _ (by omega), Int.toNat_natCast, Int.toNat_natCast, set_up, set_up2, setAt_setAt hg]
    rfl
theorem product_l1 (hA : ∀ r ∈ A, r.length = C.length) (hC : ∀ r ∈ C, r.length = cols) (hc0 : colsN C = cols) (hn : C.length ≤ 1000000) (hcl : cols ≤ 1000000) {R : List (List Int)} {i : Nat} (hi : i < A.length) (hi2 : i < 1000000)
    (next : Evt (fun K => kinkeepref04_Product.l0 K (up2 A) (up2 C) (up2 (fillM A.length cols (mulF C.length (fn A) (fn C)) (i + 1) 0)) ((i + 1 : Nat) : Int)) R) (m : Nat) :
    ∀ k, k + m = cols → Evt (fun K => kinkeepref04_Product.l1 K (up2 A) (up2 C) (up2 (fillM A.length cols (mulF C.length (fn A) (fn C)) i k)) (i : Int) (k : Int)) R := by
  induction m with
  | zero =>
    intro k hk
    obtain rfl : k = cols := by omega
    refine next.succ fun K _ => ?_
    simp only [kinkeepref04_Product.l1]
    rw [refcols_b, colsN_up2, hc0]
    simp only [Option.bind_some]
    rw [if_neg (by omega), wrap_nx' _ (by omega), fillM_next]
  | succ m ih =>
    intro k hk
    have := product_l2 hA hC hn hi (k := k) (by omega) (by omega) (ih (k + 1) (by omega)) C.length 0 (by omega)
    refine this.succ fun K _ => ?_
    simp only [kinkeepref04_Product.l1]
    rw [refcols_b, colsN_up2, hc0]
    simp only [Option.bind_some]
    rw [if_pos (by omega), show bsum 0 (fun t => gmul (fn A i t) (fn C t k)) = 0 from rfl, fillM_at0 _ hi (by omega)]
    rfl
theorem product_l0 (hA : ∀ r ∈ A, r.length = C.length) (hC : ∀ r ∈ C, r.length = cols) (hc0 : colsN C = cols) (hn : C.length ≤ 1000000) (hcl : cols ≤ 1000000) (hal : A.length ≤ 1000000) (m : Nat) :
    ∀ i, i + m = A.length → Evt (fun K => kinkeepref04_Product.l0 K (up2 A) (up2 C) (up2 (fillM A.length cols (mulF C.length (fn A) (fn C)) i 0)) (i : Int)) (up2 (mulM A C cols)) := by
  induction m with
  | zero =>
    intro i hi
    obtain rfl : i = A.length := by omega
    refine Evt.of 1 fun K hK => ?_
    obtain ⟨K, rfl⟩ : ∃ j, K = j + 1 := ⟨K - 1, by omega⟩
    simp only [kinkeepref04_Product.l0]
    rw [if_neg (by rw [up2_length]; omega), fillM_all]
    rfl
  | succ m ih =>
    intro i hi
    have := product_l1 hA hC hc0 hn hcl (i := i) (by omega) (by omega) (ih (i + 1) (by omega)) cols 0 (by omega)
    refine this.succ fun K _ => ?_
    simp only [kinkeepref04_Product.l0]
    rw [if_pos (by rw [up2_length]; omega)]
    rfl
theorem refproduct_b (hA : ∀ r ∈ A, r.length = C.length) (hC : ∀ r ∈ C, r.length = colsN C) (hn : C.length ≤ 1000000) (hcl : colsN C ≤ 1000000) (hal : A.length ≤ 1000000) :
    Evt (fun K => kinkeepref04_Product.f K (up2 A) (up2 C)) (up2 (mulM A C (colsN C))) := by
  obtain ⟨K, h⟩ := product_l0 hA hC rfl hn hcl hal A.length 0 (by omega)
  refine ⟨K + A.length + 1, fun k hk => ?_⟩
  unfold kinkeepref04_Product.f
  rw [refcols_b, colsN_up2]
  simp only [Option.bind_some]
  rw [up2_length, refzero_b _ _ hal (by omega) (by omega), ← fillM_zero A.length (colsN C) (mulF C.length (fn A) (fn C))]
  simp only [Option.bind_some]
  exact h k (by omega)
end
end Go.Proofs.Ytpkghpljgjlmjaa.K
/- Reduce of the reference, plain: it computes the elimination. -/
namespace Go.Proofs.Ytpkghpljgjlmjaa.K
open Go.RowKit Go.Proofs.YtpkghpljgjlmjaaW.PrintWords Go.Proofs.YtpkghpljgjlmjaaW.PrintLast Go.Proofs.YtpkghpljgjlmjaaW.PrintMore Kin
set_option linter.unusedVariables false
/-- A row of which the first k elements have been told anew. -/
def updR (r : List B) (g : Nat → B) (k : Nat) : List B := (List.range r.length).map fun j => if j < k then g j else r.getD j 0
theorem updR_length (r : List B) (g : Nat → B) (k : Nat) : (updR r g k).length = r.length := by simp [updR]
theorem updR_getD (r : List B) (g : Nat → B) (k : Nat) {j : Nat} (hj : j < r.length) : (updR r g k).getD j 0 = if j < k then g j else r.getD j 0 := by
  unfold updR
  rw [List.getD_eq_getElem?_getD, List.getElem?_map, List.getElem?_range hj]
  rfl
theorem row_ext {a b : List B} (h : a.length = b.length) (e : ∀ j, j < a.length → a.getD j 0 = b.getD j 0) : a = b := by
  refine List.ext_getElem h (fun j h1 h2 => ?_)
  have := e j h1
  rw [List.getD_eq_getElem?_getD, List.getD_eq_getElem?_getD, List.getElem?_eq_getElem h1, List.getElem?_eq_getElem h2] at this
  exact this
theorem updR_zero (r : List B) (g : Nat → B) : updR r g 0 = r :=
  row_ext (updR_length _ _ _) fun j hj => by
    rw [updR_length] at hj
    rw [updR_getD r g 0 hj, if_neg (by omega)]
theorem set_getD_eq (r : List B) (k : Nat) (x : B) (j : Nat) : (r.set k x).getD j 0 = if j = k ∧ k < r.length then x else r.getD j 0 := by
  rw [List.getD_eq_getElem?_getD, List.getElem?_set]
  by_cases h : k = j
  · subst h
    rw [if_pos rfl]
    by_cases h2 : k < r.length
    · rw [if_pos h2, if_pos ⟨rfl, h2⟩]; rfl
    · rw [if_neg h2, if_neg (by omega), List.getD_eq_getElem?_getD, List.getElem?_eq_none (by omega)]
  · rw [if_neg h, if_neg (by omega), List.getD_eq_getElem?_getD]
theorem updR_step (r : List B) (g : Nat → B) {k : Nat} (hk : k < r.length) : (updR r g k).set k (g k) = updR r g (k + 1) := by
  refine row_ext (by rw [List.length_set, updR_length, updR_length]) fun j hj => ?_
  rw [List.length_set, updR_length] at hj
  rw [set_getD_eq, updR_getD r g (k + 1) hj, updR_length]
  by_cases h : j = k
  · subst h
    rw [if_pos ⟨rfl, hk⟩, if_pos (by omega)]
  · rw [if_neg (by omega), updR_getD r g k hj]
    by_cases h2 : j < k
    · rw [if_pos h2, if_pos (by omega)]
    · rw [if_neg h2, if_neg (by omega)]
theorem set_row_at {R : List (List B)} {i : Nat} (hi : i < R.length) (r : List B) : (R.set i r).getD i [] = r := by
  rw [List.getD_eq_getElem?_getD, List.getElem?_set_self hi]; rfl
theorem set_row_ne {R : List (List B)} {i j : Nat} (h : j ≠ i) (r : List B) : (R.set i r).getD j [] = R.getD j [] := by
  rw [List.getD_eq_getElem?_getD, List.getElem?_set_ne (fun e => h e.symm), ← List.getD_eq_getElem?_getD]
theorem natInts_length (l : List Nat) : (natInts l).length = l.length := by simp [natInts]
section
variable {X0 : List (List Int)} {R : List (List Int) × List Int} {m : Nat} {piv : List Nat} {c : Nat}
theorem refred_l5 {S : List (List B)} (hS : ∀ r ∈ S, r.length = m) (hm : m ≤ 1000000) (hn : S.length ≤ 1000000) {i : Nat} (hi : i < S.length) (hp : piv.length < S.length) (hip : i ≠ piv.length) (x6 : List Int) (hx6 : x6.length = piv.length) (g : B)
    (next : Evt (fun K => refred.l4 K X0 (up2 (S.set i (updR (S.getD i []) (fun t => (S.getD i []).getD t 0 ^^^ gmul g ((S.getD piv.length []).getD t 0)) m))) x6 (c : Int) (piv.length : Int) ((i + 1 : Nat) : Int)) R) (n : Nat) :
    ∀ k, k + n = m → Evt (fun K => refred.l5 K X0 (up2 (S.set i (updR (S.getD i []) (fun t => (S.getD i []).getD t 0 ^^^ gmul g ((S.getD piv.length []).getD t 0)) k))) x6 (c : Int) (piv.length : Int) (i : Int) (b2i g) (k : Int)) R := by
  have l1 : (S.getD i []).length = m := hS _ (getD_mem' hi)
  have l2 : (S.getD piv.length []).length = m := hS _ (getD_mem' hp)
  induction n with
  | zero =>
    intro k hk
    obtain rfl : k = m := by omega
    refine next.succ fun K _ => ?_
    simp only [refred.l5]
    rw [if_neg (by omega), if_pos (by omega), if_pos (by rw [up2_length, List.length_set]; omega), rd_L1_up2, set_row_at hi, if_neg (by rw [up_length, updR_length]; omega), wrap_nx' _ (by omega)]
  | succ n ih =>
    intro k hk
    refine (ih (k + 1) (by omega)).succ fun K hK => ?_
    simp only [refred.l5]
    rw [if_neg (by omega), if_pos (by omega), if_pos (by rw [up2_length, List.length_set]; omega), rd_L1_up2, set_row_at hi, if_pos (by rw [up_length, updR_length]; omega), if_pos (by omega), if_pos (by omega), if_pos (by rw [up2_length, List.length_set]; omega), rd_L1_up2, set_row_ne (fun e => hip e.symm), if_pos (by rw [up_length]; omega), getD_up, getD_up, refmul_b _ _ (by omega)]
    simp only [Option.bind_some]
    rw [updR_getD _ _ _ (by omega), if_neg (by omega), xor_b2i, wrap_nx' _ (by omega), Int.toNat_natCast, Int.toNat_natCast, set_up, set_up2, List.set_set, updR_step (S.getD i []) (fun t => (S.getD i []).getD t 0 ^^^ gmul g ((S.getD piv.length []).getD t 0)) (by omega)]
theorem clearRow_upd {r pr : List B} (h : r.length = pr.length) (col : Nat) : updR r (fun t => r.getD t 0 ^^^ gmul (r.getD col 0) (pr.getD t 0)) r.length = clearRow pr col r := by
  have e : clearRow pr col r = addS r pr (r.getD col 0) ∨ (r.getD col 0 = 0 ∧ clearRow pr col r = r) := by
    unfold clearRow
    by_cases hz : r.getD col 0 = 0
    · rw [if_pos hz]; exact .inr ⟨hz, rfl⟩
    · rw [if_neg hz]; exact .inl rfl
  rcases e with e | ⟨hz, e⟩
  · rw [e]
    refine row_ext (by rw [updR_length, addS_length _ _ _ h]) fun j hj => ?_
    rw [updR_length] at hj
    rw [updR_getD _ _ _ hj, if_pos hj, getD_addS h, gmul_comm]
  · rw [e]
    refine row_ext (updR_length _ _ _) fun j hj => ?_
    rw [updR_length] at hj
    rw [updR_getD _ _ _ hj, if_pos hj, hz, zero_gmul, bx_zero]
theorem refred_l4 {S : List (List B)} (hS : ∀ r ∈ S, r.length = m) (hm : m ≤ 1000000) (hn : S.length ≤ 1000000) (hp : piv.length < S.length) (hc : c < m)
    (next : Evt (fun K => refred.l1 K X0 (up2 (clearRows S piv.length c)) (natInts (piv ++ [c])) ((c + 1 : Nat) : Int)) R) (n : Nat) :
    ∀ i, i + n = S.length → Evt (fun K => refred.l4 K X0 (up2 (clearUpto S piv.length c i)) (natInts piv) (c : Int) (piv.length : Int) (i : Int)) R := by
  induction n with
  | zero =>
    intro i hi
    obtain rfl : i = S.length := by omega
    refine next.succ fun K _ => ?_
    simp only [refred.l4]
    rw [if_neg (by rw [up2_length, clearUpto_length]; omega), if_pos (by rw [natInts_length]; omega), wrap_nx' _ (by omega), clearUpto_all]
    simp [natInts]
  | succ n ih =>
    intro i hi
    have hi' : i < S.length := by omega
    have hnext := ih (i + 1) (by omega)
    have hrows : ∀ r ∈ clearUpto S piv.length c i, r.length = m := by
      intro r hr
      unfold clearUpto at hr
      rw [List.mem_mapIdx] at hr
      obtain ⟨q, hq, rfl⟩ := hr
      split
      · exact clearRow_length (hS _ (getD_mem' hp)) (hS _ (List.getElem_mem hq)) c
      · exact hS _ (List.getElem_mem hq)
    have hri : (clearUpto S piv.length c i).getD i [] = S.getD i [] := by rw [clearUpto_get _ _ _ _ _ hi', if_neg (by omega)]
    have hrp : (clearUpto S piv.length c i).getD piv.length [] = S.getD piv.length [] := by rw [clearUpto_get _ _ _ _ _ hp, if_neg (by omega)]
    have hlen := clearUpto_length S piv.length c i
    have l1 : (S.getD i []).length = m := hS _ (getD_mem' hi')
    have l2 : (S.getD piv.length []).length = m := hS _ (getD_mem' hp)
    by_cases e : i = piv.length
    · refine (hnext.succ (F := fun K => refred.l5 K X0 (up2 (clearUpto S piv.length c i)) (natInts piv) (c : Int) (piv.length : Int) (i : Int) (b2i ((S.getD i []).getD c 0)) 0) fun K _ => ?_).succ fun K _ => ?_
      · simp only [refred.l5]
        rw [if_pos (by omega), wrap_nx' _ (by omega), clearUpto_succ S piv.length c i hi', if_neg (by simpa using e), ← hri, set_getD_self]
      · simp only [refred.l4]
        rw [if_pos (by rw [up2_length, hlen]; omega), if_pos (by omega), if_pos (by omega), rd_L1_up2, hri, if_pos (by rw [up_length]; omega), getD_up]
    · have hl := refred_l5 (X0 := X0) (R := R) (c := c) (piv := piv) hrows hm (by omega) (i := i) (by omega) (by omega) e (natInts piv) (natInts_length _) ((S.getD i []).getD c 0) (by
        rw [hri, hrp]
        have ee := clearRow_upd (r := S.getD i []) (pr := S.getD piv.length []) (by omega) c
        rw [l1] at ee
        rw [ee]
        rw [clearUpto_succ S piv.length c i hi', if_pos e] at hnext
        exact hnext) m 0 (by omega)
      rw [updR_zero, set_getD_self] at hl
      refine hl.succ fun K _ => ?_
      simp only [refred.l4]
      rw [if_pos (by rw [up2_length, hlen]; omega), if_pos (by omega), if_pos (by omega), rd_L1_up2, hri, if_pos (by rw [up_length]; omega), getD_up]
      rfl
theorem refred_l3 {S : List (List B)} (hS : ∀ r ∈ S, r.length = m) (hm : m ≤ 1000000) (hn : S.length ≤ 1000000) (hp : piv.length < S.length) (f : B)
    (next : Evt (fun K => refred.l4 K X0 (up2 (S.set piv.length (updR (S.getD piv.length []) (fun t => gmul ((S.getD piv.length []).getD t 0) f) m))) (natInts piv) (c : Int) (piv.length : Int) 0) R) (n : Nat) :
    ∀ k, k + n = m → Evt (fun K => refred.l3 K X0 (up2 (S.set piv.length (updR (S.getD piv.length []) (fun t => gmul ((S.getD piv.length []).getD t 0) f) k))) (natInts piv) (c : Int) (piv.length : Int) (b2i f) (k : Int)) R := by
  have l2 : (S.getD piv.length []).length = m := hS _ (getD_mem' hp)
  induction n with
  | zero =>
    intro k hk
    obtain rfl : k = m := by omega
    refine next.succ fun K _ => ?_
    simp only [refred.l3]
    rw [if_pos (by omega), if_pos (by rw [up2_length, List.length_set]; omega), rd_L1_up2, set_row_at hp, if_neg (by rw [up_length, updR_length]; omega)]
  | succ n ih =>
    intro k hk
    refine (ih (k + 1) (by omega)).succ fun K hK => ?_
    simp only [refred.l3]
    rw [if_pos (by omega), if_pos (by rw [up2_length, List.length_set]; omega), rd_L1_up2, set_row_at hp, if_pos (by rw [up_length, updR_length]; omega), if_pos (by omega), getD_up, refmul_b _ _ (by omega)]
    simp only [Option.bind_some]
    rw [updR_getD _ _ _ (by omega), if_neg (by omega), wrap_nx' _ (by omega), Int.toNat_natCast, Int.toNat_natCast, set_up, set_up2, List.set_set, updR_step (S.getD piv.length []) (fun t => gmul ((S.getD piv.length []).getD t 0) f) (by omega)]
theorem scaleRow_upd {S : List (List B)} {p c m : Nat} (l : (S.getD p []).length = m) : S.set p (updR (S.getD p []) (fun t => gmul ((S.getD p []).getD t 0) (ginv ((S.getD p []).getD c 0))) m) = scaleRow S p c := by
  unfold scaleRow
  congr 1
  refine row_ext (by rw [updR_length, List.length_map]) fun j hj => ?_
  rw [updR_length] at hj
  rw [updR_getD _ _ _ hj, if_pos (by omega), getD_map_zero (fun x => gmul x _) (zero_gmul _)]
theorem swL_up2 (S : List (List B)) (i j : Nat) : swL (up2 S) (i : Int) (j : Int) = up2 (swapRows S i j) := by
  unfold swL swapRows
  rw [rd_L1_up2, rd_L1_up2, Int.toNat_natCast, Int.toNat_natCast, set_up2, set_up2]
theorem refred_j3_some {S : List (List B)} (hS : ∀ r ∈ S, r.length = m) (hm : m ≤ 1000000) (hn : S.length ≤ 1000000) (hp : piv.length < S.length) (hc : c < m) {q : Nat} (hq : q < S.length)
    (next : Evt (fun K => refred.l1 K X0 (up2 (clearRows (scaleRow (swapRows S piv.length q) piv.length c) piv.length c)) (natInts (piv ++ [c])) ((c + 1 : Nat) : Int)) R) :
    Evt (fun K => refred.j3 K X0 (up2 S) (natInts piv) (c : Int) (piv.length : Int) (q : Int)) R := by
  have h1 := swapRows_rows hS hp hq
  have h2 := scaleRow_rows h1 (i := piv.length) c (by rw [swapRows_length]; exact hp)
  have hl := swapRows_length S piv.length q
  have hl2 := scaleRow_length (swapRows S piv.length q) piv.length c
  have l2 : ((swapRows S piv.length q).getD piv.length []).length = m := h1 _ (getD_mem' (by omega))
  have a4 := refred_l4 (X0 := X0) (R := R) h2 hm (by omega) (by omega) hc next _ 0 (Nat.zero_add _)
  rw [clearUpto_zero] at a4
  have g1 : (swapRows S piv.length q).length ≤ 1000000 := by omega
  have g2 : piv.length < (swapRows S piv.length q).length := by omega
  have a3 := refred_l3 (X0 := X0) (R := R) (piv := piv) (c := c) h1 hm g1 g2 (ginv (((swapRows S piv.length q).getD piv.length []).getD c 0)) (by rw [scaleRow_upd l2]; exact a4) m 0 (by omega)
  rw [updR_zero, set_getD_self] at a3
  refine (a3.succ (F := fun K => refred.j4 K X0 (up2 (swapRows S piv.length q)) (natInts piv) (c : Int) (piv.length : Int)) fun K hK => ?_).succ fun K _ => ?_
  · simp only [refred.j4]
    rw [if_pos (by omega), if_pos (by rw [up2_length]; omega), if_pos (by omega), rd_L1_up2, if_pos (by rw [up_length]; omega), getD_up, refinv_b _ (by omega)]
    rfl
  · simp only [refred.j3]
    rw [if_neg (by rw [up2_length]; omega), if_pos (by simp only [swOk, up2_length, Bool.and_eq_true, decide_eq_true_eq]; omega), swL_up2]
theorem refred_l2 {S : List (List B)} (hS : ∀ r ∈ S, r.length = m) (hn : S.length ≤ 1000000) (hc : c < m) (t : Nat) (ht : t ≤ S.length) (hz : t < S.length → (S.getD t []).getD c 0 ≠ 0)
    (next : Evt (fun K => refred.j3 K X0 (up2 S) (natInts piv) (c : Int) (piv.length : Int) (t : Int)) R) (n : Nat) :
    ∀ i, i + n = t → (∀ j, i ≤ j → j < t → (S.getD j []).getD c 0 = 0) → Evt (fun K => refred.l2 K X0 (up2 S) (natInts piv) (c : Int) (piv.length : Int) (i : Int)) R := by
  induction n with
  | zero =>
    intro i hi _
    obtain rfl : i = t := by omega
    refine next.succ fun K _ => ?_
    simp only [refred.l2]
    by_cases h : i < S.length
    · have l1 : (S.getD i []).length = m := hS _ (getD_mem' h)
      rw [if_pos (by rw [up2_length]; omega), if_pos (by omega), if_pos (by omega), rd_L1_up2, if_pos (by rw [up_length]; omega), getD_up, if_neg (fun e => hz h (b2i_eq_zero.1 e))]
    · rw [if_neg (by rw [up2_length]; omega)]
  | succ n ih =>
    intro i hi hz0
    refine (ih (i + 1) (by omega) (fun j h1 h2 => hz0 j (by omega) h2)).succ fun K _ => ?_
    have l1 : (S.getD i []).length = m := hS _ (getD_mem' (by omega))
    simp only [refred.l2]
    rw [if_pos (by rw [up2_length]; omega), if_pos (by omega), if_pos (by omega), rd_L1_up2, if_pos (by rw [up_length]; omega), getD_up, if_pos (b2i_eq_zero.2 (hz0 i (Nat.le_refl _) (by omega))), wrap_nx' _ (by omega)]
end
theorem findRow_first {R : List (List B)} {row col k : Nat} (h : findRow R row col = some k) {j : Nat} (h1 : row ≤ j) (h2 : j < k) : (R.getD j []).getD col 0 = 0 := by
  unfold findRow at h
  rw [List.find?_range_eq_some] at h
  obtain ⟨_, _, h3⟩ := h
  have := h3 j h2
  simp only [Bool.not_eq_true', Bool.and_eq_false_iff, decide_eq_false_iff_not] at this
  rcases this with e | e
  · exact absurd h1 e
  · exact Decidable.not_not.1 e
theorem refred_l1 {M : List (List B)} (hM : ∀ r ∈ M, r.length = colsN M) (hm : colsN M ≤ 1000000) (hn : M.length ≤ 1000000) (n : Nat) :
    ∀ c, c + n = colsN M → Evt (fun K => refred.l1 K (up2 M) (up2 (elimRun M c).1) (natInts (elimRun M c).2.1) (c : Int)) (up2 (elimRun M (colsN M)).1, natInts (elimRun M (colsN M)).2.1) := by
  induction n with
  | zero =>
    intro c hc
    obtain rfl : c = colsN M := by omega
    refine Evt.of 1 fun K hK => ?_
    obtain ⟨K, rfl⟩ : ∃ j, K = j + 1 := ⟨K - 1, by omega⟩
    simp only [refred.l1]
    rw [refcols_b, colsN_up2]
    simp only [Option.bind_some]
    rw [if_neg (by omega)]
  | succ n ih =>
    intro c hc
    have hnext := ih (c + 1) (by omega)
    rw [elimRun_succ] at hnext
    have hS := elimRun_rows hM c
    have hl := elimRun_length M c
    have hpl := elimRun_piv M c
    generalize elimRun M c = s at *
    obtain ⟨S, piv, d⟩ := s
    simp only at hS hl hpl hnext ⊢
    have go : ∀ t, t ≤ S.length → piv.length ≤ t → (t < S.length → (S.getD t []).getD c 0 ≠ 0) → (∀ j, piv.length ≤ j → j < t → (S.getD j []).getD c 0 = 0) →
        Evt (fun K => refred.j3 K (up2 M) (up2 S) (natInts piv) (c : Int) (piv.length : Int) (t : Int)) (up2 (elimRun M (colsN M)).1, natInts (elimRun M (colsN M)).2.1) →
        Evt (fun K => refred.l1 K (up2 M) (up2 S) (natInts piv) (c : Int)) (up2 (elimRun M (colsN M)).1, natInts (elimRun M (colsN M)).2.1) := by
      intro t h1 h2 h3 h4 h5
      refine (refred_l2 hS (by omega) (by omega) t h1 h3 h5 (t - piv.length) piv.length (by omega) h4).succ fun K _ => ?_
      simp only [refred.l1]
      rw [refcols_b, colsN_up2]
      simp only [Option.bind_some]
      rw [if_pos (by omega), natInts_length]
    cases hfind : findRow S piv.length c with
    | none =>
      have e : elimStep (S, piv, d) c = (S, piv, d) := by
        unfold elimStep
        simp only [hfind]
      rw [e] at hnext
      refine go S.length (Nat.le_refl _) (by omega) (fun h => absurd h (Nat.lt_irrefl _)) (fun j h1 h2 => findRow_none hfind h1 h2) ?_
      refine hnext.succ fun K _ => ?_
      simp only [refred.j3]
      rw [if_pos (by rw [up2_length]), wrap_nx' _ (by omega)]
    | some q =>
      have hq := findRow_some hfind
      have e : elimStep (S, piv, d) c = (clearRows (scaleRow (swapRows S piv.length q) piv.length c) piv.length c, piv ++ [c], gmul d (((swapRows S piv.length q).getD piv.length []).getD c 0)) := by
        unfold elimStep
        simp only [hfind]
      rw [e] at hnext
      exact go q (by omega) hq.1 (fun _ => hq.2.2) (fun j h1 h2 => findRow_first hfind h1 h2) (refred_j3_some hS hm (by omega) (by omega) (by omega) hq.2.1 hnext)
theorem refred_l0 {M : List (List B)} {R : List (List Int) × List Int} (hM : ∀ r ∈ M, r.length = colsN M) (hn : M.length ≤ 1000000)
    (next : Evt (fun K => refred.l1 K (up2 M) (up2 M) [] 0) R) (n : Nat) :
    ∀ i, i + n = M.length → Evt (fun K => refred.l0 K (up2 M) (up2 (M.take i ++ List.replicate (M.length - i) (List.replicate (colsN M) 0))) (i : Int)) R := by
  induction n with
  | zero =>
    intro i hi
    obtain rfl : i = M.length := by omega
    refine next.succ fun K _ => ?_
    simp only [refred.l0]
    rw [if_neg (by rw [up2_length]; omega), Nat.sub_self, List.take_length, List.replicate_zero, List.append_nil]
  | succ n ih =>
    intro i hi
    refine (ih (i + 1) (by omega)).succ fun K _ => ?_
    have hi' : i < M.length := by omega
    have hlen : (M.take i ++ List.replicate (M.length - i) (List.replicate (colsN M) (0 : B))).length = M.length := by simp; omega
    have hrow : (M.take i ++ List.replicate (M.length - i) (List.replicate (colsN M) (0 : B))).getD i [] = List.replicate (colsN M) 0 := by
      rw [List.getD_eq_getElem?_getD, List.getElem?_append_right (by simp; omega), List.getElem?_replicate, if_pos (by simp; omega)]
      rfl
    have hset : (M.take i ++ List.replicate (M.length - i) (List.replicate (colsN M) (0 : B))).set i (M.getD i []) = M.take (i + 1) ++ List.replicate (M.length - (i + 1)) (List.replicate (colsN M) 0) := by
      rw [List.set_append_right _ _ (by simp; omega), show i - (M.take i).length = 0 by simp; omega, show M.length - i = (M.length - (i + 1)) + 1 by omega, List.replicate_succ, List.set_cons_zero, row_at hi', show M.take (i + 1) = M.take i ++ [M[i]] from List.take_succ_eq_append_getElem hi', List.append_assoc]
      rfl
    simp only [refred.l0]
    rw [if_pos (by rw [up2_length]; omega), if_pos (by
      simp only [cpOk, Bool.and_eq_true, decide_eq_true_eq]
      rw [up2_length, hlen, rd_L1_up2, rd_L1_up2, up_length, up_length, hrow, hM _ (getD_mem' hi')]
      simp; omega), rd_L1_up2, Int.toNat_natCast, set_up2, hset, wrap_nx' _ (by omega)]
theorem refred_b {M : List (List B)} (hM : ∀ r ∈ M, r.length = colsN M) (hm : colsN M ≤ 1000000) (hn : M.length ≤ 1000000) : Evt (fun K => refred.f K (up2 M)) (up2 (elimRun M (colsN M)).1, natInts (elimRun M (colsN M)).2.1) := by
  have h1 := refred_l1 hM hm hn (colsN M) 0 (by omega)
  obtain ⟨K, h⟩ := refred_l0 hM hn h1 M.length 0 (by omega)
  refine ⟨K + M.length + 1, fun k hk => ?_⟩
  unfold refred.f
  rw [refcols_b, colsN_up2]
  simp only [Option.bind_some]
  rw [up2_length, refzero_b _ _ hn (by omega) (by omega)]
  simp only [Option.bind_some]
  have := h k (by omega)
  simp only [List.take_zero, List.nil_append, Nat.sub_zero] at this
  exact this
end Go.Proofs.Ytpkghpljgjlmjaa.K
/- Reduce of the reference: what it computes is the elimination. -/
namespace Go.Proofs.Ytpkghpljgjlmjaa.K
open Go.RowKit Go.Proofs.YtpkghpljgjlmjaaW.PrintWords Go.Proofs.YtpkghpljgjlmjaaW.PrintLast Go.Proofs.YtpkghpljgjlmjaaW.PrintMore Kin
set_option linter.unusedVariables false
def kinkeepref04_Reduce.f (l0 : List (List Int)) : Option ((List (List Int)) × List Int) :=
  if validB l0 = true then (if bytes2 l0 = true then some (up2 (elimRun (toB2 l0) (colsN l0)).1, natInts (elimRun (toB2 l0) (colsN l0)).2.1) else none) else none
theorem kinkeepref04_Reduce.calls (A0 : Option Addr) (c0 : Nat) (l0 : List (List Int)) (r1 : List (List Int)) (r2 : List Int) (w : World) (hr0 : Kd.C (Kd.slice 5 (Kd.int .u8)) w A0 l0.length l0) (hc0 : l0.length ≤ c0) (h : kinkeepref04_Reduce.f l0 = some (r1, r2)) :
    Calls Try.prog 20 #[.slice A0 l0.length c0] w fun e w' => ∃ v0_ v1_ : Value, e = .returned (.tuple #[v0_, v1_]) ∧ Kd.S (Kd.slice 5 (Kd.int .u8)) 34 w' w.heap.size (fun _ => True) v0_ r1 ∧ Kd.R (Kd.int .i64) 3 w' w.heap.size (fun _ => True) v1_ r2 ∧ Below w.heap.size w w' := by
  unfold kinkeepref04_Reduce.f at h
  split at h
  · rename_i hv
    split at h
    · rename_i hb
      obtain ⟨M, rfl⟩ := exists_bytes2 hb
      rw [validB_up2] at hv
      rw [toB2_up2, colsN_up2] at h
      obtain ⟨h1, h2, h3⟩ := validB_lim hv
      obtain ⟨K, hK⟩ := refred_b h3 (by omega) (by omega)
      exact refred.calls K A0 c0 (up2 M) r1 r2 w hr0 hc0 ((hK K (Nat.le_refl _)).trans h)
    · cases h
  · cases h
theorem refreduce_up (M : List (List B)) (hv : validB M = true) : kinkeepref04_Reduce.f (up2 M) = some (up2 (elimRun M (colsN M)).1, natInts (elimRun M (colsN M)).2.1) := by
  unfold kinkeepref04_Reduce.f
  rw [if_pos (by rw [validB_up2]; exact hv), if_pos (bytes2_up2 M), toB2_up2, colsN_up2]
end Go.Proofs.Ytpkghpljgjlmjaa.K
